/- Plain: a value's graph in a heap. -/
import Derived.Test.YtilhglnfjaablaaShapeG
namespace Go.Proofs.Ytilhglnfjaablaa
set_option linter.unusedVariables false
namespace Em
/-- Where a word is, in a row of words. -/
def pos : List Int → Int → Option Nat
  | [], _ => none
  | a :: t, n => if a = n then some 0 else (pos t n).map (· + 1)
theorem pos_lt {ws : List Int} {n : Int} {i : Nat} (h : pos ws n = some i) : i < ws.length := by
  induction ws generalizing i with
  | nil => cases h
  | cons a t ih =>
    rw [pos] at h
    split at h
    · injection h with h
      subst h
      simp
    · obtain ⟨j, hj, rfl⟩ := Option.map_eq_some_iff.1 h
      have := ih hj
      simp only [List.length_cons]
      omega
theorem pos_none {ws : List Int} {n : Int} : pos ws n = none ↔ n ∉ ws := by
  induction ws with
  | nil => simp [pos]
  | cons a t ih =>
    rw [pos]
    split
    · next h => simp [h]
    · next h => simp [ih, Ne.symm h]
theorem pos_snoc {ws : List Int} {n : Int} (h : pos ws n = none) (m : Int) : pos (ws ++ [n]) m = if m = n then some ws.length else pos ws m := by
  induction ws with
  | nil =>
    simp only [List.nil_append, pos, List.length_nil]
    by_cases e : m = n
    · rw [if_pos e, if_pos e.symm]
    · rw [if_neg e, if_neg fun h => e h.symm]
      rfl
  | cons a t ih =>
    rw [pos] at h
    split at h
    · cases h
    · next hne =>
      have ih := ih (by simpa using h)
      rw [List.cons_append, pos, pos, ih]
      by_cases e : m = n
      · rw [if_pos e, if_pos e, if_neg (by rw [e]; exact hne)]
        rfl
      · rw [if_neg e, if_neg e]
/-- Of words, how many are not seen. -/
def uns (U ws : List Int) : Nat := U.countP fun x => decide (x ∉ ws)
theorem uns_pre {U ws ws' : List Int} (h : ws <+: ws') : uns U ws' ≤ uns U ws := by
  obtain ⟨t, rfl⟩ := h
  unfold uns
  refine List.countP_mono_left fun x _ hx => ?_
  simp only [decide_eq_true_eq, List.mem_append, not_or] at hx ⊢
  exact hx.1
theorem uns_snoc {U ws : List Int} {n : Int} (h : n ∈ U) (h2 : n ∉ ws) : uns U (ws ++ [n]) + 1 ≤ uns U ws := by
  induction U with
  | nil => cases h
  | cons a t ih =>
    unfold uns at ih ⊢
    rw [List.countP_cons, List.countP_cons]
    by_cases e : a = n
    · subst e
      have h3 := uns_pre (U := t) (List.prefix_append ws [a])
      unfold uns at h3
      simp [h2]
      simpa using h3
    · have h4 := ih (by rcases List.mem_cons.1 h with h | h; exact absurd h.symm e; exact h)
      by_cases hw : a ∈ ws
      · simp [hw]
        simpa using h4
      · simp [hw, e]
        simp at h4
        omega
/-- A drawing under way: the words that came, their blocks; is one none? -/
structure Dw where
  ws : List Int
  bl : List Blk
  bad : Bool
/-- A row of words as values. -/
def kidsP (r : Int → Dw → (Bool × Int) × Dw) : List Int → Dw → List (Bool × Int) × Dw
  | [], s => ([], s)
  | x :: t, s => ((r x s).1 :: (kidsP r t (r x s).2).1, (kidsP r t (r x s).2).2)
theorem kidsP_snoc (r : Int → Dw → (Bool × Int) × Dw) (l : List Int) (x : Int) (s : Dw) : kidsP r (l ++ [x]) s = ((kidsP r l s).1 ++ [(r x (kidsP r l s).2).1], (r x (kidsP r l s).2).2) := by
  induction l generalizing s with
  | nil => rfl
  | cons a t ih =>
    rw [List.cons_append, kidsP, kidsP, ih]
    rfl
theorem kidsP_len (r : Int → Dw → (Bool × Int) × Dw) (l : List Int) (s : Dw) : (kidsP r l s).1.length = l.length := by
  induction l generalizing s with
  | nil => rfl
  | cons a t ih => simp [kidsP, ih]
def Blk.str! (b : Blk) (s : List UInt8) : Blk := ⟨b.tag, s, b.kids⟩
def Blk.kids! (b : Blk) (k : List (Bool × Int)) : Blk := ⟨b.tag, b.str, k⟩
end Em
end Go.Proofs.Ytilhglnfjaablaa
