/- Plain: bytes cut short, or with more behind, are none. -/
import Derived.Test.YtoehaijmkmdggaaRdG
namespace Go.Proofs.Ytoehaijmkmdggaa
open Em (Ty)
set_option linter.unusedVariables false
namespace Em
def Rd.app (s : Rd) (y : List UInt8) : Rd := ⟨s.b ++ y, s.bl, s.ty⟩
theorem get_app {b : List UInt8} {v n : Nat} (h : getN b = some (v, n)) (y : List UInt8) : getN (b ++ y) = some (v, n) ∧ (b ++ y).drop n = b.drop n ++ y := by
  obtain ⟨h1, h2, h3, h4⟩ := get_some h
  refine ⟨?_, by rw [List.drop_append_of_le_length h4]⟩
  have e := get_append h
  rw [e, List.append_assoc, get_put h1, h3]
theorem numP_app {s s' : Rd} {v : Nat} (h : numP s = .ok v s') (y : List UInt8) : numP (s.app y) = .ok v (s'.app y) := by
  unfold numP at h ⊢
  split at h
  · cases h
  · next v n e =>
    injection h with h1 h2
    subst h1 h2
    obtain ⟨e1, e2⟩ := get_app e y
    rw [show (s.app y).b = s.b ++ y from rfl, e1]
    simp only [Rd.app, e2]
theorem immP_app {o : List UInt8} {s s' : Rd} {x : Bool × Int} (h : immP o s = .ok x s') (y : List UInt8) : immP o (s.app y) = .ok x (s'.app y) := by
  unfold immP at h ⊢
  split at h
  · next c =>
    injection h with h1 h2
    subst h1 h2
    rw [if_pos c]
  · next c =>
    rw [if_neg c]
    split at h
    · cases h
    · next e =>
      rw [numP_app e y]
      split at h
      · cases h
      · next c2 =>
        injection h with h1 h2
        subst h1 h2
        simp only []
        rw [if_neg c2]
theorem strP_app {s s' : Rd} {x : List UInt8} (h : strP s = .ok x s') (y : List UInt8) : strP (s.app y) = .ok x (s'.app y) := by
  unfold strP at h ⊢
  split at h
  · cases h
  · next n s1 e =>
    rw [numP_app e y]
    split at h
    · cases h
    · next c =>
      injection h with h1 h2
      subst h1 h2
      show (if (s1.app y).b.length < n then Out.err 2 else .ok ((s1.app y).b.take n) ⟨(s1.app y).b.drop n, s1.bl, s1.ty⟩) = _
      rw [if_neg (show ¬ (s1.app y).b.length < n from by show ¬ (s1.b ++ y).length < n; rw [List.length_append]; omega)]
      simp only [Rd.app]
      rw [List.take_append_of_le_length (by omega), List.drop_append_of_le_length (by omega)]
theorem refV_app {t : Ty} {v : Nat} {s s' : Rd} {x : Bool × Int} (h : refV t v s = .ok x s') (y : List UInt8) : refV t v (s.app y) = .ok x (s'.app y) := by
  unfold refV at h ⊢
  rw [show (s.app y).ty = s.ty from rfl]
  split at h
  · cases h
  · next t' e =>
    split at h
    · next c =>
      injection h with h1 h2
      subst h1 h2
      exact if_pos c
    · cases h
theorem kidsA_app {r : Ty → Rd → Out (Bool × Int)} (y : List UInt8) (hr : ∀ t s x s', r t s = .ok x s' → r t (s.app y) = .ok x (s'.app y)) : ∀ (ts : List Ty) (xs : List (Bool × Int)) (s : Rd) (ks : List (Bool × Int)) (s' : Rd), kidsA r xs ts s = .ok ks s' → kidsA r xs ts (s.app y) = .ok ks (s'.app y)
  | [], xs, s, ks, s', h => by
    injection h with h1 h2
    subst h1 h2
    rfl
  | t :: ts, xs, s, ks, s', h => by
    rw [kidsA] at h ⊢
    split at h
    · cases h
    · next x s1 e =>
      rw [hr t s x s1 e]
      exact kidsA_app y hr ts _ _ _ _ h
theorem kidsA_app7 {r : Ty → Rd → Out (Bool × Int)} (y : List UInt8) (hr : ∀ t s x s', r t s = .ok x s' → r t (s.app y) = .ok x (s'.app y)) (h7 : ∀ t s, r t s = .err 7 → r t (s.app y) = .err 7) : ∀ (ts : List Ty) (xs : List (Bool × Int)) (s : Rd), kidsA r xs ts s = .err 7 → kidsA r xs ts (s.app y) = .err 7
  | [], xs, s, h => by cases h
  | t :: ts, xs, s, h => by
    rw [kidsA] at h ⊢
    split at h
    · next c e =>
      injection h with h
      subst h
      rw [h7 t s e]
    · next x s1 e =>
      rw [hr t s x s1 e]
      exact kidsA_app7 y hr h7 ts _ _ h
theorem push_app (s : Rd) (t : Ty) (y : List UInt8) : (s.app y).push t = (s.push t).app y := rfl
theorem blkP_app {r : Ty → Rd → Out (Bool × Int)} (y : List UInt8) (hr : ∀ t s x s', r t s = .ok x s' → r t (s.app y) = .ok x (s'.app y)) {t : Ty} {s s' : Rd} {x : Bool × Int} (h : blkP r t s = .ok x s') : blkP r t (s.app y) = .ok x (s'.app y) := by
  unfold blkP at h ⊢
  rw [show (s.app y).bl = s.bl from rfl, push_app]
  split at h
  · cases h
  · next c =>
    rw [if_neg c]
    split at h
    · next c2 =>
      rw [if_pos c2]
      split at h
      · cases h
      · next e =>
        injection h with h1 h2
        subst h1 h2
        rw [strP_app e y]
        rfl
    · next c2 =>
      rw [if_neg c2]
      split at h
      · cases h
      · next e =>
        injection h with h1 h2
        subst h1 h2
        rw [kidsA_app y hr _ _ _ _ _ e]
        rfl
theorem blkP_app7 {r : Ty → Rd → Out (Bool × Int)} (y : List UInt8) (hr : ∀ t s x s', r t s = .ok x s' → r t (s.app y) = .ok x (s'.app y)) (h7 : ∀ t s, r t s = .err 7 → r t (s.app y) = .err 7) {t : Ty} {s : Rd} (h : blkP r t s = .err 7) : blkP r t (s.app y) = .err 7 := by
  unfold blkP at h ⊢
  rw [show (s.app y).bl = s.bl from rfl, push_app]
  split at h
  · next c => rw [if_pos c]
  · next c =>
    rw [if_neg c]
    split at h
    · next c2 =>
      split at h
      · next e =>
        injection h with h
        subst h
        exact absurd (strP_err e) (by decide)
      · cases h
    · next c2 =>
      rw [if_neg c2]
      split at h
      · next e =>
        injection h with h
        subst h
        rw [kidsA_app7 y hr h7 _ _ _ e]
      · cases h
theorem valP_app (y : List UInt8) : ∀ (f : Nat) (t : Ty) (s : Rd) (x : Bool × Int) (s' : Rd), valP f t s = .ok x s' → valP f t (s.app y) = .ok x (s'.app y)
  | 0, t, s, x, s', h => by cases h
  | f + 1, t, s, x, s', h => by
    rw [valP] at h ⊢
    split at h
    · next c =>
      rw [if_pos c]
      exact immP_app h y
    · next c =>
      rw [if_neg c]
      split at h
      · cases h
      · next v s1 e =>
        rw [numP_app e y]
        simp only []
        split at h
        · next c2 =>
          rw [if_pos c2]
          split at h
          · next c3 =>
            injection h with h1 h2
            subst h1 h2
            rw [if_pos c3]
          · next c3 =>
            rw [if_neg c3]
            split at h
            · next c4 =>
              rw [if_pos c4]
              exact blkP_app y (valP_app y f) h
            · next c4 =>
              rw [if_neg c4]
              exact refV_app h y
        · next c2 =>
          rw [if_neg c2]
          split at h
          · next c3 =>
            rw [if_pos c3]
            exact blkP_app y (valP_app y f) h
          · next c3 =>
            rw [if_neg c3]
            exact refV_app h y
theorem valP_app7 (y : List UInt8) : ∀ (f : Nat) (t : Ty) (s : Rd), valP f t s = .err 7 → valP f t (s.app y) = .err 7
  | 0, t, s, h => by injection h with h; cases h
  | f + 1, t, s, h => by
    rw [valP] at h ⊢
    split at h
    · exact absurd (immP_err h) (by decide)
    · next c =>
      rw [if_neg c]
      split at h
      · next e =>
        injection h with h
        subst h
        exact absurd (numP_err e) (by decide)
      · next v s1 e =>
        rw [numP_app e y]
        simp only []
        split at h
        · next c2 =>
          rw [if_pos c2]
          split at h
          · cases h
          · next c3 =>
            rw [if_neg c3]
            split at h
            · next c4 =>
              rw [if_pos c4]
              exact blkP_app7 y (valP_app y f) (valP_app7 y f) h
            · exact absurd (refV_err h) (by decide)
        · next c2 =>
          rw [if_neg c2]
          split at h
          · next c3 =>
            rw [if_pos c3]
            exact blkP_app7 y (valP_app y f) (valP_app7 y f) h
          · exact absurd (refV_err h) (by decide)
/-- Bytes that are a value: how. -/
theorem graphP_yes {b : List UInt8} {t : Ty} (h : (graphP b t).2 = 0) : (isT t && sentT t) = true ∧ b.length ≤ 4000 ∧ ∃ x s, valP 2001 t ⟨b, [], []⟩ = .ok x s ∧ s.b = [] := by
  unfold graphP at h
  split at h
  · next hk =>
    split at h
    · cases h
    · next hl =>
      split at h
      · next c e =>
        rcases valP_err _ _ _ _ e with rfl | rfl <;> cases h
      · next x s e =>
        split at h
        · next hb => exact ⟨hk, by omega, x, s, e, hb⟩
        · cases h
  · cases h
theorem graphP_cut {b : List UInt8} {t : Ty} (h : (graphP b t).2 = 0) {k : Nat} (hk : k < b.length) : (graphP (b.take k) t).2 = 2 := by
  obtain ⟨h1, h2, x, s, h3, h4⟩ := graphP_yes h
  have e : (⟨b, [], []⟩ : Rd) = (⟨b.take k, [], []⟩ : Rd).app (b.drop k) := by simp [Rd.app]
  unfold graphP
  rw [if_pos h1, if_neg (by rw [List.length_take]; omega)]
  cases hv : valP 2001 t ⟨b.take k, [], []⟩ with
  | err c =>
    rcases valP_err _ _ _ _ hv with rfl | rfl
    · rfl
    · have := valP_app7 (b.drop k) _ _ _ hv
      rw [← e, h3] at this
      cases this
  | ok x' s' =>
    have := valP_app (b.drop k) _ _ _ _ _ hv
    rw [← e, h3] at this
    injection this with _ this
    rw [this] at h4
    have h5 : s'.b ++ b.drop k = [] := h4
    have h6 := congrArg List.length h5
    simp at h6
    omega
theorem graphP_more {b : List UInt8} {t : Ty} (h : (graphP b t).2 = 0) (c : UInt8) (hl : b.length < 4000) : (graphP (b ++ [c]) t).2 = 2 := by
  obtain ⟨h1, h2, x, s, h3, h4⟩ := graphP_yes h
  have e : (⟨b ++ [c], [], []⟩ : Rd) = (⟨b, [], []⟩ : Rd).app [c] := rfl
  unfold graphP
  rw [if_pos h1, if_neg (by simp; omega), e, valP_app [c] _ _ _ _ _ h3]
  simp only [Rd.app, h4]
  rw [if_neg (by simp)]
end Em
end Go.Proofs.Ytoehaijmkmdggaa
