/- Plain: a value's graph in a heap. Plain: what the drawer does, and the reference's teller. A drawing in memory. Walk: a word as a value of the graph (drawer.ref), given how a block is drawn. Walk: a block of the graph (drawer.block), given how values are drawn. Walk: a string's bytes out of a heap (reference of shape). -/
import Derived.Test.YtoehaijmkmdggaaShapeG
import Derived.Test.YtoehaijmkmdggaaShapeT
import Derived.Test.YtoehaijmkmdggaaRefR
import Derived.Test.YtoehaijmkmdggaaLibR
import Derived.Test.YtoehaijmkmdggaaRefA
import Derived.Test.YtoehaijmkmdggaaShapeO
namespace Go.Proofs.Ytoehaijmkmdggaa
set_option linter.unusedVariables false
namespace Em
/-- Where a word is, in a row of words. -/
def pos : List Int → Int → Option Nat
  | [], _ => none
  | a :: t, n => if a = n then some 0 else (pos t n).map (· + 1)
theorem pos_lt {ws : List Int} {n : Int} {i : Nat} (h : pos ws n = some i) : i < ws.length := by
  induction ws generalizing i with
  | nil => cases h
  | cons a t ih =>
    rw [pos] at h
    split at h
    · injection h with h
      subst h
      simp
    · obtain ⟨j, hj, rfl⟩ := Option.map_eq_some_iff.1 h
      have := ih hj
      simp only [List.length_cons]
      omega
theorem pos_none {ws : List Int} {n : Int} : pos ws n = none ↔ n ∉ ws := by
  induction ws with
  | nil => simp [pos]
  | cons a t ih =>
    rw [pos]
    split
    · next h => simp [h]
    · next h => simp [ih, Ne.symm h]
theorem pos_snoc {ws : List Int} {n : Int} (h : pos ws n = none) (m : Int) : pos (ws ++ [n]) m = if m = n then some ws.length else pos ws m := by
  induction ws with
  | nil =>
    simp only [List.nil_append, pos, List.length_nil]
    by_cases e : m = n
    · rw [if_pos e, if_pos e.symm]
    · rw [if_neg e, if_neg fun h => e h.symm]
      rfl
  | cons a t ih =>
    rw [pos] at h
    split at h
    · cases h
    · next hne =>
      have ih := ih (by simpa using h)
      rw [List.cons_append, pos, pos, ih]
      by_cases e : m = n
      · rw [if_pos e, if_pos e, if_neg (by rw [e]; exact hne)]
        rfl
      · rw [if_neg e, if_neg e]
/-- Of words, how many are not seen. -/
def uns (U ws : List Int) : Nat := U.countP fun x => decide (x ∉ ws)
theorem uns_pre {U ws ws' : List Int} (h : ws <+: ws') : uns U ws' ≤ uns U ws := by
  obtain ⟨t, rfl⟩ := h
  unfold uns
  refine List.countP_mono_left fun x _ hx => ?_
  simp only [decide_eq_true_eq, List.mem_append, not_or] at hx ⊢
  exact hx.1
theorem uns_snoc {U ws : List Int} {n : Int} (h : n ∈ U) (h2 : n ∉ ws) : uns U (ws ++ [n]) + 1 ≤ uns U ws := by
  induction U with
  | nil => cases h
  | cons a t ih =>
    unfold uns at ih ⊢
    rw [List.countP_cons, List.countP_cons]
    by_cases e : a = n
    · subst e
      have h3 := uns_pre (U := t) (List.prefix_append ws [a])
      unfold uns at h3
      simp [h2]
      simpa using h3
    · have h4 := ih (by rcases List.mem_cons.1 h with h | h; exact absurd h.symm e; exact h)
      by_cases hw : a ∈ ws
      · simp [hw]
        simpa using h4
      · simp [hw, e]
        simp at h4
        omega
/-- A drawing under way: the words that came, their blocks; is one none? -/
structure Dw where
  ws : List Int
  bl : List Blk
  bad : Bool
/-- A row of words as values. -/
def kidsP (r : Int → Dw → (Bool × Int) × Dw) : List Int → Dw → List (Bool × Int) × Dw
  | [], s => ([], s)
  | x :: t, s => ((r x s).1 :: (kidsP r t (r x s).2).1, (kidsP r t (r x s).2).2)
theorem kidsP_snoc (r : Int → Dw → (Bool × Int) × Dw) (l : List Int) (x : Int) (s : Dw) : kidsP r (l ++ [x]) s = ((kidsP r l s).1 ++ [(r x (kidsP r l s).2).1], (r x (kidsP r l s).2).2) := by
  induction l generalizing s with
  | nil => rfl
  | cons a t ih =>
    rw [List.cons_append, kidsP, kidsP, ih]
    rfl
theorem kidsP_len (r : Int → Dw → (Bool × Int) × Dw) (l : List Int) (s : Dw) : (kidsP r l s).1.length = l.length := by
  induction l generalizing s with
  | nil => rfl
  | cons a t ih => simp [kidsP, ih]
def Blk.str! (b : Blk) (s : List UInt8) : Blk := ⟨b.tag, s, b.kids⟩
def Blk.kids! (b : Blk) (k : List (Bool × Int)) : Blk := ⟨b.tag, b.str, k⟩
end Em
end Go.Proofs.Ytoehaijmkmdggaa
namespace Go.Proofs.Ytoehaijmkmdggaa
set_option linter.unusedVariables false
namespace Em
/-- A block is drawn: the block i of those that came. -/
def fillP (r : Int → Dw → (Bool × Int) × Dw) (H : Hp) (n : Int) (i : Nat) (s : Dw) : Dw :=
  if (blk H n).1 = 0 ∨ (blk H n).1 = 8 then ⟨s.ws, s.bl, true⟩
  else if (blk H n).1 = 1 then ⟨s.ws, s.bl.modify i fun b => b.str! ((textH H n).getD []), s.bad || !(textH H n).isSome⟩
  else if (blk H n).1 = 6 ∨ (blk H n).1 = 7 then s
  else ⟨(kidsP r (blk H n).2 s).2.ws, (kidsP r (blk H n).2 s).2.bl.modify i fun b => b.kids! (kidsP r (blk H n).2 s).1, (kidsP r (blk H n).2 s).2.bad⟩
/-- A word comes. -/
def Dw.come (s : Dw) (n tag : Int) : Dw := ⟨s.ws ++ [n], s.bl ++ [⟨tag, [], []⟩], s.bad⟩
/-- A word as a value: the drawer's way. -/
def refP : Nat → Hp → Int → Dw → (Bool × Int) × Dw
  | 0, _, _, s => ((false, 0), s)
  | f + 1, H, n, s => if n % 2 = 1 then ((true, n / 2), s) else match pos s.ws n with
    | some i => ((false, (i : Int)), s)
    | none => ((false, (s.bl.length : Int)), fillP (refP f H) H n s.bl.length (s.come n (blk H n).1))
/-- The teller's way. -/
def refQ : Nat → Hp → Int → Dw → (Bool × Int) × Dw
  | 0, _, _, s => ((false, 0), s)
  | f + 1, H, n, s => if n % 2 = 1 then ((true, n / 2), s) else match pos s.ws n with
    | some i => ((false, (i : Int)), s)
    | none => if (blk H n).1 = 0 ∨ (blk H n).1 = 8 ∨ s.bad = true then ((false, 0), ⟨s.ws, s.bl, true⟩)
      else ((false, (s.bl.length : Int)), fillP (refQ f H) H n s.bl.length (s.come n (blk H n).1))
theorem kidsP_bad {r : Int → Dw → (Bool × Int) × Dw} (h : ∀ n s, s.bad = true → (r n s).2.bad = true) : ∀ l s, s.bad = true → (kidsP r l s).2.bad = true := by
  intro l
  induction l with
  | nil => exact fun s h => h
  | cons a t ih => exact fun s hs => ih _ (h a s hs)
theorem fillP_bad {r : Int → Dw → (Bool × Int) × Dw} (h : ∀ n s, s.bad = true → (r n s).2.bad = true) (H : Hp) (n : Int) (i : Nat) (s : Dw) (hs : s.bad = true) : (fillP r H n i s).bad = true := by
  unfold fillP
  split
  · rfl
  · split
    · simp [hs]
    · split
      · exact hs
      · exact kidsP_bad h _ _ hs
theorem refP_bad (f : Nat) (H : Hp) : ∀ n s, s.bad = true → (refP f H n s).2.bad = true := by
  induction f with
  | zero => exact fun n s h => h
  | succ f ih =>
    intro n s hs
    rw [refP]
    split
    · exact hs
    · cases pos s.ws n with
      | some i => exact hs
      | none => exact fillP_bad ih H n _ _ hs
theorem refQ_bad (f : Nat) (H : Hp) : ∀ n s, s.bad = true → (refQ f H n s).2.bad = true := by
  induction f with
  | zero => exact fun n s h => h
  | succ f ih =>
    intro n s hs
    rw [refQ]
    split
    · exact hs
    · cases pos s.ws n with
      | some i => exact hs
      | none =>
        simp only
        split
        · rfl
        · exact fillP_bad ih H n _ _ hs
/-- Two ways are one, as long as all is well; and they fail together. -/
def Alike (a b : (Bool × Int) × Dw) : Prop := a = b ∨ (a.2.bad = true ∧ b.2.bad = true)
theorem kidsP_alike {r q : Int → Dw → (Bool × Int) × Dw} (h : ∀ n s, Alike (r n s) (q n s)) (hr : ∀ n s, s.bad = true → (r n s).2.bad = true) (hq : ∀ n s, s.bad = true → (q n s).2.bad = true) :
    ∀ l s, kidsP r l s = kidsP q l s ∨ ((kidsP r l s).2.bad = true ∧ (kidsP q l s).2.bad = true) := by
  intro l
  induction l with
  | nil => exact fun s => .inl rfl
  | cons a t ih =>
    intro s
    rw [kidsP, kidsP]
    rcases h a s with e | ⟨e1, e2⟩
    · rw [e]
      rcases ih (q a s).2 with e | ⟨e1, e2⟩
      · exact .inl (by rw [e])
      · exact .inr ⟨e1, e2⟩
    · exact .inr ⟨kidsP_bad hr _ _ e1, kidsP_bad hq _ _ e2⟩
theorem fillP_alike {r q : Int → Dw → (Bool × Int) × Dw} (h : ∀ n s, Alike (r n s) (q n s)) (hr : ∀ n s, s.bad = true → (r n s).2.bad = true) (hq : ∀ n s, s.bad = true → (q n s).2.bad = true) (H : Hp) (n : Int) (i : Nat) (s : Dw) :
    fillP r H n i s = fillP q H n i s ∨ ((fillP r H n i s).bad = true ∧ (fillP q H n i s).bad = true) := by
  unfold fillP
  by_cases c1 : (blk H n).1 = 0 ∨ (blk H n).1 = 8
  · rw [if_pos c1, if_pos c1]
    exact .inl rfl
  rw [if_neg c1, if_neg c1]
  by_cases c2 : (blk H n).1 = 1
  · rw [if_pos c2, if_pos c2]
    exact .inl rfl
  rw [if_neg c2, if_neg c2]
  by_cases c3 : (blk H n).1 = 6 ∨ (blk H n).1 = 7
  · rw [if_pos c3, if_pos c3]
    exact .inl rfl
  rw [if_neg c3, if_neg c3]
  rcases kidsP_alike h hr hq (blk H n).2 s with e | ⟨e1, e2⟩
  · exact .inl (by rw [e])
  · exact .inr ⟨e1, e2⟩
theorem ref_alike (f : Nat) (H : Hp) : ∀ n s, Alike (refP f H n s) (refQ f H n s) := by
  induction f with
  | zero => exact fun n s => .inl rfl
  | succ f ih =>
    intro n s
    rw [refP, refQ]
    split
    · exact .inl rfl
    · cases pos s.ws n with
      | some i => exact .inl rfl
      | none =>
        simp only
        split
        · next h =>
          refine .inr ⟨?_, rfl⟩
          rcases h with h | h | h
          · simp [fillP, h]
          · simp [fillP, h]
          · exact fillP_bad (refP_bad f H) _ _ _ _ h
        · next h =>
          rcases fillP_alike ih (refP_bad f H) (refQ_bad f H) H n s.bl.length (s.come n (blk H n).1) with e | ⟨e1, e2⟩
          · exact .inl (by rw [e])
          · exact .inr ⟨e1, e2⟩
end Em
end Go.Proofs.Ytoehaijmkmdggaa
namespace Go.Proofs.Ytoehaijmkmdggaa
open Go.RowKit Go.Maps
set_option linter.unusedVariables false
def refCells (r : Bool × Int) : List Value := [.bool r.1, .int .i64 r.2]
def blkCells (it : Em.Blk × Value) : List Value := [.int .i64 it.1.tag, .string (str it.1.str), it.2]
theorem flat_set {its : List (Em.Blk × Value)} {i j : Nat} {it it' : Em.Blk × Value} {u : Value} (hi : its[i]? = some it) (he : blkCells it' = (blkCells it).set j u) (hj : j < 3) : (its.map blkCells).flatten.set (i * 3 + j) u = ((its.set i it').map blkCells).flatten := by
  induction its generalizing i with
  | nil => cases hi
  | cons a t ih =>
    cases i with
    | zero =>
      injection hi with hi
      subst hi
      rw [List.map_cons, List.flatten_cons, List.set_append_left _ _ (by simp [blkCells]; omega), List.set_cons_zero, List.map_cons, List.flatten_cons, he, Nat.zero_mul, Nat.zero_add]
    | succ i =>
      rw [List.map_cons, List.flatten_cons, List.set_append_right _ _ (by simp [blkCells]; omega), List.set_cons_succ, List.map_cons, List.flatten_cons, show (i + 1) * 3 + j - (blkCells a).length = i * 3 + j by simp [blkCells]; omega, ih hi]
/-- The blocks of memory in which a drawing lies. -/
def HasD (dp mb : Nat) (l : Value) (its : List (Em.Blk × Value)) (k : Nat) : Prop := k = dp ∨ k = mb ∨ l.ownBlock = some k ∨ ∃ it ∈ its, it.2.ownBlock = some k
structure DRaw (tt B : Nat) (w : World) (dp mb : Nat) (hv l : Value) (bad : Bool) (f : Int → Option Value) (its : List (Em.Blk × Value)) : Prop where
  top : w.heap[dp]? = some (.cells #[hv, .map (some mb), l, .bool bad] tt)
  map : MapF w mb f
  row : w.ownsRow B 80 3 l its.length (its.map blkCells).flatten
  kid : ∀ it ∈ its, w.ownsRow B 28 2 it.2 it.1.kids.length (it.1.kids.map refCells).flatten
  wf : ∀ it ∈ its, (Lit.int .i64 it.1.tag).wf = true ∧ ∀ k ∈ it.1.kids, (Lit.int .i64 k.2).wf = true
  d1 : B ≤ dp ∧ B ≤ mb ∧ dp ≠ mb
  d2 : ∀ k, l.ownBlock = some k → k ≠ dp ∧ k ≠ mb
  d3 : ∀ it ∈ its, ∀ k, it.2.ownBlock = some k → k ≠ dp ∧ k ≠ mb ∧ l.ownBlock ≠ some k
section
variable {tt B : Nat} {w w' : World} {dp mb : Nat} {hv l : Value} {bad : Bool} {f : Int → Option Value} {its : List (Em.Blk × Value)}
theorem DRaw.lt (h : DRaw tt B w dp mb hv l bad f its) : ∀ k, HasD dp mb l its k → B ≤ k ∧ k < w.heap.size := by
  rintro k (rfl | rfl | e | ⟨it, hit, e⟩)
  · exact ⟨h.d1.1, (Array.getElem?_eq_some_iff.1 h.top).1⟩
  · obtain ⟨es, clock, h1, _⟩ := h.map
    exact ⟨h.d1.2.1, (Array.getElem?_eq_some_iff.1 h1).1⟩
  · exact World.ownsRow.lt h.row k e
  · exact World.ownsRow.lt (h.kid it hit) k e
theorem DRaw.frm {S : Nat → Prop} (h : DRaw tt B w dp mb hv l bad f its) (F : Frm S w w') (hs : ∀ k, HasD dp mb l its k → ¬ S k) : DRaw tt B w' dp mb hv l bad f its :=
  { h with top := F.heap (hs _ (.inl rfl)) h.top, map := h.map.frm F (hs _ (.inr (.inl rfl))), row := F.own h.row fun k e => hs k (.inr (.inr (.inl e))), kid := fun it hit => F.own (h.kid it hit) fun k e => hs k (.inr (.inr (.inr ⟨it, hit, e⟩))) }
theorem DRaw.keep (h : DRaw tt B w dp mb hv l bad f its) (k : Keep w w') : DRaw tt B w' dp mb hv l bad f its := h.frm (k.frm fun _ => False) fun _ _ h => h
theorem DRaw.mapped {f' : Int → Option Value} (h : DRaw tt B w dp mb hv l bad f its) (hm : MapF w' mb f') (F : Frm (· = mb) w w') : DRaw tt B w' dp mb hv l bad f' its :=
  { h with top := F.heap h.d1.2.2 h.top, map := hm, row := F.own h.row fun k e => (h.d2 k e).2, kid := fun it hit => F.own (h.kid it hit) fun k e => (h.d3 it hit k e).2.1 }
theorem DRaw.setBad (h : DRaw tt B w dp mb hv l bad f its) (b : Bool) : DRaw tt B (w.setCell ⟨dp, 3, none⟩ (.bool b)) dp mb hv l b f its := by
  have F : Frm (· = dp) w (w.setCell ⟨dp, 3, none⟩ (.bool b)) := (Frm.rf (· = dp) w).st (p := ⟨dp, 3, none⟩) (.inl rfl) _
  exact { h with top := heap_set h.top _, map := h.map.frm F fun e => h.d1.2.2 e.symm, row := F.own h.row fun k e => (h.d2 k e).1, kid := fun it hit => F.own (h.kid it hit) fun k e => (h.d3 it hit k e).1 }
/-- A block was pushed, and the row is put back. -/
theorem DRaw.pushed (h : DRaw tt B w dp mb hv l bad f its) {tag : Int} (ht : (Lit.int .i64 tag).wf = true) {v' : Value} (ho : w'.ownsRow B 80 3 v' (its.length + 1) ((its.map blkCells).flatten ++ blkCells (⟨tag, [], []⟩, .slice none 0 0))) (hg : w.grownBy w' l.ownBlock) (hm : v'.ownBlock = l.ownBlock ∨ v'.ownBlock = some w.heap.size) :
    DRaw tt B (w'.setCell ⟨dp, 2, none⟩ v') dp mb hv v' bad f (its ++ [(⟨tag, [], []⟩, .slice none 0 0)]) := by
  have F : Frm (fun k => l.ownBlock = some k) w w' := Frm.of_grown hg fun _ e => e
  have F2 : Frm (· = dp) w' (w'.setCell ⟨dp, 2, none⟩ v') := (Frm.rf (· = dp) w').st (p := ⟨dp, 2, none⟩) (.inl rfl) _
  have hlt := h.lt
  have hv2 : ∀ k, v'.ownBlock = some k → k ≠ dp ∧ k ≠ mb := by
    intro k hk
    rcases hm with e | e
    · exact h.d2 k (by rw [← e, hk])
    · rw [e] at hk
      injection hk with hk
      have := (hlt dp (.inl rfl)).2
      have := (hlt mb (.inr (.inl rfl))).2
      omega
  refine { top := heap_set (F.heap (fun e => (h.d2 dp e).1 rfl) h.top) _, map := (h.map.frm F fun e => (h.d2 mb e).2 rfl).frm F2 fun e => h.d1.2.2 e.symm, row := ?_, kid := ?_, wf := ?_, d1 := h.d1, d2 := hv2, d3 := ?_ }
  · have := F2.own ho fun k hk => (hv2 k hk).1
    simpa using this
  · intro it hit
    rcases List.mem_append.1 hit with hit | hit
    · exact F2.own (F.own (h.kid it hit) fun k e => (h.d3 it hit k e).2.2) fun k e => (h.d3 it hit k e).1
    · obtain rfl := List.mem_singleton.1 hit
      exact ⟨by simp, .inl ⟨rfl, rfl⟩⟩
  · intro it hit
    rcases List.mem_append.1 hit with hit | hit
    · exact h.wf it hit
    · obtain rfl := List.mem_singleton.1 hit
      exact ⟨ht, by simp⟩
  · intro it hit k hk
    rcases List.mem_append.1 hit with hit | hit
    · obtain ⟨a, b, c⟩ := h.d3 it hit k hk
      refine ⟨a, b, ?_⟩
      rcases hm with e | e
      · rw [e]; exact c
      · rw [e]
        have := (hlt k (.inr (.inr (.inr ⟨it, hit, hk⟩)))).2
        simp; omega
    · obtain rfl := List.mem_singleton.1 hit
      simp [Value.ownBlock] at hk
theorem mem_set_or {α : Type} {l : List α} {i : Nat} {a b : α} (h : a ∈ l.set i b) : a ∈ l ∨ a = b := by
  rcases List.mem_or_eq_of_mem_set h with h | h
  · exact .inl h
  · exact .inr h
theorem DRaw.setStr {g n c i : Nat} {b : Em.Blk} {v : Value} (h : DRaw tt B w dp mb hv (.slice (some ⟨g, 0, none⟩) n c) bad f its) (hi : its[i]? = some (b, v)) (s : List UInt8) :
    DRaw tt B (w.setCell ⟨g, i * 3 + 1, none⟩ (.string (str s))) dp mb hv (.slice (some ⟨g, 0, none⟩) n c) bad f (its.set i (b.str! s, v)) := by
  have F : Frm (· = g) w (w.setCell ⟨g, i * 3 + 1, none⟩ (.string (str s))) := (Frm.rf (· = g) w).st (p := ⟨g, i * 3 + 1, none⟩) (.inl rfl) _
  have hn : n = its.length := by
    obtain ⟨_, ⟨e, _⟩ | ⟨_, _, _, e, _⟩⟩ := h.row
    · cases e
    · injection e
  subst hn
  have hmem := List.mem_of_getElem? hi
  have hx : ∀ it, it ∈ its.set i (b.str! s, v) → ∃ it' ∈ its, it'.2 = it.2 ∧ it'.1.kids = it.1.kids ∧ it'.1.tag = it.1.tag := by
    intro it hit
    rcases mem_set_or hit with hit | rfl
    · exact ⟨it, hit, rfl, rfl, rfl⟩
    · exact ⟨_, hmem, rfl, rfl, rfl⟩
  refine { top := F.heap (fun e => (h.d2 g rfl).1 e.symm) h.top, map := h.map.frm F (fun e => (h.d2 g rfl).2 e.symm), row := ?_, kid := ?_, wf := ?_, d1 := h.d1, d2 := h.d2, d3 := ?_ }
  · have := (World.ownsRow.stored h.row (i * 3 + 1) (.string (str s))).1
    rw [flat_set (it' := (b.str! s, v)) hi rfl (by omega)] at this
    simpa using this
  · intro it hit
    obtain ⟨it', h1, h2, h3, _⟩ := hx it hit
    rw [← h2, ← h3]
    exact F.own (h.kid it' h1) fun k e e2 => (h.d3 it' h1 k e).2.2 (by rw [e2]; rfl)
  · intro it hit
    obtain ⟨it', h1, _, h3, h4⟩ := hx it hit
    rw [← h3, ← h4]
    exact h.wf it' h1
  · intro it hit k hk
    obtain ⟨it', h1, h2, _⟩ := hx it hit
    exact h.d3 it' h1 k (by rw [h2]; exact hk)
theorem DRaw.setKids {g n c i : Nat} {b : Em.Blk} {v u : Value} {ks : List (Bool × Int)} (h : DRaw tt B w dp mb hv (.slice (some ⟨g, 0, none⟩) n c) bad f its) (hi : its[i]? = some (b, v)) (hu : w.ownsRow B 28 2 u ks.length (ks.map refCells).flatten) (hw : ∀ k ∈ ks, (Lit.int .i64 k.2).wf = true)
    (hd : ∀ k, u.ownBlock = some k → ¬ HasD dp mb (.slice (some ⟨g, 0, none⟩) n c) its k) :
    DRaw tt B (w.setCell ⟨g, i * 3 + 2, none⟩ u) dp mb hv (.slice (some ⟨g, 0, none⟩) n c) bad f (its.set i (b.kids! ks, u)) := by
  have F : Frm (· = g) w (w.setCell ⟨g, i * 3 + 2, none⟩ u) := (Frm.rf (· = g) w).st (p := ⟨g, i * 3 + 2, none⟩) (.inl rfl) _
  have hn : n = its.length := by
    obtain ⟨_, ⟨e, _⟩ | ⟨_, _, _, e, _⟩⟩ := h.row
    · cases e
    · injection e
  subst hn
  have hmem := List.mem_of_getElem? hi
  refine { top := F.heap (fun e => (h.d2 g rfl).1 e.symm) h.top, map := h.map.frm F (fun e => (h.d2 g rfl).2 e.symm), row := ?_, kid := ?_, wf := ?_, d1 := h.d1, d2 := h.d2, d3 := ?_ }
  · have := (World.ownsRow.stored h.row (i * 3 + 2) u).1
    rw [flat_set (it' := (b.kids! ks, u)) hi rfl (by omega)] at this
    simpa using this
  · intro it hit
    rcases mem_set_or hit with hit | rfl
    · exact F.own (h.kid it hit) fun k e e2 => (h.d3 it hit k e).2.2 (by rw [e2]; rfl)
    · exact F.own hu fun k e e2 => hd k e (.inr (.inr (.inl (by rw [e2]; rfl))))
  · intro it hit
    rcases mem_set_or hit with hit | rfl
    · exact h.wf it hit
    · exact ⟨(h.wf _ hmem).1, hw⟩
  · intro it hit k hk
    rcases mem_set_or hit with hit | rfl
    · exact h.d3 it hit k hk
    · have := hd k hk
      simp only [HasD, not_or] at this
      exact ⟨this.1, this.2.1, this.2.2.1⟩
end
/-- Where a word is, as a value. -/
def posV (ws : List Int) (n : Int) : Option Value := (Em.pos ws n).map fun i => .int .i64 (i : Int)
theorem posV_snoc {ws : List Int} {n : Int} (h : Em.pos ws n = none) : posV (ws ++ [n]) = fun m => if m = n then some (.int .i64 (ws.length : Int)) else posV ws m := by
  funext m
  unfold posV
  rw [Em.pos_snoc h]
  by_cases e : m = n
  · rw [if_pos e, if_pos e]
    rfl
  · rw [if_neg e, if_neg e]
/-- A drawing under way: U, the words that may come. -/
structure DR (tt B : Nat) (U : List Int) (w : World) (dp mb : Nat) (hv l : Value) (its : List (Em.Blk × Value)) (s : Em.Dw) : Prop where
  raw : DRaw tt B w dp mb hv l s.bad (posV s.ws) its
  bl : s.bl = its.map (·.1)
  wl : s.ws.length = its.length
  cnt : s.ws.length + Em.uns U s.ws ≤ 60000
/-- A drawing went on. -/
structure Went (U : List Int) (w w' : World) (dp mb : Nat) (l l' : Value) (its its' : List (Em.Blk × Value)) (s s' : Em.Dw) : Prop where
  frm : Frm (fun k => k = dp ∨ k = mb ∨ l.ownBlock = some k) w w'
  row : ∀ k, l'.ownBlock = some k → l.ownBlock = some k ∨ w.heap.size ≤ k
  has : ∀ k, HasD dp mb l' its' k → HasD dp mb l its k ∨ w.heap.size ≤ k
  pre : s.ws <+: s'.ws
section
variable {tt B : Nat} {U : List Int} {w w1 w' : World} {dp mb : Nat} {hv l l1 l' : Value} {its its1 its' : List (Em.Blk × Value)} {s s1 s' : Em.Dw}
theorem DR.keep (h : DR tt B U w dp mb hv l its s) (k : Keep w w') : DR tt B U w' dp mb hv l its s := { h with raw := h.raw.keep k }
theorem DR.frm {S : Nat → Prop} (h : DR tt B U w dp mb hv l its s) (F : Frm S w w') (hs : ∀ k, HasD dp mb l its k → ¬ S k) : DR tt B U w' dp mb hv l its s := { h with raw := h.raw.frm F hs }
theorem Went.rf : Went U w w dp mb l l its its s s := ⟨Frm.rf _ _, fun k h => .inl h, fun k h => .inl h, List.prefix_refl _⟩
theorem Went.of_keep (k : Keep w w') : Went U w w' dp mb l l its its s s := ⟨k.frm _, fun k h => .inl h, fun k h => .inl h, List.prefix_refl _⟩
theorem Went.tr (h : Went U w w1 dp mb l l1 its its1 s s1) (h2 : Went U w1 w' dp mb l1 l' its1 its' s1 s') : Went U w w' dp mb l l' its its' s s' := by
  refine ⟨h.frm.trn h2.frm ?_, ?_, ?_, h.pre.trans h2.pre⟩
  · rintro k (e | e | e)
    · exact .inl (.inl e)
    · exact .inl (.inr (.inl e))
    · rcases h.row k e with e | e
      · exact .inl (.inr (.inr e))
      · exact .inr e
  · intro k e
    have := h.frm.size
    rcases h2.row k e with e | e
    · exact h.row k e
    · exact .inr (by omega)
  · intro k e
    have := h.frm.size
    rcases h2.has k e with e | e
    · exact h.has k e
    · exact .inr (by omega)
/-- What lies below the drawing stays. -/
theorem Went.low (h : Went U w w' dp mb l l' its its' s s') (hd : DR tt B U w dp mb hv l its s) {w0 : World} (k : Keep w0 w) (hB : w0.heap.size ≤ B) : Keep w0 w' :=
  Frm.keep k h.frm fun i e => by
    have := (hd.raw.lt i (by rcases e with e | e | e; exact .inl e; exact .inr (.inl e); exact .inr (.inr (.inl e)))).1
    omega
/-- What is none of the drawing's stays so. -/
theorem Went.out (h : Went U w w' dp mb l l' its its' s s') {k : Nat} (hk : k < w.heap.size) (hn : ¬ HasD dp mb l its k) : ¬ HasD dp mb l' its' k := fun e => by
  rcases h.has k e with e | e
  · exact hn e
  · omega
theorem Went.heap (h : Went U w w' dp mb l l' its its' s s') {k : Nat} {o : Obj} (hn : ¬ HasD dp mb l its k) (ho : w.heap[k]? = some o) : w'.heap[k]? = some o :=
  h.frm.heap (fun e => hn (by rcases e with e | e | e; exact .inl e; exact .inr (.inl e); exact .inr (.inr (.inl e)))) ho
theorem Went.own (h : Went U w w' dp mb l l' its its' s s') {base e size n : Nat} {v : Value} {xs : List Value} (ho : w.ownsRow base e size v n xs) (hn : ∀ k, v.ownBlock = some k → ¬ HasD dp mb l its k) : w'.ownsRow base e size v n xs :=
  h.frm.own ho fun k hk e => hn k hk (by rcases e with e | e | e; exact .inl e; exact .inr (.inl e); exact .inr (.inr (.inl e)))
/-- The drawing's end: its graph. -/
theorem DR.sl (h : DR tt B U w dp mb hv l its s) : Sl 3 KBk w l s.bl := by
  have h0 := h.raw
  refine sl_of_own h0.row (by rw [h.bl]; simp) (by rw [h.bl]; simp) (fun cs hcs => ?_) fun j h1 h2 => ?_
  · obtain ⟨it, _, rfl⟩ := List.mem_map.1 hcs
    rfl
  · rw [List.length_map] at h1
    have hmem := List.getElem_mem h1
    have e : s.bl[j] = its[j].1 := by simp [h.bl]
    rw [List.getElem_map, e]
    refine ⟨_, rfl, (h0.wf _ hmem).1, ?_⟩
    refine sl_of_own (h0.kid _ hmem) rfl (by simp) (fun cs hcs => ?_) fun q g1 g2 => ?_
    · obtain ⟨it, _, rfl⟩ := List.mem_map.1 hcs
      rfl
    · rw [List.getElem_map]
      exact ⟨rfl, (h0.wf _ hmem).2 _ (List.getElem_mem _)⟩
end
end Go.Proofs.Ytoehaijmkmdggaa
namespace Go.Proofs.Ytoehaijmkmdggaa
open Go.RowKit Go.Maps
set_option linter.unusedVariables false
set_option linter.unusedSimpArgs false
set_option maxRecDepth 100000
theorem heap_set2 {w : World} {b : Nat} {x y : Value} {ty : TypeId} (h : w.heap[b]? = some (.cells #[x, y] ty)) (u v : Value) : ((w.setCell ⟨b, 0, none⟩ u).setCell ⟨b, 1, none⟩ v).heap[b]? = some (.cells #[u, v] ty) := heap_setT (j := 1) (heap_setT (j := 0) h u) v
/-- One struct, to be appended. -/
def OneBlk (tag : Int) (W : World) (v : Value) : Prop := ∃ g, v = .slice (some ⟨g, 0, none⟩) 1 1 ∧ W.heap[g]? = some (.cells #[.int .i64 tag, .string (str []), .slice none 0 0] 80)
theorem OneBlk.keep {tag : Int} {W W' : World} {v : Value} (h : OneBlk tag W v) (k : Keep W W') : OneBlk tag W' v := by
  obtain ⟨g, e, h⟩ := h
  exact ⟨g, e, (k.frm fun _ => False).heap (fun h => h) h⟩
theorem OneBlk.src {tag : Int} {W : World} {v : Value} (h : OneBlk tag W v) : Src W 3 v 1 (blkCells (⟨tag, [], []⟩, .slice none 0 0)) := by
  obtain ⟨g, rfl, h⟩ := h
  exact src3 h
/-- A block was pushed onto the row, which is not put back yet. -/
def BPush (w0 : World) (B : Nat) (l : Value) (its : List (Em.Blk × Value)) (tag : Int) (W : World) (v : Value) : Prop :=
  ∃ Wb, Keep w0 Wb ∧ Wb.grownBy W l.ownBlock ∧ (v.ownBlock = l.ownBlock ∨ v.ownBlock = some Wb.heap.size) ∧ W.ownsRow B 80 3 v (its.length + 1) ((its.map blkCells).flatten ++ blkCells (⟨tag, [], []⟩, .slice none 0 0))
theorem BPush.keep {w0 W W' : World} {B : Nat} {l v : Value} {its : List (Em.Blk × Value)} {tag : Int} (h : BPush w0 B l its tag W v) (k : Keep W W') : BPush w0 B l its tag W' v := by
  obtain ⟨Wb, h1, h2, h3, h4⟩ := h
  exact ⟨Wb, h1, grown_keep h2 k, h3, own_keep h4 k⟩
theorem BPush.mk {w0 Wb W : World} {B : Nat} {l v : Value} {its : List (Em.Blk × Value)} {tag : Int} (k : Keep w0 Wb) (h : App Wb B 80 3 l (its.length + 1) ((its.map blkCells).flatten ++ blkCells (⟨tag, [], []⟩, .slice none 0 0)) v W) : BPush w0 B l its tag W v := by
  obtain ⟨h1, h2, h3⟩ := h
  exact ⟨Wb, k, h2, h3, h1⟩
theorem infoBlk : (Try.prog.info? 80).map (fun i => (i.zero, i.size, i.bytes)) = some (some (.agg #[.int .i64 0, .string (str []), .slice none 0 0]), 3, 48) := by kernel_rfl
theorem zeroInt (w : World) : (zeroValue 3).run Try.prog w = .ok (.int .i64 0) w := by kernel_rfl
theorem DR.pushed {tt B : Nat} {U : List Int} {w W' : World} {dp mb : Nat} {hv l : Value} {its : List (Em.Blk × Value)} {s : Em.Dw} (h : DR tt B U w dp mb hv l its s) {n : Int} (hn : n ∈ U) (hp : Em.pos s.ws n = none) {tag : Int} (ht : (Lit.int .i64 tag).wf = true)
    {w1 : World} (hm : MapF w1 mb (posV (s.ws ++ [n]))) (F1 : Frm (· = mb) w w1) {v' : Value} (hb : BPush w1 B l its tag W' v') :
    DR tt B U (W'.setCell ⟨dp, 2, none⟩ v') dp mb hv v' (its ++ [(⟨tag, [], []⟩, .slice none 0 0)]) (s.come n tag) ∧ Went U w (W'.setCell ⟨dp, 2, none⟩ v') dp mb l v' its (its ++ [(⟨tag, [], []⟩, .slice none 0 0)]) s (s.come n tag) := by
  obtain ⟨Wb, k1, hg, hmv, ho⟩ := hb
  have R1 := (h.raw.mapped hm F1).keep k1
  have R2 := R1.pushed ht ho hg hmv
  have hs : w.heap.size ≤ Wb.heap.size := Nat.le_trans F1.size k1.size
  have hu := Em.uns_snoc hn (Em.pos_none.1 hp)
  refine ⟨⟨R2, ?_, ?_, ?_⟩, ?_, ?_, ?_, List.prefix_append _ _⟩
  · simp [Em.Dw.come, h.bl]
  · simp [Em.Dw.come, h.wl]
  · have := h.cnt
    simp only [Em.Dw.come, List.length_append, List.length_singleton]
    omega
  · have F2 : Frm (fun k => l.ownBlock = some k) Wb W' := Frm.of_grown hg fun _ e => e
    refine (((F1.mono fun _ _ e => .inr (.inl e)).tr (k1.frm _)).tr (F2.mono fun _ _ e => .inr (.inr e))).tr ?_
    exact Frm.st (Frm.rf _ _) (p := ⟨dp, 2, none⟩) (.inl (.inl rfl)) _
  · intro k e
    rcases hmv with e2 | e2
    · exact .inl (by rw [← e2, e])
    · rw [e2] at e
      injection e with e
      exact .inr (by omega)
  · rintro k (e | e | e | ⟨it, hit, e⟩)
    · exact .inl (.inl e)
    · exact .inl (.inr (.inl e))
    · rcases hmv with e2 | e2
      · exact .inl (.inr (.inr (.inl (by rw [← e2, e]))))
      · rw [e2] at e
        injection e with e
        exact .inr (by omega)
    · rcases List.mem_append.1 hit with hit | hit
      · exact .inl (.inr (.inr (.inr ⟨it, hit, e⟩)))
      · obtain rfl := List.mem_singleton.1 hit
        simp [Value.ownBlock] at e
theorem Went.stx {U : List Int} {w w1 w' : World} {dp mb x : Nat} {l l' : Value} {its its' : List (Em.Blk × Value)} {s s' : Em.Dw} (h : Went U w w1 dp mb l l' its its' s s') (F : Frm (· = x) w1 w') (hx : w.heap.size ≤ x) : Went U w w' dp mb l l' its its' s s' :=
  { h with frm := h.frm.trn F fun i e => .inr (by have e : i = x := e; omega) }
/-- What drawing a value gives. -/
def RetD (tt B : Nat) (U : List Int) (dp mb : Nat) (hv : Value) (w : World) (l : Value) (its : List (Em.Blk × Value)) (s : Em.Dw) (r : (Bool × Int) × Em.Dw) (e : Ending) (w' : World) : Prop :=
  ∃ l' its', e = .returned (.agg #[.bool r.1.1, .int .i64 r.1.2]) ∧ (Lit.int .i64 r.1.2).wf = true ∧ DR tt B U w' dp mb hv l' its' r.2 ∧ Went U w w' dp mb l l' its its' s r.2
/-- What drawing a block gives. -/
def RetB (tt B : Nat) (U : List Int) (dp mb : Nat) (hv : Value) (w : World) (l : Value) (its : List (Em.Blk × Value)) (s s' : Em.Dw) (e : Ending) (w' : World) : Prop :=
  ∃ l' its', e = .returned (.tuple #[]) ∧ DR tt B U w' dp mb hv l' its' s' ∧ Went U w w' dp mb l l' its its' s s'
theorem wf_half {n : Int} (hn : (Lit.int .i64 n).wf = true) : (Lit.int .i64 (n / 2)).wf = true := by
  have := in_i64 hn
  simp [Lit.wf, IntKind.min, IntKind.max, IntKind.bits, IntKind.signed]
  omega
theorem wf_nat {n : Nat} (hn : n ≤ 1000000000) : (Lit.int .i64 (n : Int)).wf = true := by
  simp [Lit.wf, IntKind.min, IntKind.max, IntKind.bits, IntKind.signed]
  omega
end Go.Proofs.Ytoehaijmkmdggaa
namespace Go.Proofs.Ytoehaijmkmdggaa
open Go.RowKit Go.Maps
set_option linter.unusedVariables false
set_option linter.unusedSimpArgs false
set_option maxRecDepth 100000
theorem bl_set {its : List (Em.Blk × Value)} {i : Nat} {b : Em.Blk} {v u : Value} (h : its[i]? = some (b, v)) (g : Em.Blk → Em.Blk) : (its.set i (g b, u)).map (·.1) = (its.map (·.1)).modify i g := by
  apply List.ext_getElem?
  intro j
  rw [List.getElem?_map, List.getElem?_modify, List.getElem?_map, List.getElem?_set]
  by_cases e : i = j
  · subst e
    have := (List.getElem?_eq_some_iff.1 h).1
    have h2 := (List.getElem?_eq_some_iff.1 h).2
    simp [this, h2]
  · simp [e]
theorem row_at {w : World} {B m n g c i : Nat} {its : List (Em.Blk × Value)} {b : Em.Blk} {v : Value} (h : w.ownsRow B 80 3 (.slice (some ⟨g, 0, none⟩) m c) n (its.map blkCells).flatten) (hi : its[i]? = some (b, v)) (j : Nat) (u : Value) (hu : (blkCells (b, v))[j]? = some u) :
    w.cell? ⟨g, i * 3 + j, none⟩ = some u ∧ w.frozen? ⟨g, i * 3 + j, none⟩ = false := by
  have hl := (List.getElem?_eq_some_iff.1 hi).1
  have hj := (List.getElem?_eq_some_iff.1 hu).1
  have hc := h.cells (g := g) rfl (i * 3 + j) u (by
    rw [flat_get 3 _ (fun cs hcs => by
      obtain ⟨it, _, rfl⟩ := List.mem_map.1 hcs
      rfl) i j (by simpa using hl) hj, List.getElem_map, (List.getElem?_eq_some_iff.1 hi).2]
    exact hu)
  rw [add_pl] at hc
  refine ⟨hc, ?_⟩
  rcases h.2 with ⟨e, _⟩ | ⟨g', cap, cur, e, hg, hh, _⟩
  · cases e
  · cases e
    simp [World.frozen?, hh]
theorem DR.badden {tt B : Nat} {U : List Int} {w : World} {dp mb : Nat} {hv l : Value} {its : List (Em.Blk × Value)} {s : Em.Dw} (h : DR tt B U w dp mb hv l its s) (b : Bool) : DR tt B U (w.setCell ⟨dp, 3, none⟩ (.bool b)) dp mb hv l its ⟨s.ws, s.bl, b⟩ :=
  ⟨h.raw.setBad b, h.bl, h.wl, h.cnt⟩
theorem DR.went3 {tt B : Nat} {U : List Int} {w : World} {dp mb : Nat} {hv l : Value} {its : List (Em.Blk × Value)} {s : Em.Dw} (h : DR tt B U w dp mb hv l its s) (b : Bool) : Went U w (w.setCell ⟨dp, 3, none⟩ (.bool b)) dp mb l l its its s ⟨s.ws, s.bl, b⟩ :=
  ⟨(Frm.rf _ w).st (p := ⟨dp, 3, none⟩) (.inl (.inl rfl)) _, fun k h => .inl h, fun k h => .inl h, List.prefix_refl _⟩
theorem DR.strIn {tt B : Nat} {U : List Int} {w : World} {dp mb g n c i : Nat} {hv v : Value} {b : Em.Blk} {its : List (Em.Blk × Value)} {s : Em.Dw} (h : DR tt B U w dp mb hv (.slice (some ⟨g, 0, none⟩) n c) its s) (hi : its[i]? = some (b, v)) (x : List UInt8) :
    DR tt B U (w.setCell ⟨g, i * 3 + 1, none⟩ (.string (str x))) dp mb hv (.slice (some ⟨g, 0, none⟩) n c) (its.set i (b.str! x, v)) ⟨s.ws, s.bl.modify i fun b => b.str! x, s.bad⟩ ∧ Went U w (w.setCell ⟨g, i * 3 + 1, none⟩ (.string (str x))) dp mb (.slice (some ⟨g, 0, none⟩) n c) (.slice (some ⟨g, 0, none⟩) n c) its (its.set i (b.str! x, v)) s ⟨s.ws, s.bl.modify i fun b => b.str! x, s.bad⟩ := by
  refine ⟨⟨h.raw.setStr hi x, ?_, ?_, h.cnt⟩, ⟨(Frm.rf _ w).st (p := ⟨g, i * 3 + 1, none⟩) (.inl (.inr (.inr rfl))) _, fun k h => .inl h, ?_, List.prefix_refl _⟩⟩
  · rw [bl_set hi fun b => b.str! x, h.bl]
  · rw [List.length_set]; exact h.wl
  · rintro k (e | e | e | ⟨it, hit, e⟩)
    · exact .inl (.inl e)
    · exact .inl (.inr (.inl e))
    · exact .inl (.inr (.inr (.inl e)))
    · rcases mem_set_or hit with hit | rfl
      · exact .inl (.inr (.inr (.inr ⟨it, hit, e⟩)))
      · exact .inl (.inr (.inr (.inr ⟨_, List.mem_of_getElem? hi, e⟩)))
theorem DR.kidsIn {tt B : Nat} {U : List Int} {w w0 : World} {dp mb g n c i : Nat} {hv v u : Value} {b : Em.Blk} {its its0 : List (Em.Blk × Value)} {l0 : Value} {s s0 : Em.Dw} {ks : List (Bool × Int)} (h : DR tt B U w dp mb hv (.slice (some ⟨g, 0, none⟩) n c) its s) (hi : its[i]? = some (b, v))
    (hu : w.ownsRow B 28 2 u ks.length (ks.map refCells).flatten) (hw : ∀ k ∈ ks, (Lit.int .i64 k.2).wf = true) (hd : ∀ k, u.ownBlock = some k → ¬ HasD dp mb (.slice (some ⟨g, 0, none⟩) n c) its k)
    (h0 : Went U w0 w dp mb l0 (.slice (some ⟨g, 0, none⟩) n c) its0 its s0 s) (hn : ∀ k, u.ownBlock = some k → w0.heap.size ≤ k) :
    DR tt B U (w.setCell ⟨g, i * 3 + 2, none⟩ u) dp mb hv (.slice (some ⟨g, 0, none⟩) n c) (its.set i (b.kids! ks, u)) ⟨s.ws, s.bl.modify i fun b => b.kids! ks, s.bad⟩ ∧ Went U w0 (w.setCell ⟨g, i * 3 + 2, none⟩ u) dp mb l0 (.slice (some ⟨g, 0, none⟩) n c) its0 (its.set i (b.kids! ks, u)) s0 ⟨s.ws, s.bl.modify i fun b => b.kids! ks, s.bad⟩ := by
  refine ⟨⟨h.raw.setKids hi hu hw hd, ?_, ?_, h.cnt⟩, ⟨h0.frm.trn ((Frm.rf (· = g) w).st (p := ⟨g, i * 3 + 2, none⟩) (.inl rfl) _) fun k e => ?_, h0.row, ?_, h0.pre⟩⟩
  · rw [bl_set hi fun b => b.kids! ks, h.bl]
  · rw [List.length_set]; exact h.wl
  · rcases h0.row g rfl with e2 | e2
    · exact .inl (.inr (.inr (by rw [show k = g from e]; exact e2)))
    · exact .inr (by rw [show k = g from e]; exact e2)
  · rintro k (e | e | e | ⟨it, hit, e⟩)
    · exact .inl (.inl e)
    · exact .inl (.inr (.inl e))
    · exact h0.has k (.inr (.inr (.inl e)))
    · rcases mem_set_or hit with hit | rfl
      · exact h0.has k (.inr (.inr (.inr ⟨it, hit, e⟩)))
      · exact .inr (hn k e)
/-- The row of blocks, where it lies. -/
theorem DR.at_ {tt B : Nat} {U : List Int} {w : World} {dp mb : Nat} {hv l : Value} {its : List (Em.Blk × Value)} {s : Em.Dw} (h : DR tt B U w dp mb hv l its s) {i : Nat} (hi : i < its.length) : ∃ g c, l = .slice (some ⟨g, 0, none⟩) its.length c := by
  obtain ⟨_, ⟨_, h00⟩ | ⟨g, c, cur, e, _⟩⟩ := h.raw.row
  · omega
  · exact ⟨g, c, e⟩
theorem infoRf : (Try.prog.info? 28).map (fun i => (i.zero, i.size, i.bytes)) = some (some (.agg #[.bool false, .int .i64 0]), 2, 16) := by kernel_rfl
theorem own_nilR (w : World) (B : Nat) : w.ownsRow B 28 2 (.slice none 0 0) 0 [] := ⟨by simp, .inl ⟨rfl, rfl⟩⟩
theorem src_new2 (W : World) (n : Nat) (a b : Value) {t : TypeId} (h : W.heap.size = n) : Src (W.alloc (.cells #[a, b] t)) 2 (.slice (some ⟨n, 0, none⟩) 1 1) 1 [a, b] := by
  subst h
  refine ⟨rfl, _, _, rfl, fun _ => ⟨_, rfl, fun j u hu => ?_⟩⟩
  rw [add_pl]
  exact lit_cells rfl j (by simpa using hu)
theorem ref_one (x : Bool × Int) (u : Value) (h : u ∈ refCells x) : u.oneCell' = true := by
  simp [refCells] at h
  rcases h with rfl | rfl <;> rfl
/-- The kids that were drawn so far. -/
def KidsAt (tt B : Nat) (U : List Int) (dp mb : Nat) (hv : Value) (w : World) (l : Value) (its : List (Em.Blk × Value)) (s : Em.Dw) (q : List (Bool × Int) × Em.Dw) (v : Value) (W : World) : Prop :=
  ∃ l' its', DR tt B U W dp mb hv l' its' q.2 ∧ Went U w W dp mb l l' its its' s q.2 ∧ W.ownsRow w.heap.size 28 2 v q.1.length (q.1.map refCells).flatten ∧ (∀ z, v.ownBlock = some z → ¬ HasD dp mb l' its' z) ∧ ∀ z ∈ q.1, (Lit.int .i64 z.2).wf = true
theorem KidsAt.push {tt B : Nat} {U : List Int} {dp mb : Nat} {hv : Value} {w W W2 W3 W4 : World} {l l1 l2 v v' : Value} {its its1 its2 : List (Em.Blk × Value)} {s s1 s2 : Em.Dw} {ks : List (Bool × Int)} {x : Bool × Int}
    (hd : DR tt B U W dp mb hv l1 its1 s1) (hw : Went U w W dp mb l l1 its its1 s s1) (hn : ∀ z, v.ownBlock = some z → ¬ HasD dp mb l1 its1 z) (hwf : ∀ z ∈ ks, (Lit.int .i64 z.2).wf = true) (ho : W.ownsRow w.heap.size 28 2 v ks.length (ks.map refCells).flatten)
    (hd2 : DR tt B U W2 dp mb hv l2 its2 s2) (hw2 : Went U W W2 dp mb l1 l2 its1 its2 s1 s2) (hx : (Lit.int .i64 x.2).wf = true) (k3 : Keep W2 W3) (ha : App W3 w.heap.size 28 2 v (ks.length + 1) ((ks.map refCells).flatten ++ refCells x) v' W4) :
    KidsAt tt B U dp mb hv w l its s (ks ++ [x], s2) v' W4 := by
  obtain ⟨h1, h2, h3⟩ := ha
  have F : Frm (fun k => v.ownBlock = some k) W3 W4 := Frm.of_grown h2 fun _ e => e
  have hlt := World.ownsRow.lt ho
  have hn2 : ∀ z, v.ownBlock = some z → ¬ HasD dp mb l2 its2 z := fun z e => hw2.out (hlt z e).2 (hn z e)
  have hd3 := (hd2.keep k3).frm F fun k hk e => hn2 k e hk
  refine ⟨l2, its2, hd3, ?_, by simpa using h1, ?_, ?_⟩
  · have h4 := (hw.tr hw2).tr (Went.of_keep k3)
    exact { h4 with frm := h4.frm.trn F fun i e => .inr (hlt i e).1 }
  · intro z e
    rcases h3 with e2 | e2
    · exact hn2 z (by rw [← e2, e])
    · rw [e2] at e
      injection e with e
      intro hz
      have h5 := (hd2.raw.lt z hz).2
      have h6 := k3.size
      omega
  · intro z hz
    rcases List.mem_append.1 hz with hz | hz
    · exact hwf z hz
    · rw [List.mem_singleton.1 hz]; exact hx
end Go.Proofs.Ytoehaijmkmdggaa
namespace Go.Proofs.Ytoehaijmkmdggaa
open Go.RowKit Go.Maps
set_option linter.unusedVariables false
set_option linter.unusedSimpArgs false
set_option maxRecDepth 100000
theorem RRep.blk {w : World} {p sz : Nat} {S : List Nat} {H : Em.Hp} (h : RRep w p S sz H) (n : Int) : (Em.blk H n).2.length ≤ 20000 ∧ (∀ f ∈ (Em.blk H n).2, (Lit.int .i64 f).wf = true) ∧ (Lit.int .i64 (Em.blk H n).1).wf = true := by
  obtain ⟨a, t, f, fv, rfl, h, r, hs1, hs2⟩ := h
  rcases blk_mem H n with e | e
  · rw [e]
    exact ⟨by simp, by simp, by decide⟩
  · have := used_ge e
    exact ⟨by omega, (r _ e).2, (r _ e).1⟩
set_option maxHeartbeats 8000000 in
theorem ref18Text {p sz : Nat} {S : List Nat} {H : Em.Hp} (w : World) (h : RRep w p S sz H) (n : Int) (hn : (Lit.int .i64 n).wf = true) : Calls Try.prog 89 #[.pointer (some ⟨p, 0, none⟩), .int .i64 n] w (RetX w (Em.textH H n)) := by
  by_cases ht : (Em.blk H n).1 = 1
  · have hX := hide (show Em.textH H n = Em.textB (Em.blk H n).2 from if_pos ht)
    have hsmall : (Em.blk H n).2.length ≤ 1000000 := by have := (h.blk n).1; omega
    have HT := hide ht
    have HFD := refFields (n := n) w h
    go_enter Try.func89, Try.ntmps89
    go_wp2_with fail
    refine (refTag _ h n hn).mono ?_
    rintro e w1 ⟨rfl, rfl⟩
    rw [ht]
    clear ht
    generalize hfs : (Em.blk H n).2 = fs at *
    have HFS := hide hfs
    clear hfs
    go_wp2_with fail
    refine (HFD hn).mono ?_
    rintro e w1 ⟨v, rfl, hv, rfl⟩
    obtain ⟨A, c, rfl, q1, q2, q3⟩ := hv
    simp only [List.length_map, List.getElem_map] at q1 q3 ⊢
    go_wp2_with fail
    go_loopw [7, 8] (fun r i W => ∃ k : Nat, k ≤ fs.length ∧ i = .int .i64 (k : Int) ∧ (∀ x ∈ fs.take k, Em.isB x = true) ∧ Obs W w.heap.size r ((fs.take k).map Em.byteOf) ∧ Keep w W) (fun _ i _ => fs.length - (intOf i).toNat)
    case atStart => exact ⟨0, Nat.zero_le _, rfl, by simp, Ob.nil _ _ _, Keep.rf _⟩
    case round =>
      obtain ⟨k, hk, rfl, hall, row, kw⟩ := hrel
      obtain ⟨rA, rc, rfl⟩ := own_slice row
      have HALL := hide hall
      have HROW := hide row
      clear hall row
      have hkl : ((fs.take k).map Em.byteOf).length = k := by simp; omega
      rw [hkl]
      rw [hkl] at HROW
      by_cases hlt : k < fs.length
      · have hlti : (k : Int) < (fs.length : Int) := by omega
        obtain ⟨ad, rfl, hc⟩ := q3 (by omega)
        have c0 := Keep.cell kw (hc k hlt)
        have hno := textB_no hlt
        have hyes : Em.isB fs[k] = true → ∀ x ∈ fs.take (k + 1), Em.isB x = true := by
          intro hx x hm
          rw [List.take_succ_eq_append_getElem hlt] at hm
          rcases List.mem_append.1 hm with hm | hm
          · exact HALL.out x hm
          · rw [List.mem_singleton.1 hm]; exact hx
        have hsn : (fs.take (k + 1)).map Em.byteOf = (fs.take k).map Em.byteOf ++ [Em.byteOf fs[k]] := by
          rw [List.take_succ_eq_append_getElem hlt, List.map_append]
          rfl
        generalize hy : fs[k] = y at *
        clear hy
        have HNO := hide hno
        have HYES := hide hyes
        have HSN := hide hsn
        have HQ := hide q3
        clear hno hyes hsn hc q3
        generalize (fs.take k).map Em.byteOf = xs at *
        go_wp2_with fail
        refine (refNum y _).mono ?_
        rintro e w2 ⟨rfl, rfl⟩
        go_wp2_with fail
        refine (refIsInt y _).mono ?_
        rintro e w2 ⟨rfl, rfl⟩
        by_cases h1 : y % 2 = 1
        · by_cases h2 : y / 2 < 0
          · have hb : Em.isB y = false := by unfold Em.isB; rw [decide_eq_false (p := 0 ≤ y / 2) (by omega)]; simp
            have h1b : (y % 2 == 1) = true := by simpa using h1
            rw [h1b]
            have HB := hide hb
            clear hb h1 h1b
            go_wp2_with fail
            go_ret2
            exact RetX.of (hX.out.trans (HNO.out HB.out)) ⟨kw, rfl⟩
          · by_cases h3 : y / 2 < 256
            · have hb : Em.isB y = true := by unfold Em.isB; rw [decide_eq_true (by omega), decide_eq_true h3]; simp; exact h1
              have h1b : (y % 2 == 1) = true := by simpa using h1
              rw [h1b]
              have h3n : ¬ (y / 2 > 255) := by omega
              have hby : Value.int .u8 (y / 2) = bv (Em.byteOf y) := by
                unfold Em.byteOf bv
                rw [UInt8.toNat_ofNat', Nat.mod_eq_of_lt (by omega)]
                congr 1
                omega
              have HBY := hide hby
              have HB := hide hb
              clear hb hby h1 h1b
              go_wp2_with (first
                | (at_builtin; go_loud (refine appB (w0 := w) rfl (.tmp 42) (.tmp 45) rfl _ xs rfl (Ob.keep HROW.out (by repeat (first | exact Keep.rf _ | assumption | apply Keep.al | apply Keep.dr | apply Keep.dn))) _ [Em.byteOf y] rfl (Bs.box HBY.out rfl) (Keep.al kw _) (by simp; omega) ?_); intro v5 w5 ho5 hk5 _ _; obtain ⟨A5, c5, e5⟩ := own_slice ho5; subst e5; have HO5 := hide ho5; clear ho5)
                | fail)
              go_roundw
              case rel => exact ⟨k + 1, by omega, by go_num, HYES.out HB.out, by rw [HSN.out]; have := HO5.out; rwa [List.length_append, hkl] at this, hk5⟩
              case measure => simp [intOf]; omega
            · have hb : Em.isB y = false := by unfold Em.isB; rw [decide_eq_false h3]; simp
              have h1b : (y % 2 == 1) = true := by simpa using h1
              rw [h1b]
              have h3n : y / 2 > 255 := by omega
              have HB := hide hb
              clear hb h1 h1b
              go_wp2_with fail
              go_ret2
              exact RetX.of (hX.out.trans (HNO.out HB.out)) ⟨kw, rfl⟩
        · have hb : Em.isB y = false := by
            unfold Em.isB
            rw [show (y % 2 == 1) = false from by simpa using h1]
            rfl
          have h1b : (y % 2 == 1) = false := by simpa using h1
          rw [h1b]
          have HB := hide hb
          clear hb h1 h1b
          go_wp2_with fail
          go_ret2
          exact RetX.of (hX.out.trans (HNO.out HB.out)) ⟨kw, rfl⟩
      · have hlti : ¬ (k : Int) < (fs.length : Int) := by omega
        have hkn : k = fs.length := by omega
        subst hkn
        have hy := HALL.out
        have HY := hide (textB_yes hy)
        rw [List.take_length] at HROW
        have hb : Bs wr (.slice rA fs.length rc) (fs.map Em.byteOf) := HROW.out.bs
        have hcA := run_conv_bs (P := Try.prog) hb 22 5 9 Try.underlying22 Try.underlying5 Try.underlying9
        clear hy hb HALL q3
        go_wp2_with fail
        go_ret2
        exact RetX.of (hX.out.trans HY.out) ⟨kw, rfl⟩
  · have hX := hide (show Em.textH H n = none from if_neg ht)
    go_enter Try.func89, Try.ntmps89
    go_wp2_with fail
    refine (refTag _ h n hn).mono ?_
    rintro e w1 ⟨rfl, rfl⟩
    generalize (Em.blk H n).1 = tg at *
    go_wp2_with fail
    go_ret2
    exact RetX.of hX.out ⟨(by repeat (first | exact Keep.rf _ | assumption | apply Keep.al | apply Keep.dr | apply Keep.dn)), rfl⟩
end Go.Proofs.Ytoehaijmkmdggaa
