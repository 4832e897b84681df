/- Plain: what the drawer does, and the reference's teller. -/
import Derived.Test.YtilhglnfjaablaaDrawP
import Derived.Test.YtilhglnfjaablaaShapeT
namespace Go.Proofs.Ytilhglnfjaablaa
set_option linter.unusedVariables false
namespace Em
/-- A block is drawn: the block i of those that came. -/
def fillP (r : Int → Dw → (Bool × Int) × Dw) (H : Hp) (n : Int) (i : Nat) (s : Dw) : Dw :=
  if (blk H n).1 = 0 ∨ (blk H n).1 = 8 then ⟨s.ws, s.bl, true⟩
  else if (blk H n).1 = 1 then ⟨s.ws, s.bl.modify i fun b => b.str! ((textH H n).getD []), s.bad || !(textH H n).isSome⟩
  else if (blk H n).1 = 6 ∨ (blk H n).1 = 7 then s
  else ⟨(kidsP r (blk H n).2 s).2.ws, (kidsP r (blk H n).2 s).2.bl.modify i fun b => b.kids! (kidsP r (blk H n).2 s).1, (kidsP r (blk H n).2 s).2.bad⟩
/-- A word comes. -/
def Dw.come (s : Dw) (n tag : Int) : Dw := ⟨s.ws ++ [n], s.bl ++ [⟨tag, [], []⟩], s.bad⟩
/-- A word as a value: the drawer's way. -/
def refP : Nat → Hp → Int → Dw → (Bool × Int) × Dw
  | 0, _, _, s => ((false, 0), s)
  | f + 1, H, n, s => if n % 2 = 1 then ((true, n / 2), s) else match pos s.ws n with
    | some i => ((false, (i : Int)), s)
    | none => ((false, (s.bl.length : Int)), fillP (refP f H) H n s.bl.length (s.come n (blk H n).1))
/-- The teller's way. -/
def refQ : Nat → Hp → Int → Dw → (Bool × Int) × Dw
  | 0, _, _, s => ((false, 0), s)
  | f + 1, H, n, s => if n % 2 = 1 then ((true, n / 2), s) else match pos s.ws n with
    | some i => ((false, (i : Int)), s)
    | none => if (blk H n).1 = 0 ∨ (blk H n).1 = 8 ∨ s.bad = true then ((false, 0), ⟨s.ws, s.bl, true⟩)
      else ((false, (s.bl.length : Int)), fillP (refQ f H) H n s.bl.length (s.come n (blk H n).1))
theorem kidsP_bad {r : Int → Dw → (Bool × Int) × Dw} (h : ∀ n s, s.bad = true → (r n s).2.bad = true) : ∀ l s, s.bad = true → (kidsP r l s).2.bad = true := by
  intro l
  induction l with
  | nil => exact fun s h => h
  | cons a t ih => exact fun s hs => ih _ (h a s hs)
theorem fillP_bad {r : Int → Dw → (Bool × Int) × Dw} (h : ∀ n s, s.bad = true → (r n s).2.bad = true) (H : Hp) (n : Int) (i : Nat) (s : Dw) (hs : s.bad = true) : (fillP r H n i s).bad = true := by
  unfold fillP
  split
  · rfl
  · split
    · simp [hs]
    · split
      · exact hs
      · exact kidsP_bad h _ _ hs
theorem refP_bad (f : Nat) (H : Hp) : ∀ n s, s.bad = true → (refP f H n s).2.bad = true := by
  induction f with
  | zero => exact fun n s h => h
  | succ f ih =>
    intro n s hs
    rw [refP]
    split
    · exact hs
    · cases pos s.ws n with
      | some i => exact hs
      | none => exact fillP_bad ih H n _ _ hs
theorem refQ_bad (f : Nat) (H : Hp) : ∀ n s, s.bad = true → (refQ f H n s).2.bad = true := by
  induction f with
  | zero => exact fun n s h => h
  | succ f ih =>
    intro n s hs
    rw [refQ]
    split
    · exact hs
    · cases pos s.ws n with
      | some i => exact hs
      | none =>
        simp only
        split
        · rfl
        · exact fillP_bad ih H n _ _ hs
/-- Two ways are one, as long as all is well; and they fail together. -/
def Alike (a b : (Bool × Int) × Dw) : Prop := a = b ∨ (a.2.bad = true ∧ b.2.bad = true)
theorem kidsP_alike {r q : Int → Dw → (Bool × Int) × Dw} (h : ∀ n s, Alike (r n s) (q n s)) (hr : ∀ n s, s.bad = true → (r n s).2.bad = true) (hq : ∀ n s, s.bad = true → (q n s).2.bad = true) :
    ∀ l s, kidsP r l s = kidsP q l s ∨ ((kidsP r l s).2.bad = true ∧ (kidsP q l s).2.bad = true) := by
  intro l
  induction l with
  | nil => exact fun s => .inl rfl
  | cons a t ih =>
    intro s
    rw [kidsP, kidsP]
    rcases h a s with e | ⟨e1, e2⟩
    · rw [e]
      rcases ih (q a s).2 with e | ⟨e1, e2⟩
      · exact .inl (by rw [e])
      · exact .inr ⟨e1, e2⟩
    · exact .inr ⟨kidsP_bad hr _ _ e1, kidsP_bad hq _ _ e2⟩
theorem fillP_alike {r q : Int → Dw → (Bool × Int) × Dw} (h : ∀ n s, Alike (r n s) (q n s)) (hr : ∀ n s, s.bad = true → (r n s).2.bad = true) (hq : ∀ n s, s.bad = true → (q n s).2.bad = true) (H : Hp) (n : Int) (i : Nat) (s : Dw) :
    fillP r H n i s = fillP q H n i s ∨ ((fillP r H n i s).bad = true ∧ (fillP q H n i s).bad = true) := by
  unfold fillP
  by_cases c1 : (blk H n).1 = 0 ∨ (blk H n).1 = 8
  · rw [if_pos c1, if_pos c1]
    exact .inl rfl
  rw [if_neg c1, if_neg c1]
  by_cases c2 : (blk H n).1 = 1
  · rw [if_pos c2, if_pos c2]
    exact .inl rfl
  rw [if_neg c2, if_neg c2]
  by_cases c3 : (blk H n).1 = 6 ∨ (blk H n).1 = 7
  · rw [if_pos c3, if_pos c3]
    exact .inl rfl
  rw [if_neg c3, if_neg c3]
  rcases kidsP_alike h hr hq (blk H n).2 s with e | ⟨e1, e2⟩
  · exact .inl (by rw [e])
  · exact .inr ⟨e1, e2⟩
theorem ref_alike (f : Nat) (H : Hp) : ∀ n s, Alike (refP f H n s) (refQ f H n s) := by
  induction f with
  | zero => exact fun n s => .inl rfl
  | succ f ih =>
    intro n s
    rw [refP, refQ]
    split
    · exact .inl rfl
    · cases pos s.ws n with
      | some i => exact .inl rfl
      | none =>
        simp only
        split
        · next h =>
          refine .inr ⟨?_, rfl⟩
          rcases h with h | h | h
          · simp [fillP, h]
          · simp [fillP, h]
          · exact fillP_bad (refP_bad f H) _ _ _ _ h
        · next h =>
          rcases fillP_alike ih (refP_bad f H) (refQ_bad f H) H n s.bl.length (s.come n (blk H n).1) with e | ⟨e1, e2⟩
          · exact .inl (by rw [e])
          · exact .inr ⟨e1, e2⟩
end Em
end Go.Proofs.Ytilhglnfjaablaa
