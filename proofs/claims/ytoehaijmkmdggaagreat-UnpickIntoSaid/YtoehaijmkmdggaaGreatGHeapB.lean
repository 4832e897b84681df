/- Both heaps alike (package heap, and the reference's). -/
import Derived.Test.YtoehaijmkmdggaaGreatGHeapR
import Derived.Test.YtoehaijmkmdggaaGreatGRefR
import Derived.Test.YtoehaijmkmdggaaGreatGBldU
set_option linter.unusedSimpArgs false
set_option linter.unusedVariables false
namespace Go.Proofs.YtoehaijmkmdggaaGreat
open Go.RowKit Go.Maps
set_option linter.unusedVariables false
/-- Where both heaps are, alike. -/
def Both (w W : World) (p q m : Nat) (S T : List Nat) (H : Em.Hp) : Prop :=
  HRep W p S m H ∧ RRep W q T m H ∧ (∀ k ∈ S, w.heap.size ≤ k) ∧ (∀ k ∈ T, w.heap.size ≤ k) ∧ (∀ k ∈ S, k ∉ T) ∧ Keep w W
theorem Both.keep {w W W' : World} {p q m : Nat} {S T : List Nat} {H : Em.Hp} (h : Both w W p q m S T H) (k : Keep W W') : Both w W' p q m S T H := by
  obtain ⟨h1, h2, h3, h4, h5, h6⟩ := h
  exact ⟨h1.keep k, h2.keep k, h3, h4, h5, Keep.tr h6 k⟩
theorem Both.parts {w W : World} {p q m : Nat} {S T : List Nat} {H : Em.Hp} (h : Both w W p q m S T H) {W1 : World} {S1 : List Nat} (x : Ext W W1 S S1) : RRep W1 q T m H ∧ Keep w W1 := by
  obtain ⟨h1, h2, h3, h4, h5, h6⟩ := h
  exact ⟨h2.frm x.1 fun i hi hs => h5 i hs hi, Frm.keep h6 x.1 h3⟩
theorem Both.step {w W : World} {p q m : Nat} {S T : List Nat} {H : Em.Hp} (h : Both w W p q m S T H) {W1 W2 : World} {S1 T1 : List Nat} {H1 : Em.Hp} (r1 : HRep W1 p S1 m H1) (x1 : Ext W W1 S S1) (r2 : RRep W2 q T1 m H1) (x2 : Ext W1 W2 T T1) : Both w W2 p q m S1 T1 H1 := by
  obtain ⟨h1, h2, h3, h4, h5, h6⟩ := h
  have l2 := h2.lt
  have l1 := r1.lt
  have k1 := Frm.keep h6 x1.1 h3
  have hS1T : ∀ k ∈ S1, k ∉ T := fun k hk ht => by
    rcases x1.2 k hk with e | e
    · exact h5 k e ht
    · have := l2 k ht; omega
  refine ⟨r1.frm x2.1 fun i hi ht => hS1T i hi ht, r2, fun k hk => ?_, fun k hk => ?_, fun k hk ht => ?_, Frm.keep k1 x2.1 h4⟩
  · rcases x1.2 k hk with e | e
    · exact h3 k e
    · exact Nat.le_trans h6.size e
  · rcases x2.2 k hk with e | e
    · exact h4 k e
    · exact Nat.le_trans k1.size e
  · rcases x2.2 k ht with e | e
    · exact hS1T k hk e
    · have := l1 k hk; omega
theorem Both.block {w W : World} {p q m : Nat} {S T : List Nat} {H : Em.Hp} (h : Both w W p q m S T H) {W1 W2 : World} {S1 T1 : List Nat} (x1 : Ext W W1 S S1) (x2 : Ext W1 W2 T T1) {b : Nat} {o : Obj} (hb : W.heap[b]? = some o) (hS : ¬ b ∈ S) (hT : ¬ b ∈ T) : W2.heap[b]? = some o := x2.1.heap hT (x1.1.heap hS hb)
/-- What an Alloc comes to, whatever it answers. -/
theorem AllocH.all {w w' : World} {p sz : Nat} {S : List Nat} {H : Em.Hp} {tag : Int} {fs : List Int} {e : Ending} (h : AllocH w p S sz H tag fs e w') (hr : HRep w p S sz H) :
    e = .returned (.tuple #[.int .i64 (allocE sz H tag fs).1, .bool (allocE sz H tag fs).2.1]) ∧ ∃ S', HRep w' p S' sz (allocE sz H tag fs).2.2 ∧ Ext w w' S S' := by
  unfold AllocH at h
  unfold allocE
  cases ha : Em.alloc sz H tag fs with
  | none =>
    rw [ha] at h
    exact ⟨h.1, S, hr.keep h.2, (Ext.rf w S).keep h.2⟩
  | some x =>
    rw [ha] at h
    obtain ⟨h1, S', h2, h3, h4⟩ := h
    exact ⟨h1, S', h2, h3, h4⟩
theorem AllocR.all {w w' : World} {p sz : Nat} {S : List Nat} {H : Em.Hp} {tag : Int} {fs : List Int} {e : Ending} (h : AllocR w p S sz H tag fs e w') (hr : RRep w p S sz H) :
    e = .returned (.tuple #[.int .i64 (allocE sz H tag fs).1, .bool (allocE sz H tag fs).2.1]) ∧ ∃ S', RRep w' p S' sz (allocE sz H tag fs).2.2 ∧ Ext w w' S S' := by
  unfold AllocR at h
  unfold allocE
  cases ha : Em.alloc sz H tag fs with
  | none =>
    rw [ha] at h
    exact ⟨h.1, S, hr.keep h.2, (Ext.rf w S).keep h.2⟩
  | some x =>
    rw [ha] at h
    obtain ⟨h1, S', h2, h3⟩ := h
    exact ⟨h1, S', h2, h3⟩
/-- What a Set comes to. -/
theorem SetH.all {w w' : World} {p sz : Nat} {S : List Nat} {H : Em.Hp} {n k v : Int} {e : Ending} (h : SetH w p S sz H n k v e w') (hr : HRep w p S sz H) :
    e = .returned (.bool (putE H n k v).1) ∧ HRep w' p S sz (putE H n k v).2 ∧ Ext w w' S S := by
  unfold SetH at h
  unfold putE
  cases ha : Em.put H n k v with
  | none =>
    rw [ha] at h
    obtain ⟨h1, rfl⟩ := h
    exact ⟨h1, hr, Ext.rf w S⟩
  | some x =>
    rw [ha] at h
    exact ⟨h.1, h.2.1, h.2.2, fun k hk => .inl hk⟩
theorem SetR.all {w w' : World} {p sz : Nat} {S : List Nat} {H : Em.Hp} {n k v : Int} {e : Ending} (h : SetR w p S sz H n k v e w') (hr : RRep w p S sz H) :
    e = .returned (.bool (putE H n k v).1) ∧ RRep w' p S sz (putE H n k v).2 ∧ Ext w w' S S := by
  unfold SetR at h
  unfold putE
  cases ha : Em.put H n k v with
  | none =>
    rw [ha] at h
    obtain ⟨h1, rfl⟩ := h
    exact ⟨h1, hr, Ext.rf w S⟩
  | some x =>
    rw [ha] at h
    exact ⟨h.1, h.2.1, h.2.2, fun k hk => .inl hk⟩
end Go.Proofs.YtoehaijmkmdggaaGreat
