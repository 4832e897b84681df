/- Both heaps alike (package heap, and the reference's). -/
import Derived.Test.YtoehaijmkmdggaaUHeapR
import Derived.Test.YtoehaijmkmdggaaURefR
import Derived.Test.YtoehaijmkmdggaaUBldU
set_option linter.unusedSimpArgs false
set_option linter.unusedVariables false
namespace Go.Proofs.Ytoehaijmkmdggaa
open Go.RowKit Go.Maps
set_option linter.unusedVariables false
theorem AllocR.all {w w' : World} {p sz : Nat} {S : List Nat} {H : Em.Hp} {tag : Int} {fs : List Int} {e : Ending} (h : AllocR w p S sz H tag fs e w') (hr : RRep w p S sz H) :
    e = .returned (.tuple #[.int .i64 (allocE sz H tag fs).1, .bool (allocE sz H tag fs).2.1]) ∧ ∃ S', RRep w' p S' sz (allocE sz H tag fs).2.2 ∧ Ext w w' S S' := by
  unfold AllocR at h
  unfold allocE
  cases ha : Em.alloc sz H tag fs with
  | none =>
    rw [ha] at h
    exact ⟨h.1, S, hr.keep h.2, (Ext.rf w S).keep h.2⟩
  | some x =>
    rw [ha] at h
    obtain ⟨h1, S', h2, h3⟩ := h
    exact ⟨h1, S', h2, h3⟩
theorem SetR.all {w w' : World} {p sz : Nat} {S : List Nat} {H : Em.Hp} {n k v : Int} {e : Ending} (h : SetR w p S sz H n k v e w') (hr : RRep w p S sz H) :
    e = .returned (.bool (putE H n k v).1) ∧ RRep w' p S sz (putE H n k v).2 ∧ Ext w w' S S := by
  unfold SetR at h
  unfold putE
  cases ha : Em.put H n k v with
  | none =>
    rw [ha] at h
    obtain ⟨h1, rfl⟩ := h
    exact ⟨h1, hr, Ext.rf w S⟩
  | some x =>
    rw [ha] at h
    exact ⟨h.1, h.2.1, h.2.2, fun k hk => .inl hk⟩
end Go.Proofs.Ytoehaijmkmdggaa
