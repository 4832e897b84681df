/- Both heaps alike (package heap, and the reference's). -/
import Derived.Test.YtoehaijmkmdggaaTHeapR
import Derived.Test.YtoehaijmkmdggaaTRefR
import Derived.Test.YtoehaijmkmdggaaTBldU
set_option linter.unusedSimpArgs false
set_option linter.unusedVariables false
namespace Go.Proofs.Ytoehaijmkmdggaa
open Go.RowKit Go.Maps
set_option linter.unusedVariables false
/-- What an Alloc comes to, whatever it answers. -/
theorem AllocH.all {w w' : World} {p sz : Nat} {S : List Nat} {H : Em.Hp} {tag : Int} {fs : List Int} {e : Ending} (h : AllocH w p S sz H tag fs e w') (hr : HRep w p S sz H) :
    e = .returned (.tuple #[.int .i64 (allocE sz H tag fs).1, .bool (allocE sz H tag fs).2.1]) ∧ ∃ S', HRep w' p S' sz (allocE sz H tag fs).2.2 ∧ Ext w w' S S' := by
  unfold AllocH at h
  unfold allocE
  cases ha : Em.alloc sz H tag fs with
  | none =>
    rw [ha] at h
    exact ⟨h.1, S, hr.keep h.2, (Ext.rf w S).keep h.2⟩
  | some x =>
    rw [ha] at h
    obtain ⟨h1, S', h2, h3, h4⟩ := h
    exact ⟨h1, S', h2, h3, h4⟩
/-- What a Set comes to. -/
theorem SetH.all {w w' : World} {p sz : Nat} {S : List Nat} {H : Em.Hp} {n k v : Int} {e : Ending} (h : SetH w p S sz H n k v e w') (hr : HRep w p S sz H) :
    e = .returned (.bool (putE H n k v).1) ∧ HRep w' p S sz (putE H n k v).2 ∧ Ext w w' S S := by
  unfold SetH at h
  unfold putE
  cases ha : Em.put H n k v with
  | none =>
    rw [ha] at h
    obtain ⟨h1, rfl⟩ := h
    exact ⟨h1, hr, Ext.rf w S⟩
  | some x =>
    rw [ha] at h
    exact ⟨h.1, h.2.1, h.2.2, fun k hk => .inl hk⟩
end Go.Proofs.Ytoehaijmkmdggaa
