/- Walks: the laws of heap return true. -/
import Derived.Test.YtilhglnfjaablaaHeapA
namespace Go.Proofs.Ytilhglnfjaablaa
open Go.RowKit Go.Maps
set_option linter.unusedVariables false
set_option maxRecDepth 100000
theorem intW_4 : intW 4 = 9 := by unfold intW; rw [IntKind.wrap_i64]; rfl
theorem intW_m3 : intW (-3) / 2 = -3 := intW_back _ (by omega) (by omega)
theorem alloc_1 : Em.alloc 9 [] 4 [9] = some (0, [(4, [9])]) := by simp [Em.alloc, Em.used]
theorem alloc_2 : Em.alloc 9 [(4, [9])] 4 [0] = some (4, [(4, [9]), (4, [0])]) := by simp [Em.alloc, Em.used]
theorem used_2 : Em.used [(4, [9]), (4, [0])] = 4 := by simp [Em.used]
theorem AllocH.yes {w w' : World} {p sz : Nat} {S : List Nat} {H : Em.Hp} {tag : Int} {fs : List Int} {e : Ending} {n : Int} {H' : Em.Hp} (h : AllocH w p S sz H tag fs e w') (ha : Em.alloc sz H tag fs = some (n, H')) :
    e = .returned (.tuple #[.int .i64 n, .bool true]) ∧ ∃ S', HRep w' p S' sz H' ∧ Frm (· ∈ S) w w' ∧ ∀ k ∈ S', k ∈ S ∨ w.heap.size ≤ k := by
  unfold AllocH at h
  rw [ha] at h
  exact h
theorem AllocH.no {w w' : World} {p sz : Nat} {S : List Nat} {H : Em.Hp} {tag : Int} {fs : List Int} {e : Ending} (h : AllocH w p S sz H tag fs e w') (ha : Em.alloc sz H tag fs = none) :
    e = .returned (.tuple #[.int .i64 0, .bool false]) ∧ Keep w w' := by
  unfold AllocH at h
  rw [ha] at h
  exact h
theorem ret_tr {a : Bool} (h : a = true) : Ending.returned (.bool a) = .returned (.bool true) := by rw [h]
end Go.Proofs.Ytilhglnfjaablaa
