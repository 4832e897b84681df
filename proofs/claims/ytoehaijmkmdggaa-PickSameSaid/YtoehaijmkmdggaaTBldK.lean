/- Walk: a block of a graph that comes the first time (counter.ref, the reference of shape). Walk: may a graph be built? (Is, the reference of shape) -/
import Derived.Test.YtoehaijmkmdggaaTBldP
import Derived.Shelf.Abstract
import Derived.Deep.DeepCutAuto
import Derived.Deep.CutBlock
import Derived.Deep.Cut
import Derived.Deep.RegionWith
import Derived.Deep.QuietTactic
import Derived.BigQuiet
set_option linter.unusedSimpArgs false
set_option linter.unusedVariables false
namespace Go.Proofs.Ytoehaijmkmdggaa
open Go.RowKit Go.Maps
set_option linter.unusedVariables false
set_option linter.unusedSimpArgs false
set_option maxRecDepth 100000
theorem refWrap (n : Int) (w : World) : Calls Try.prog 24 #[.int .i64 n] w fun e w' => e = .returned (.int .i64 (intW n / 2)) ∧ w = w' := by
  go_enter Try.func24, Try.ntmps24
  go_wp2_with fail
  refine (refInt n _).mono ?_
  rintro e w' ⟨rfl, rfl⟩
  generalize hm : intW n = m
  have HM := hide hm
  clear hm
  go_wp2_with fail
  refine (refNum m _).mono ?_
  rintro e w' ⟨rfl, rfl⟩
  go_wp2_with fail
  go_ret
  rw [HM.out]
  exact ⟨rfl, rfl⟩
theorem wrap_fits (n : Int) : (intW n / 2 == n) = Em.fitsN n := by
  have h : -4611686018427387904 ≤ intW n / 2 ∧ intW n / 2 < 4611686018427387904 := by
    unfold intW
    rw [IntKind.wrap_i64]
    omega
  unfold Em.fitsN
  rw [Bool.eq_iff_iff, beq_iff_eq, Bool.and_eq_true, decide_eq_true_iff, decide_eq_true_iff]
  refine ⟨fun e => by omega, fun ⟨e1, e2⟩ => intW_back n e1 e2⟩
end Go.Proofs.Ytoehaijmkmdggaa
namespace Go.Proofs.Ytoehaijmkmdggaa
open Go.RowKit Go.Maps
set_option linter.unusedVariables false
set_option linter.unusedSimpArgs false
set_option maxRecDepth 100000
end Go.Proofs.Ytoehaijmkmdggaa
