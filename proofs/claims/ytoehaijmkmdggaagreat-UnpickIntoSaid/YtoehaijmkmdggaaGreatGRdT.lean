/- Walk: a type that is put together (reference). -/
import Derived.Test.YtoehaijmkmdggaaGreatGLibK
set_option linter.unusedSimpArgs false
set_option linter.unusedVariables false
namespace Go.Proofs.YtoehaijmkmdggaaGreat
open Go.RowKit
set_option linter.unusedVariables false
set_option linter.unusedSimpArgs false
set_option maxRecDepth 100000
theorem refT23 (w : World) (o : List UInt8) (A : Option Addr) (n c : Nat) : Calls Tryz.prog 20 #[.string (str o), .slice A n c] w fun e w' => e = .returned (.agg #[.string (str o), .int .i64 0, .slice A n c]) ∧ Keep w w' := by
  go_enter Tryz.func20, Tryz.ntmps20
  go_wp2_with fail
  refine bodyPost_ret_by (results_cell_row rfl _ _ w.heap.size 25 _ (0, 0) _ rfl (heap_alloc_new w _) Tryz.underlying25 rfl ?_) rfl ?_
  · kernel_rfl
  · exact ⟨rfl, (by repeat (first | exact Keep.rf _ | assumption | apply Keep.al | apply Keep.dr | apply Keep.dn))⟩
end Go.Proofs.YtoehaijmkmdggaaGreat
