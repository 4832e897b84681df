/- Walks: pick: the types of a type's fields, numbers. -/
import Derived.Test.YtoehaijmkmdggaaUPkR
import Derived.Test.YtoehaijmkmdggaaURdN
import Derived.Test.YtoehaijmkmdggaaUVarZ
set_option linter.unusedSimpArgs false
set_option linter.unusedVariables false
namespace Go.Proofs.Ytoehaijmkmdggaa
open Go.RowKit
open Em (Ty)
set_option linter.unusedVariables false
set_option linter.unusedSimpArgs false
set_option maxRecDepth 100000
section
variable {I : Nat → Prop} {w : World} {d : Nat} {cs : List Value} {t : Ty}
end
section
variable {B : Nat} {Z : Nat → Prop} {w0 w : World} {p mb : Nat} {hv ov : Value} {tys : List (Ty × List Value)} {s : Em.Pk}
theorem half_in {n : Int} (hn : (Lit.int .i64 n).wf = true) : -9223372036854775808 ≤ n / 2 ∧ n / 2 ≤ 9223372036854775807 := by
  have := in_i64 hn
  omega
end
end Go.Proofs.Ytoehaijmkmdggaa
