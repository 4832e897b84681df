/- Walks: pick: a value, given what a block comes to. -/
import Derived.Test.YtoehaijmkmdggaaUPkN
set_option linter.unusedSimpArgs false
set_option linter.unusedVariables false
namespace Go.Proofs.Ytoehaijmkmdggaa
open Go.RowKit Go.Maps
open Em (Ty)
set_option linter.unusedVariables false
set_option linter.unusedSimpArgs false
set_option maxRecDepth 100000
theorem intW_0 : intW 0 = 1 := by decide
section
variable {B f : Nat} {Z : Nat → Prop} {w0 w : World} {p mb : Nat} {hv ov : Value} {tys : List (Ty × List Value)} {s : Em.Pk} {H : Em.Hp}
end
end Go.Proofs.Ytoehaijmkmdggaa
