/- Walks: the graph of a number; the laws' own check (shape). -/
import Derived.Test.YtoehaijmkmdggaaShapeT
import Derived.Test.YtoehaijmkmdggaaLibK
import Derived.Test.YtoehaijmkmdggaaReg
namespace Go.Proofs.Ytoehaijmkmdggaa
open Go.RowKit
set_option linter.unusedVariables false
set_option maxRecDepth 100000
end Go.Proofs.Ytoehaijmkmdggaa
