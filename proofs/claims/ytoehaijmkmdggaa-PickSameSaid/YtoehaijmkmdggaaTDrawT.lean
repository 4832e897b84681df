/- Plain: a value's graph in a heap. Plain: what the drawer does, and the reference's teller. A drawing in memory. Walk: a word as a value of the graph (drawer.ref), given how a block is drawn. Walk: a block of the graph (drawer.block), given how values are drawn. Walk: a string's bytes out of a heap (reference of shape). Walk: a word as a value of the graph (the reference's teller). Walks: a value's graph (package shape, and its reference). -/
import Derived.Test.YtoehaijmkmdggaaTDrawA
import Derived.Test.YtoehaijmkmdggaaTShapeP
import Derived.Test.YtoehaijmkmdggaaTRefR
import Derived.Test.YtoehaijmkmdggaaTLibR
set_option linter.unusedSimpArgs false
set_option linter.unusedVariables false
namespace Go.Proofs.Ytoehaijmkmdggaa
set_option linter.unusedVariables false
namespace Em
/-- A drawing under way: the words that came, their blocks; is one none? -/
structure Dw where
  ws : List Int
  bl : List Blk
  bad : Bool
end Em
end Go.Proofs.Ytoehaijmkmdggaa
namespace Go.Proofs.Ytoehaijmkmdggaa
set_option linter.unusedVariables false
namespace Em
/-- A word comes. -/
def Dw.come (s : Dw) (n tag : Int) : Dw := ⟨s.ws ++ [n], s.bl ++ [⟨tag, [], []⟩], s.bad⟩
end Em
end Go.Proofs.Ytoehaijmkmdggaa
namespace Go.Proofs.Ytoehaijmkmdggaa
open Go.RowKit Go.Maps
set_option linter.unusedVariables false
section
variable {tt B : Nat} {w w' : World} {dp mb : Nat} {hv l : Value} {bad : Bool} {f : Int → Option Value} {its : List (Em.Blk × Value)}
end
section
variable {tt B : Nat} {U : List Int} {w w1 w' : World} {dp mb : Nat} {hv l l1 l' : Value} {its its1 its' : List (Em.Blk × Value)} {s s1 s' : Em.Dw}
end
end Go.Proofs.Ytoehaijmkmdggaa
namespace Go.Proofs.Ytoehaijmkmdggaa
open Go.RowKit Go.Maps
set_option linter.unusedVariables false
set_option linter.unusedSimpArgs false
set_option maxRecDepth 100000
end Go.Proofs.Ytoehaijmkmdggaa
namespace Go.Proofs.Ytoehaijmkmdggaa
open Go.RowKit Go.Maps
set_option linter.unusedVariables false
set_option linter.unusedSimpArgs false
set_option maxRecDepth 100000
end Go.Proofs.Ytoehaijmkmdggaa
namespace Go.Proofs.Ytoehaijmkmdggaa
open Go.RowKit Go.Maps
set_option linter.unusedVariables false
set_option linter.unusedSimpArgs false
set_option maxRecDepth 100000
end Go.Proofs.Ytoehaijmkmdggaa
namespace Go.Proofs.Ytoehaijmkmdggaa
open Go.RowKit Go.Maps
set_option linter.unusedVariables false
set_option linter.unusedSimpArgs false
set_option maxRecDepth 100000
end Go.Proofs.Ytoehaijmkmdggaa
namespace Go.Proofs.Ytoehaijmkmdggaa
open Go.RowKit Go.Maps
set_option linter.unusedVariables false
set_option linter.unusedSimpArgs false
set_option maxRecDepth 100000
namespace Em
end Em
end Go.Proofs.Ytoehaijmkmdggaa
