/- Plain: a value's graph in a heap. Plain: what the drawer does, and the reference's teller. A drawing in memory. Walk: a word as a value of the graph (drawer.ref), given how a block is drawn. Walk: a block of the graph (drawer.block), given how values are drawn. Walk: a string's bytes out of a heap (reference of shape). Walk: a word as a value of the graph (the reference's teller). Walks: a value's graph (package shape, and its reference). -/
import Derived.Test.YtoehaijmkmdggaaGreatGDrawA
import Derived.Test.YtoehaijmkmdggaaGreatGShapeP
import Derived.Test.YtoehaijmkmdggaaGreatGRefR
import Derived.Test.YtoehaijmkmdggaaGreatGLibR
set_option linter.unusedSimpArgs false
set_option linter.unusedVariables false
namespace Go.Proofs.YtoehaijmkmdggaaGreat
set_option linter.unusedVariables false
namespace Em
/-- A drawing under way: the words that came, their blocks; is one none? -/
structure Dw where
  ws : List Int
  bl : List Blk
  bad : Bool
end Em
end Go.Proofs.YtoehaijmkmdggaaGreat
namespace Go.Proofs.YtoehaijmkmdggaaGreat
set_option linter.unusedVariables false
namespace Em
end Em
end Go.Proofs.YtoehaijmkmdggaaGreat
namespace Go.Proofs.YtoehaijmkmdggaaGreat
open Go.RowKit Go.Maps
set_option linter.unusedVariables false
section
variable {tt B : Nat} {w w' : World} {dp mb : Nat} {hv l : Value} {bad : Bool} {f : Int → Option Value} {its : List (Em.Blk × Value)}
end
section
variable {tt B : Nat} {U : List Int} {w w1 w' : World} {dp mb : Nat} {hv l l1 l' : Value} {its its1 its' : List (Em.Blk × Value)} {s s1 s' : Em.Dw}
end
end Go.Proofs.YtoehaijmkmdggaaGreat
namespace Go.Proofs.YtoehaijmkmdggaaGreat
open Go.RowKit Go.Maps
set_option linter.unusedVariables false
set_option linter.unusedSimpArgs false
set_option maxRecDepth 100000
end Go.Proofs.YtoehaijmkmdggaaGreat
namespace Go.Proofs.YtoehaijmkmdggaaGreat
open Go.RowKit Go.Maps
set_option linter.unusedVariables false
set_option linter.unusedSimpArgs false
set_option maxRecDepth 100000
end Go.Proofs.YtoehaijmkmdggaaGreat
namespace Go.Proofs.YtoehaijmkmdggaaGreat
open Go.RowKit Go.Maps
set_option linter.unusedVariables false
set_option linter.unusedSimpArgs false
set_option maxRecDepth 100000
theorem RRep.blk {w : World} {p sz : Nat} {S : List Nat} {H : Em.Hp} (h : RRep w p S sz H) (n : Int) : (Em.blk H n).2.length ≤ 20000 ∧ (∀ f ∈ (Em.blk H n).2, (Lit.int .i64 f).wf = true) ∧ (Lit.int .i64 (Em.blk H n).1).wf = true := by
  obtain ⟨a, t, f, fv, rfl, h, r, hs1, hs2⟩ := h
  rcases blk_mem H n with e | e
  · rw [e]
    exact ⟨by simp, by simp, by decide⟩
  · have := used_ge e
    exact ⟨by omega, (r _ e).2, (r _ e).1⟩
end Go.Proofs.YtoehaijmkmdggaaGreat
namespace Go.Proofs.YtoehaijmkmdggaaGreat
open Go.RowKit Go.Maps
set_option linter.unusedVariables false
set_option linter.unusedSimpArgs false
set_option maxRecDepth 100000
end Go.Proofs.YtoehaijmkmdggaaGreat
namespace Go.Proofs.YtoehaijmkmdggaaGreat
open Go.RowKit Go.Maps
set_option linter.unusedVariables false
set_option linter.unusedSimpArgs false
set_option maxRecDepth 100000
namespace Em
end Em
theorem RRep.smallR {w : World} {p sz : Nat} {S : List Nat} {H : Em.Hp} (h : RRep w p S sz H) : Em.used H ≤ sz ∧ sz ≤ 20000 := by
  obtain ⟨a, t, f, fv, rfl, h, r, h1, h2⟩ := h
  exact ⟨h1, h2⟩
end Go.Proofs.YtoehaijmkmdggaaGreat
