/- The law PickGraphs: walk. -/
import Derived.Test.YtoehaijmkmdggaaTRvG
import Derived.Test.YtoehaijmkmdggaaTBldR
import Derived.Test.YtoehaijmkmdggaaTPkK
import Derived.Test.YtoehaijmkmdggaaTPkL
set_option linter.unusedSimpArgs false
set_option linter.unusedVariables false
namespace Go.Proofs.Ytoehaijmkmdggaa
open Go.RowKit
open Em (Ty)
set_option linter.unusedVariables false
set_option linter.unusedSimpArgs false
set_option maxRecDepth 100000
/-- A graph's value, written out. -/
abbrev grV (g : Em.Gr) (A : Option Addr) (c : Nat) : Value := .agg #[.bool g.root.1, .int .i64 g.root.2, .slice A g.blocks.length c]
/-- A graph and an error were answered, written out. -/
theorem GrR.outV {w w' : World} {o : Em.Gr × Int} {e : Ending} (h : GrR w o e w') : ∃ A c, e = .returned (.tuple #[grV o.1 A c, .int .i64 o.2]) ∧ GrV w' (grV o.1 A c) o.1 ∧ Keep w w' := by
  obtain ⟨v, rfl, hg, k⟩ := h
  have hg1 := hg.1
  obtain ⟨u, rfl, _, hsl⟩ := id hg1
  obtain ⟨A, c, rfl, _⟩ := id hsl
  exact ⟨A, c, rfl, hg1, k⟩
end Go.Proofs.Ytoehaijmkmdggaa
