/- A picker in memory: bytes, the blocks that came. -/
import Derived.Test.YtoehaijmkmdggaaUPkP
import Derived.Test.YtoehaijmkmdggaaURdR
set_option linter.unusedSimpArgs false
set_option linter.unusedVariables false
namespace Go.Proofs.Ytoehaijmkmdggaa
open Go.RowKit Go.Maps
open Em (Ty)
set_option linter.unusedVariables false
set_option maxRecDepth 100000
section
variable {P : Program}
end
section
variable {tt B : Nat} {Z Z1 Z' : Nat → Prop} {w0 w w1 w' : World} {p mb : Nat} {hv ov ov1 ov' : Value} {tys : List (Ty × List Value)} {s : Em.Pk}
/-- Bytes were appended; the picker does not know yet. -/
def BGrow (w : World) (B : Nat) (ov : Value) (l : List UInt8) (W : World) (v : Value) : Prop := ∃ Wb, Keep w Wb ∧ Wb.grownBy W ov.ownBlock ∧ (v.ownBlock = ov.ownBlock ∨ v.ownBlock = some Wb.heap.size) ∧ Ob W B 5 v l
theorem BGrow.keep {l : List UInt8} {W W' : World} {v : Value} (h : BGrow w B ov l W v) (k : Keep W W') : BGrow w B ov l W' v := by
  obtain ⟨Wb, h1, h2, h3, h4⟩ := h
  exact ⟨Wb, h1, grown_keep h2 k, h3, h4.keep k⟩
end
end Go.Proofs.Ytoehaijmkmdggaa
