/- Plain: cells that go round. -/
import Derived.Test.YtilhglnfjaablaaDrawO
namespace Go.Proofs.Ytilhglnfjaablaa
set_option linter.unusedVariables false
theorem cells_blk (x y : Int) : Em.blk [(5, [x, 6]), (2, [0, 1]), (3, [6, y])] 12 = (3, [6, y]) ∧ Em.blk [(5, [x, 6]), (2, [0, 1]), (3, [6, y])] 6 = (2, [0, 1]) ∧ Em.blk [(5, [x, 6]), (2, [0, 1]), (3, [6, y])] 0 = (5, [x, 6]) :=
  ⟨rfl, rfl, rfl⟩
theorem cells_of (x y : Int) (hx : x % 2 = 1) (hy : y % 2 = 1) : Em.ofH [(5, [x, 6]), (2, [0, 1]), (3, [6, y])] 12 = (⟨(false, 0), [⟨3, [], [(false, 1), (true, y / 2)]⟩, ⟨2, [], [(false, 2), (true, 0)]⟩, ⟨5, [], [(true, x / 2), (false, 1)]⟩]⟩, 0) := by
  obtain ⟨b1, b2, b3⟩ := cells_blk x y
  unfold Em.ofH
  generalize hH : ([(5, [x, 6]), (2, [0, 1]), (3, [6, y])] : Em.Hp) = H at *
  have hf : (Em.univ H 12).length + 1 = 8 := by rw [← hH]; rfl
  rw [hf]
  have n0 : ¬ (12 : Int) % 2 = 1 := by decide
  have n1 : ¬ (6 : Int) % 2 = 1 := by decide
  have n2 : ¬ (0 : Int) % 2 = 1 := by decide
  simp [Em.ofD, Em.refP, Em.fillP, Em.kidsP, Em.pos, Em.Dw.come, b1, b2, b3, hx, hy, Em.Blk.kids!, List.modify]
end Go.Proofs.Ytilhglnfjaablaa
