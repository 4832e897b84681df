/- Walks: pick.Bytes. -/
import Derived.Test.YtoehaijmkmdggaaUPkB
set_option linter.unusedSimpArgs false
set_option linter.unusedVariables false
namespace Go.Proofs.Ytoehaijmkmdggaa
open Go.RowKit Go.Maps
open Em (Ty)
set_option linter.unusedVariables false
set_option linter.unusedSimpArgs false
set_option maxRecDepth 100000
/-- Bytes and an error were answered. -/
def ByR (w : World) (o : List UInt8 × Int) (e : Ending) (w' : World) : Prop := ∃ A c, e = .returned (.tuple #[.slice A o.1.length c, .int .i64 o.2]) ∧ Bs w' (.slice A o.1.length c) o.1 ∧ Keep w w'
theorem ByR.none {w w' : World} {o : List UInt8 × Int} {c : Int} (h : o = ([], c)) (k : Keep w w') : ByR w o (.returned (.tuple #[.slice none 0 0, .int .i64 c])) w' := by
  subst h
  exact ⟨Option.none, 0, rfl, (Ob.nil w' 0 5).bs, k⟩
end Go.Proofs.Ytoehaijmkmdggaa
