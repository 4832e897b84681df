/- The table of tens: from the row's condition to the walk's; a world in which the laid variables hold what they should. -/
import Derived.Test.YtoippbbodhchkaaDoorTyItoa
import Derived.Test.YtoippbbodhchkaaDoorRowLib2
import Derived.Test.YtoippbbodhchkaaDoorTie
import Derived.Test.YtoippbbodhchkaaDoorCards
import Derived.Lib.LaidTab
import Derived.Lib.LaidU8
import Derived.ChangeSame
import Derived.ChangeVars
import Derived.JoinedOf
import Derived.RowKit
import Derived.LaidLaws
import Derived.LaidHandle
import Derived.SevenTiedAt
namespace Go.Proofs.YtoippbbodhchkaaDoor
open Go.ChangeShapes Go.WideShapes Go.ChangeAt Go.RowKit
set_option linter.unusedVariables false
set_option maxRecDepth 100000
abbrev laidL : List (String × DataW Unit) := [("math/bits.deBruijn32tab", Rows.laid_math_bits_deBruijn32tab), ("math/bits.deBruijn64tab", Rows.laid_math_bits_deBruijn64tab), ("internal/strconv.uint64pow10", Rows.laid_internal_strconv_uint64pow10)]
theorem tens_of_laid {W : World} (h : laidMetH Tryd.prog laidL W) : Tens W := by
  have h' : laidMet Tryd.prog laidL W := h
  obtain ⟨g, t, cs, fuel, p, hg, ht, hv, hd⟩ := Lib.laidMet.reads h' (n := "internal/strconv.uint64pow10") (d := Rows.laid_internal_strconv_uint64pow10) (.tail _ (.tail _ (.head _)))
  obtain rfl := Option.some.inj ((show Tryd.prog.globalNamed "internal/strconv.uint64pow10" = some 0 by kernel_rfl).symm.trans hg)
  obtain rfl := Option.some.inj ((show (Tryd.prog.globals[0]?).map (·.type) = some 104 by kernel_rfl).symm.trans ht)
  rw [show (Rows.laid_internal_strconv_uint64pow10 : DataW Unit) = Lib.tabData .u64 Lib.pow10Tab from by kernel_rfl] at hd
  unfold Tens Lib.TabIs
  rw [hv, ← Lib.cells_of_tab Tryd.underlying104 Tryd.underlying96 (by kernel_rfl) (by kernel_rfl) hd]
/-- A datum's numbers, cell by cell. -/
def cellsD : DataW Unit → Array Value
  | .agg l => (l.map fun d => match d with | .lit (.int k z) => Value.int k z | _ => undef).toArray
  | _ => #[]
def setG (h : Array Obj) (g : Nat) (cs : Array Value) : Array Obj := h.modify g fun o => match o with | .cells _ t f => .cells cs t f | o => o
noncomputable def laidW (os : Os) : World :=
  { World.holding Tryd.prog os ⟨#[], #[], []⟩ with heap := setG (setG (setG (World.holding Tryd.prog os ⟨#[], #[], []⟩).heap 0 (cellsD Rows.laid_internal_strconv_uint64pow10)) 2 (cellsD Rows.laid_math_bits_deBruijn32tab)) 3 (cellsD Rows.laid_math_bits_deBruijn64tab) }
theorem laidW_met (os : Os) (args : Array Value) : laidMetH Tryd.prog laidL ((laidW os).forCall (fun _ _ => 0) ⟨#[], args, []⟩).memory := by
  have h : laidMet Tryd.prog laidL ((laidW os).forCall (fun _ _ => 0) ⟨#[], args, []⟩).memory := laidMet_of_run' 8 (by kernel_rfl) (by kernel_rfl)
  exact h
end Go.Proofs.YtoippbbodhchkaaDoor
