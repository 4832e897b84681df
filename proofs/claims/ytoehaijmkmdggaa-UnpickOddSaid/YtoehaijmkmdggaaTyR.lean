/- What a type is in memory. -/
import Derived.Test.YtoehaijmkmdggaaProg
import Derived.Test.YtoehaijmkmdggaaLib
import Derived.Test.YtoehaijmkmdggaaReg
import Derived.Test.YtoehaijmkmdggaaOpen
import Derived.Test.YtoehaijmkmdggaaLibR
import Derived.Test.YtoehaijmkmdggaaTyPure
namespace Go.Proofs.Ytoehaijmkmdggaa
open Go.RowKit
open Em (Ty)
set_option linter.unusedVariables false
/-- A type's cells, so deep at most. -/
def TyK : Nat → World → List Value → Ty → Prop
  | 0, _, _, _ => False
  | d + 1, w, cs, t => ∃ v, cs = [.string (str t.op), .int .i64 t.n, v] ∧ (Lit.int .i64 t.n).wf = true ∧ Sl 3 (TyK d) w v t.kids
theorem TyK.keep : ∀ {d : Nat} {w w' : World} {cs : List Value} {t : Ty}, TyK d w cs t → Keep w w' → TyK d w' cs t
  | 0, _, _, _, _, h, _ => h
  | d + 1, w, w', cs, t, ⟨v, h1, h2, h3⟩, k => ⟨v, h1, h2, h3.keep k fun cs x h => TyK.keep h k⟩
theorem TyK.succ : ∀ {d : Nat} {w : World} {cs : List Value} {t : Ty}, TyK d w cs t → TyK (d + 1) w cs t
  | 0, _, _, _, h => h.elim
  | d + 1, w, cs, t, ⟨v, h1, h2, h3⟩ => ⟨v, h1, h2, h3.mono fun cs x h => TyK.succ h⟩
theorem TyK.le {d e : Nat} {w : World} {cs : List Value} {t : Ty} (h : TyK d w cs t) (hle : d ≤ e) : TyK e w cs t := by
  induction hle with
  | refl => exact h
  | step _ ih => exact ih.succ
/-- A value that is a type. -/
def TyV (w : World) (v : Value) (t : Ty) : Prop := ∃ d cs, v = .agg cs.toArray ∧ TyK d w cs t
theorem TyV.keep {w w' : World} {v : Value} {t : Ty} (h : TyV w v t) (k : Keep w w') : TyV w' v t := by
  obtain ⟨d, cs, h1, h2⟩ := h
  exact ⟨d, cs, h1, h2.keep k⟩
/-- A row of types. -/
def TysV (w : World) (v : Value) (ts : List Ty) : Prop := ∃ d, Sl 3 (TyK d) w v ts
theorem TysV.keep {w w' : World} {v : Value} {ts : List Ty} (h : TysV w v ts) (k : Keep w w') : TysV w' v ts := by
  obtain ⟨d, h⟩ := h
  exact ⟨d, h.keep k fun cs x h => h.keep k⟩
end Go.Proofs.Ytoehaijmkmdggaa
