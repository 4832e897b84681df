/- Walk: a word as a value of the graph (the reference's teller). -/
import Derived.Test.YtoehaijmkmdggaaDrawT
namespace Go.Proofs.Ytoehaijmkmdggaa
open Go.RowKit Go.Maps
set_option linter.unusedVariables false
set_option linter.unusedSimpArgs false
set_option maxRecDepth 100000
theorem refFields0 {w0 : World} {p sz : Nat} {S : List Nat} {H : Em.Hp} (h : RRep w0 p S sz H) (n : Int) (hn : (Lit.int .i64 n).wf = true) : ∃ v, Is w0 v (Em.blk H n).2 ∧ ∀ w, Keep w0 w → Calls Try.prog 86 #[.pointer (some ⟨p, 0, none⟩), .int .i64 n] w fun e w' => e = .returned v ∧ w = w' := by
  obtain ⟨a, t, f, fv, rfl, h, r⟩ := h
  exact ⟨fldV fv H n, (Cs.of_own (fldV_own h n)).1, fun w k => refFieldsV w (h.frm (k.frm fun _ => False) fun _ _ h => h) r n hn⟩
end Go.Proofs.Ytoehaijmkmdggaa
