/- Walks: the reader of the reference: a value, to whatever depth. -/
import Derived.Test.YtoehaijmkmdggaaGreatGRdG
import Derived.Test.YtoehaijmkmdggaaGreatGRvU
import Derived.Test.YtoehaijmkmdggaaGreatGRvW
import Derived.Test.YtoehaijmkmdggaaGreatGRvWL
import Derived.Test.YtoehaijmkmdggaaGreatGRvWS
set_option linter.unusedSimpArgs false
set_option linter.unusedVariables false
namespace Go.Proofs.YtoehaijmkmdggaaGreat
open Go.RowKit
open Em (Ty)
set_option linter.unusedVariables false
set_option linter.unusedSimpArgs false
set_option maxRecDepth 100000
theorem numP_bl {s s1 : Em.Rd} {v : Nat} (h : Em.numP s = .ok v s1) : s1.bl = s.bl ∧ s1.ty = s.ty := by
  unfold Em.numP at h
  split at h
  · cases h
  · injection h with _ h
    subst h
    exact ⟨rfl, rfl⟩
theorem rvNode_step {B f : Nat} {w0 : World} {p : Nat} (ih : NodeX B w0 p f) : NodeX B w0 p (f + 1) := by
  intro Z w bv lv tv its tys s t d cs h ht hok hf
  by_cases hp : Em.isPl t.op
  · rw [show Em.valP (f + 1) t s = Em.immP t.op s by rw [Em.valP, if_pos hp]]
    exact rvNode_plain t d cs h ht hok hp
  have hbl : s.bl.length = its.length := by rw [h.bl]; simp
  have hlim := h.lim
  cases hnum : Em.numP s with
  | err c =>
    have hc := Em.numP_err hnum
    subst hc
    rw [show Em.valP (f + 1) t s = .err 2 by rw [Em.valP, if_neg hp, hnum]]
    by_cases hop : t.op = Em.wList
    · exact rvNode_errL t d cs h ht hok hp hop hnum
    · exact rvNode_errN t d cs h ht hok hp hop hnum
  | ok v s1 =>
    have hb1 := (numP_bl hnum).1
    have h0 : Em.valP (f + 1) t s = if t.op = Em.wList then (if v = 0 then .ok (true, 0) s1 else if v - 1 = 0 then Em.blkP (Em.valP f) t s1 else Em.refV t (v - 1) s1) else if v = 0 then Em.blkP (Em.valP f) t s1 else Em.refV t v s1 := by rw [Em.valP, if_neg hp, hnum]
    have hfull : its.length = 2000 → Em.blkP (Em.valP f) t s1 = .err 7 := fun e => if_pos (by rw [hb1, hbl, e])
    by_cases hop : t.op = Em.wList
    · rw [if_pos hop] at h0
      match v, hnum, h0 with
      | 0, hnum, h0 =>
        rw [if_pos rfl] at h0
        rw [h0]
        exact rvNode_nil t d cs h ht hok hp hop hnum
      | 1, hnum, h0 =>
        rw [if_neg (by decide), if_pos (by decide)] at h0
        rw [h0]
        by_cases hx : its.length = 2000
        · rw [hfull hx]
          exact rvNode_fullL t d cs h ht hok hp hop hnum hx
        · exact rvNode_kidsL t d cs h ht hok hp hop hnum (by omega) (by omega) ih
      | i + 2, hnum, h0 =>
        rw [if_neg (by omega), if_neg (by omega), show i + 2 - 1 = i + 1 from rfl] at h0
        rw [h0]
        exact rvNode_refL t d cs h ht hok hp hop i hnum
    · rw [if_neg hop] at h0
      match v, hnum, h0 with
      | 0, hnum, h0 =>
        rw [if_pos rfl] at h0
        rw [h0]
        by_cases hx : its.length = 2000
        · rw [hfull hx]
          exact rvNode_fullN t d cs h ht hok hp hop hnum hx
        · by_cases hst : t.op = Em.wString
          · exact rvNode_str t d cs h ht hok hp hst hnum (by omega) (by omega)
          · exact rvNode_kidsM t d cs h ht hok hp ⟨hop, hst⟩ hnum (by omega) (by omega) ih
      | i + 1, hnum, h0 =>
        rw [if_neg (by omega)] at h0
        rw [h0]
        exact rvNode_refN t d cs h ht hok hp hop i hnum
theorem rvNode (B : Nat) (w0 : World) (p : Nat) : ∀ f, NodeX B w0 p f
  | 0 => fun Z w bv lv tv its tys s t d cs h ht hok hf => absurd hf (Nat.not_lt_zero _)
  | f + 1 => rvNode_step (rvNode B w0 p f)
end Go.Proofs.YtoehaijmkmdggaaGreat
