/- Walks: the picker of the reference 22: words for a block that comes the first time. -/
import Derived.Test.YtoehaijmkmdggaaURkV
import Derived.Test.YtoehaijmkmdggaaURvX
import Derived.Deep.DeepCutAuto
import Derived.Deep.CutBlock
import Derived.Deep.Cut
set_option linter.unusedSimpArgs false
set_option linter.unusedVariables false
namespace Go.Proofs.Ytoehaijmkmdggaa
open Go.RowKit Go.Maps
open Em (Ty)
set_option linter.unusedVariables false
set_option linter.unusedSimpArgs false
set_option maxRecDepth 100000
theorem blkK_str {r : Int → Ty → Em.Pk → Em.PkO} {H : Em.Hp} {n : Int} {t : Ty} {first : Nat} {s s' : Em.Pk} (ho : t.op = Em.wString) (h : Em.blkK r H n t first s = .ok s') : (Em.blk H n).1 = 1 ∧ s.ws.length ≠ 2000 ∧ ∃ x, Em.textH H n = some x ∧ s' = ⟨s.b ++ Em.putN first ++ Em.putN x.length ++ x, s.ws ++ [n], s.ty ++ [t]⟩ := by
  unfold Em.blkK at h
  have ht : Em.tagT t.op = 1 := by rw [ho]; rfl
  rw [ht] at h
  by_cases h1 : (Em.blk H n).1 = 1
  · rw [if_neg (fun h => h h1), if_pos ho] at h
    cases hx : Em.textH H n with
    | none => rw [hx] at h; cases h
    | some x =>
      rw [hx] at h
      simp only at h
      by_cases h2 : s.ws.length = 2000
      · rw [if_pos h2] at h; cases h
      · rw [if_neg h2] at h
        injection h with h
        exact ⟨h1, h2, x, rfl, h.symm⟩
  · rw [if_pos h1] at h
    cases h
theorem blkK_kids {r : Int → Ty → Em.Pk → Em.PkO} {H : Em.Hp} {n : Int} {t : Ty} {first : Nat} {s s' : Em.Pk} (ho : ¬ t.op = Em.wString) (h : Em.blkK r H n t first s = .ok s') : (Em.blk H n).1 = Em.tagT t.op ∧ s.ws.length ≠ 2000 ∧ (Em.blk H n).2.length = (Em.kidsT t).length ∧ Em.kidsK r H n 0 (Em.kidsT t) (s.come n t first) = .ok s' := by
  unfold Em.blkK at h
  by_cases h1 : (Em.blk H n).1 = Em.tagT t.op
  · rw [if_neg (fun h => h h1), if_neg ho] at h
    by_cases h3 : (Em.blk H n).2.length = (Em.kidsT t).length
    · rw [if_neg (fun h => h h3)] at h
      by_cases h2 : s.ws.length = 2000
      · rw [if_pos h2] at h; cases h
      · rw [if_neg h2] at h
        exact ⟨h1, h2, h3, h⟩
    · rw [if_pos h3] at h
      cases h
  · rw [if_pos h1] at h
    cases h
theorem field_at {H : Em.Hp} {n : Int} {j : Nat} (h : j < (Em.blk H n).2.length) : (Em.field H n (j : Int)).getD 0 = (Em.blk H n).2[j] := by
  unfold Em.field
  rw [if_neg (by omega), Int.toNat_natCast, List.getElem?_eq_getElem h]
  rfl
theorem smallH_ofR {w : World} {p sz : Nat} {S : List Nat} {H : Em.Hp} (h : RRep w p S sz H) : Em.SmallH H := fun k => ⟨by have := (h.blk k).1; omega, fun x hx => in_i64 ((h.blk k).2.1 x hx)⟩
end Go.Proofs.Ytoehaijmkmdggaa
