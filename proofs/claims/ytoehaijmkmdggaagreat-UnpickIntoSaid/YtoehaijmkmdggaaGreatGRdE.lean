/- Plain: which errors a reading has. -/
import Derived.Test.YtoehaijmkmdggaaGreatGRdP
set_option linter.unusedSimpArgs false
set_option linter.unusedVariables false
namespace Go.Proofs.YtoehaijmkmdggaaGreat
open Em (Ty)
set_option linter.unusedVariables false
namespace Em
theorem numP_err {s : Rd} {c : Int} (h : numP s = .err c) : c = 2 := by
  unfold numP at h
  split at h
  · injection h with h; exact h.symm
  · cases h
theorem immP_err {o : List UInt8} {s : Rd} {c : Int} (h : immP o s = .err c) : c = 2 := by
  unfold immP at h
  split at h
  · cases h
  · split at h
    · next e => injection h with h; exact h ▸ numP_err e
    · split at h
      · injection h with h; exact h.symm
      · cases h
theorem strP_err {s : Rd} {c : Int} (h : strP s = .err c) : c = 2 := by
  unfold strP at h
  split at h
  · next e => injection h with h; exact h ▸ numP_err e
  · split at h
    · injection h with h; exact h.symm
    · cases h
theorem refV_err {t : Ty} {v : Nat} {s : Rd} {c : Int} (h : refV t v s = .err c) : c = 2 := by
  unfold refV at h
  split at h
  · injection h with h; exact h.symm
  · split at h
    · cases h
    · injection h with h; exact h.symm
theorem kidsA_err {r : Ty → Rd → Out (Bool × Int)} {P : Int → Prop} (hr : ∀ t s c, r t s = .err c → P c) : ∀ (ts : List Ty) (xs : List (Bool × Int)) (s : Rd) (c : Int), kidsA r xs ts s = .err c → P c
  | [], xs, s, c, h => by cases h
  | t :: ts, xs, s, c, h => by
    unfold kidsA at h
    split at h
    · next e => injection h with h; exact h ▸ hr _ _ _ e
    · exact kidsA_err hr ts _ _ c h
theorem valP_err : ∀ (f : Nat) (t : Ty) (s : Rd) (c : Int), valP f t s = .err c → c = 2 ∨ c = 7
  | 0, t, s, c, h => by injection h with h; exact .inl h.symm
  | f + 1, t, s, c, h => by
    have hb : ∀ s c, blkP (valP f) t s = .err c → c = 2 ∨ c = 7 := fun s c h => by
      unfold blkP at h
      split at h
      · injection h with h; exact .inr h.symm
      · split at h
        · split at h
          · next e => injection h with h; exact .inl (h ▸ strP_err e)
          · cases h
        · split at h
          · next e => injection h with h; exact h ▸ kidsA_err (valP_err f) _ _ _ _ e
          · cases h
    unfold valP at h
    split at h
    · exact .inl (immP_err h)
    · split at h
      · next e => injection h with h; exact .inl (h ▸ numP_err e)
      · split at h
        · split at h
          · cases h
          · split at h
            · exact hb _ _ h
            · exact .inl (refV_err h)
        · split at h
          · exact hb _ _ h
          · exact .inl (refV_err h)
end Em
end Go.Proofs.YtoehaijmkmdggaaGreat
