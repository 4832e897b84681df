/- Plain: what bytes are, built, is those bytes again. -/
import Derived.Test.YtoehaijmkmdggaaGreatGRdP
import Derived.Test.YtoehaijmkmdggaaGreatGRdIs
import Derived.Test.YtoehaijmkmdggaaGreatGBldU
set_option linter.unusedSimpArgs false
set_option linter.unusedVariables false
namespace Go.Proofs.YtoehaijmkmdggaaGreat
set_option linter.unusedVariables false
namespace Em
theorem numP_put {s s1 : Rd} {v : Nat} (h : numP s = .ok v s1) : s.b = putN v ++ s1.b := by
  unfold numP at h
  split at h
  · cases h
  · next e =>
    injection h with h1 h2
    subst h1 h2
    exact get_append e
theorem strP_put {s s1 : Rd} {x : List UInt8} (h : strP s = .ok x s1) : s.b = putN x.length ++ x ++ s1.b := by
  unfold strP at h
  split at h
  · cases h
  · next n s2 e =>
    split at h
    · cases h
    · next hlt =>
      injection h with h1 h2
      subst h1 h2
      have e9 := numP_put e
      rw [e9, List.length_take, Nat.min_eq_left (by omega), List.append_assoc, List.take_append_drop]
theorem need_app (a b : List Blk) : needN (a ++ b) = needN a + needN b := by
  induction a with
  | nil => simp [needN]
  | cons x t ih => simp only [List.cons_append, needN, ih]; omega
theorem need_modify {bl : List Blk} {n : Nat} {b : Blk} (h : bl[n]? = some b) (g : Blk → Blk) : needN (bl.modify n g) + (b.str.length + b.kids.length) = needN bl + ((g b).str.length + (g b).kids.length) := by
  induction bl generalizing n with
  | nil => cases h
  | cons a t ih =>
    cases n with
    | zero =>
      cases h
      rw [List.modify_zero_cons]
      simp only [needN]
      omega
    | succ n =>
      rw [List.getElem?_cons_succ] at h
      have := ih h
      rw [List.modify_succ_cons]
      simp only [needN]
      omega
theorem kidsN_le (tag : Int) : kidsN tag ≤ 2 := by
  unfold kidsN
  split
  · omega
  · split
    · omega
    · split <;> omega
/-- What a reading's blocks need, at most. -/
def Rd.need (s : Rd) : Nat := needN s.bl + 3 * s.b.length
theorem kidsA_need {f : Nat} (hr : ∀ t s x s', okS t = true → s.ty.length = s.bl.length → valP f t s = .ok x s' → s'.need ≤ s.need) :
    ∀ (ts : List Ty) (xs : List (Bool × Int)) (s : Rd) (ks : List (Bool × Int)) (s' : Rd), (∀ t ∈ ts, okS t = true) → s.ty.length = s.bl.length → kidsA (valP f) xs ts s = .ok ks s' → s'.need ≤ s.need
  | [], xs, s, ks, s', ho, hs, h => by
    injection h with h1 h2
    subst h2
    exact Nat.le_refl _
  | t :: ts, xs, s, ks, s', ho, hs, h => by
    rw [kidsA] at h
    split at h
    · cases h
    · next x s1 e =>
      obtain ⟨g1, _⟩ := valP_chk f t s x s1 (ho t List.mem_cons_self) hs e
      exact Nat.le_trans (kidsA_need hr ts _ s1 ks s' (fun t ht => ho t (List.mem_cons_of_mem _ ht)) g1.1 h) (hr t s x s1 (ho t List.mem_cons_self) hs e)
theorem valP_need : ∀ (f : Nat) (t : Ty) (s : Rd) (x : Bool × Int) (s' : Rd), okS t = true → s.ty.length = s.bl.length → valP f t s = .ok x s' → s'.need ≤ s.need
  | 0, t, s, x, s', ho, hs, h => by cases h
  | f + 1, t, s, x, s', ho, hs, h => by
    rw [valP] at h
    split at h
    · unfold immP at h
      split at h
      · injection h with h1 h2
        subst h2
        exact Nat.le_refl _
      · split at h
        · cases h
        · next v s1 e =>
          obtain ⟨e1, e2⟩ := numP_same e
          have e3 := numP_put e
          split at h
          · cases h
          · injection h with h1 h2
            subst h2
            unfold Rd.need
            rw [e1, e3, List.length_append]
            omega
    · next hp =>
      split at h
      · cases h
      · next v s1 e =>
        obtain ⟨e1, e2⟩ := numP_same e
        have e3 := congrArg List.length (numP_put e)
        rw [List.length_append] at e3
        have e4 := putN_pos v
        have h1 : s1.need + 3 ≤ s.need := by unfold Rd.need; rw [e1]; omega
        have hs1 : s1.ty.length = s1.bl.length := by rw [e1, e2, hs]
        have hR : ∀ u, refV t u s1 = .ok x s' → s'.need ≤ s.need := fun u h => by
          unfold refV at h
          split at h
          · cases h
          · split at h
            · injection h with _ h
              subst h
              omega
            · cases h
        have hB : blkP (valP f) t s1 = .ok x s' → s'.need ≤ s.need := fun h => by
          have hpl := push_len s1 t
          have hpn : (s1.push t).need = s1.need + 1 := by
            unfold Rd.need Rd.push
            rw [need_app]
            simp only [needN, List.length_nil]
            omega
          unfold blkP at h
          split at h
          · cases h
          split at h
          · split at h
            · cases h
            · next y s2 e5 =>
              injection h with _ h
              subst h
              obtain ⟨e6, e7⟩ := strP_same e5
              have e8 := congrArg List.length (strP_put e5)
              rw [List.length_append, List.length_append] at e8
              have hm := need_modify (bl := s2.bl) (n := s1.bl.length) (by rw [e6]; exact push_new s1 t) (fun b => b.str! y)
              simp only [Blk.str!, List.length_nil] at hm
              unfold Rd.need at hpn h1 ⊢
              simp only [Blk.str!]
              rw [e6] at hm ⊢
              omega
          · next hst =>
            split at h
            · cases h
            · next ks s2 e5 =>
              injection h with _ h
              subst h
              obtain ⟨ys, g1, g2, g, _⟩ := kidsA_chk (valP_chk f) (kidsT t) [] (s1.push t) ks s2 (okS_kidsT ho) (by omega) e5
              rw [List.nil_append] at g1
              subst g1
              have e8 := kidsA_need (valP_need f) (kidsT t) [] (s1.push t) ks s2 (okS_kidsT ho) (by omega) e5
              have hm := need_modify (bl := s2.bl) (n := s1.bl.length) (by rw [g.2.2 _ (by omega)]; exact push_new s1 t) (fun b => b.kids! ks)
              have hk := kidsN_len ho hp hst
              have hk2 := kidsN_le (tagT t.op)
              simp only [Blk.kids!, List.length_nil] at hm
              unfold Rd.need at hpn h1 e8 ⊢
              simp only [Blk.kids!]
              omega
        split at h
        · split at h
          · injection h with _ h
            subst h
            omega
          · split at h
            · exact hB h
            · exact hR _ h
        · split at h
          · exact hB h
          · exact hR _ h
theorem graphP_need {b : List UInt8} {t : Ty} {g : Gr} (h : graphP b t = (g, 0)) : needN g.blocks ≤ 3 * b.length := by
  unfold graphP at h
  split at h
  · next ho =>
    split at h
    · cases h
    · split at h
      · next c e =>
        injection h with h1 h2
        rcases valP_err _ _ _ _ e with rfl | rfl <;> cases h2
      · next x s e =>
        split at h
        · next hnil =>
          injection h with h1 h2
          subst h1
          have hok : okS t = true := by
            unfold okS
            rw [Bool.and_eq_true] at ho ⊢
            refine ⟨?_, ho.2⟩
            have := ho.1
            unfold isT at this
            exact (Bool.and_eq_true _ _ ▸ this).2
          have := valP_need 2001 t ⟨b, [], []⟩ x s hok rfl e
          unfold Rd.need at this
          simp only [needN] at this
          simp only
          omega
        · cases h
  · cases h
end Em
end Go.Proofs.YtoehaijmkmdggaaGreat
