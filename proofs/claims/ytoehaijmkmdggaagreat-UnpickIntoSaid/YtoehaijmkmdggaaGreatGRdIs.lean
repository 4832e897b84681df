/- Plain: what was read is a graph that may be built. -/
import Derived.Test.YtoehaijmkmdggaaGreatGRdE
import Derived.Test.YtoehaijmkmdggaaGreatGBldP
set_option linter.unusedSimpArgs false
set_option linter.unusedVariables false
namespace Go.Proofs.YtoehaijmkmdggaaGreat
open Em (Ty)
set_option linter.unusedVariables false
namespace Em
/-- From one state of a reading to a later one. -/
def Grows (s s' : Rd) : Prop := s'.ty.length = s'.bl.length ∧ s.bl.length ≤ s'.bl.length ∧ ∀ j, j < s.bl.length → s'.bl[j]? = s.bl[j]?
theorem Grows.rf {s : Rd} (h : s.ty.length = s.bl.length) : Grows s s := ⟨h, Nat.le_refl _, fun _ _ => rfl⟩
theorem Grows.tr {a b c : Rd} (h : Grows a b) (h2 : Grows b c) : Grows a c := ⟨h2.1, Nat.le_trans h.2.1 h2.2.1, fun j hj => by rw [h2.2.2 j (Nat.lt_of_lt_of_le hj h.2.1), h.2.2 j hj]⟩
/-- A value's graph, checked. -/
def Checks (s s' : Rd) (c : (Nat → Bool × Int → Nat → Option Nat) → Nat → Nat → Option Nat) : Prop := ∀ bs F, (∀ j, s.bl.length ≤ j → j < s'.bl.length → bs[j]? = s'.bl[j]?) → s'.bl.length ≤ bs.length → bs.length - s.bl.length < F → c (chkP bs) F s.bl.length = some s'.bl.length
theorem numP_same {s s1 : Rd} {v : Nat} (h : numP s = .ok v s1) : s1.bl = s.bl ∧ s1.ty = s.ty := by
  unfold numP at h
  split at h
  · cases h
  · injection h with _ h
    subst h
    exact ⟨rfl, rfl⟩
theorem strP_same {s s1 : Rd} {v : List UInt8} (h : strP s = .ok v s1) : s1.bl = s.bl ∧ s1.ty = s.ty := by
  unfold strP at h
  split at h
  · cases h
  · next e =>
    split at h
    · cases h
    · injection h with _ h
      subst h
      have e9 := numP_same e
      exact ⟨e9.1, e9.2⟩
theorem imm_chk {n : Int} (h : fitsN n = true) {s s' : Rd} (hb : s'.bl = s.bl) : Checks s s' (fun c F n0 => c F (true, n) n0) := by
  intro bs F _ _ hF
  obtain ⟨F, rfl⟩ : ∃ G, F = G + 1 := ⟨F - 1, by omega⟩
  rw [hb]
  show chkP bs (F + 1) (true, n) s.bl.length = some s.bl.length
  rw [chkP]
  exact (if_pos rfl).trans (if_pos h)
theorem imm_fits {o : List UInt8} {n : Int} (h : ¬ immBad o n = true) : fitsN n = true := by
  unfold immBad at h
  simp only [Bool.or_eq_true, not_or, decide_eq_true_eq] at h
  obtain ⟨⟨_, h1⟩, h2⟩ := h
  unfold fitsN
  rw [decide_eq_true (by omega), decide_eq_true (by omega)]
  rfl
theorem immP_chk {o : List UInt8} {s s' : Rd} {x : Bool × Int} (hs : s.ty.length = s.bl.length) (h : immP o s = .ok x s') : Grows s s' ∧ Checks s s' (fun c F n0 => c F x n0) := by
  unfold immP at h
  split at h
  · injection h with h1 h2
    subst h1 h2
    exact ⟨Grows.rf hs, imm_chk (by decide) rfl⟩
  · split at h
    · cases h
    · next e =>
      obtain ⟨e1, e2⟩ := numP_same e
      split at h
      · cases h
      · next hb =>
        injection h with h1 h2
        subst h1 h2
        exact ⟨⟨by rw [e1, e2, hs], by rw [e1]; omega, fun j _ => by rw [e1]⟩, imm_chk (imm_fits hb) e1⟩
theorem refV_chk {t : Ty} {v : Nat} {s s1 s' : Rd} {x : Bool × Int} (hb : s1.bl = s.bl) (ht : s1.ty = s.ty) (hs : s.ty.length = s.bl.length) (h : refV t v s1 = .ok x s') : Grows s s' ∧ Checks s s' (fun c F n0 => c F x n0) := by
  unfold refV at h
  split at h
  · cases h
  · next t' e =>
    split at h
    · injection h with h1 h2
      subst h1 h2
      have hl := (List.getElem?_eq_some_iff.1 e).1
      rw [ht, hs] at hl
      refine ⟨⟨by rw [hb, ht, hs], by rw [hb]; omega, fun j _ => by rw [hb]⟩, fun bs F _ _ hF => ?_⟩
      obtain ⟨F, rfl⟩ : ∃ G, F = G + 1 := ⟨F - 1, by omega⟩
      rw [hb]
      show chkP bs (F + 1) (false, ((v - 1 : Nat) : Int)) s.bl.length = some s.bl.length
      rw [chkP, if_neg (show ¬ ((false, ((v - 1 : Nat) : Int)) : Bool × Int).1 = true from Bool.false_ne_true)]
      exact (if_pos (show ¬ ((v - 1 : Nat) : Int) = (s.bl.length : Int) by omega)).trans (if_pos ⟨by omega, by omega⟩)
    · cases h
theorem kidsA_chk {f : Nat} (hr : ∀ t s x s', okS t = true → s.ty.length = s.bl.length → valP f t s = .ok x s' → Grows s s' ∧ Checks s s' (fun c F n0 => c F x n0)) :
    ∀ (ts : List Ty) (xs : List (Bool × Int)) (s : Rd) (ks : List (Bool × Int)) (s' : Rd), (∀ t ∈ ts, okS t = true) → s.ty.length = s.bl.length → kidsA (valP f) xs ts s = .ok ks s' → ∃ ys, ks = xs ++ ys ∧ ys.length = ts.length ∧ Grows s s' ∧ Checks s s' (fun c F n0 => kidsC (c F) ys n0)
  | [], xs, s, ks, s', ho, hs, h => by
    injection h with h1 h2
    subst h1 h2
    exact ⟨[], by simp, rfl, Grows.rf hs, fun bs F _ _ _ => rfl⟩
  | t :: ts, xs, s, ks, s', ho, hs, h => by
    rw [kidsA] at h
    split at h
    · cases h
    · next x s1 e =>
      obtain ⟨g1, c1⟩ := hr t s x s1 (ho t List.mem_cons_self) hs e
      obtain ⟨ys, h1, h2, g2, c2⟩ := kidsA_chk hr ts (xs ++ [x]) s1 ks s' (fun t ht => ho t (List.mem_cons_of_mem _ ht)) g1.1 h
      refine ⟨x :: ys, by rw [h1]; simp, by simp [h2], g1.tr g2, fun bs F ha hl hF => ?_⟩
      have hg1 := g1.2.1
      have hg2 := g2.2.1
      have h9 : chkP bs F x s.bl.length = some s1.bl.length := c1 bs F (fun j h1 h2 => by rw [ha j h1 (by omega), g2.2.2 j h2]) (by omega) hF
      show kidsC (chkP bs F) (x :: ys) s.bl.length = some s'.bl.length
      rw [kidsC, h9]
      exact c2 bs F (fun j h1 h2 => ha j (by omega) h2) hl (by omega)
theorem kidsN_len {t : Ty} (h : okS t = true) (hp : ¬ isPl t.op) (hs : ¬ t.op = wString) : ((kidsT t).length : Int) = kidsN (tagT t.op) := by
  obtain ⟨o, n, ks⟩ := t
  have ho := okS_op h
  simp only [Ty.op, Ty.kids] at ho hp hs
  rcases ho with rfl | rfl | rfl | rfl | rfl | ⟨rfl, hl⟩ | ⟨rfl, hl⟩ | ⟨rfl, hl⟩
  · exact absurd (.inl rfl) hp
  · exact absurd (.inr (.inl rfl)) hp
  · exact absurd (.inr (.inr rfl)) hp
  · exact absurd rfl hs
  · rfl
  · rfl
  · rw [show kidsT (.mk wRef n ks) = ks from rfl, hl]; rfl
  · rw [show kidsT (.mk wPair n ks) = ks from rfl, hl]; rfl
theorem push_len (s : Rd) (t : Ty) : (s.push t).bl.length = s.bl.length + 1 ∧ (s.push t).ty.length = s.ty.length + 1 := by simp [Rd.push]
theorem push_old (s : Rd) (t : Ty) (j : Nat) (h : j < s.bl.length) : (s.push t).bl[j]? = s.bl[j]? := by
  simp only [Rd.push]
  rw [List.getElem?_append_left h]
theorem push_new (s : Rd) (t : Ty) : (s.push t).bl[s.bl.length]? = some ⟨tagT t.op, [], []⟩ := by
  simp only [Rd.push]
  rw [List.getElem?_append_right (Nat.le_refl _), Nat.sub_self]
  rfl
theorem blkP_chk {f : Nat} (hr : ∀ t s x s', okS t = true → s.ty.length = s.bl.length → valP f t s = .ok x s' → Grows s s' ∧ Checks s s' (fun c F n0 => c F x n0)) {t : Ty} {s s' : Rd} {x : Bool × Int} (ho : okS t = true) (hp : ¬ isPl t.op) (hs : s.ty.length = s.bl.length) (h : blkP (valP f) t s = .ok x s') : Grows s s' ∧ Checks s s' (fun c F n0 => c F x n0) := by
  have hpl := push_len s t
  unfold blkP at h
  split at h
  · cases h
  split at h
  · next hst =>
    split at h
    · cases h
    · next y s2 e =>
      injection h with h1 h2
      subst h1 h2
      obtain ⟨e1, e2⟩ := strP_same e
      refine ⟨⟨?_, ?_, fun j hj => ?_⟩, fun bs F ha hl hF => ?_⟩
      · simp only [List.length_modify, e1, e2]; omega
      · simp only [List.length_modify, e1]; omega
      · show (s2.bl.modify s.bl.length _)[j]? = _
        rw [List.getElem?_modify_ne _ _ (by omega), e1]
        exact push_old s t j hj
      · obtain ⟨F, rfl⟩ : ∃ G, F = G + 1 := ⟨F - 1, by omega⟩
        simp only [List.length_modify, e1] at ha hl ⊢
        have hb := ha s.bl.length (Nat.le_refl _) (by omega)
        rw [List.getElem?_modify_eq, push_new] at hb
        have hb : bs[s.bl.length]? = some ((⟨tagT t.op, [], []⟩ : Blk).str! y) := hb
        have htg : tagT t.op = 1 := if_pos hst
        show chkP bs (F + 1) (false, (s.bl.length : Int)) s.bl.length = some (s.push t).bl.length
        rw [chkP, if_neg (show ¬ ((false, (s.bl.length : Int)) : Bool × Int).1 = true from Bool.false_ne_true)]
        refine (if_neg (fun h => h rfl)).trans ?_
        rw [hb]
        refine (if_pos (by simp [blkOk, Blk.str!, htg, kidsN])).trans ?_
        rw [hpl.1]
        rfl
  · next hst =>
    split at h
    · cases h
    · next ks s2 e =>
      injection h with h1 h2
      subst h1 h2
      obtain ⟨ys, h1, h2, g, c⟩ := kidsA_chk hr (kidsT t) [] (s.push t) ks s2 (okS_kidsT ho) (by omega) e
      rw [List.nil_append] at h1
      subst h1
      have hg := g.2.1
      refine ⟨⟨?_, ?_, fun j hj => ?_⟩, fun bs F ha hl hF => ?_⟩
      · simp only [List.length_modify]; exact g.1
      · simp only [List.length_modify]; omega
      · show (s2.bl.modify s.bl.length _)[j]? = _
        rw [List.getElem?_modify_ne _ _ (by omega), g.2.2 j (by omega)]
        exact push_old s t j hj
      · obtain ⟨F, rfl⟩ : ∃ G, F = G + 1 := ⟨F - 1, by omega⟩
        simp only [List.length_modify] at ha hl ⊢
        have hb := ha s.bl.length (Nat.le_refl _) (by omega)
        rw [List.getElem?_modify_eq, g.2.2 _ (by omega), push_new] at hb
        have hb : bs[s.bl.length]? = some ((⟨tagT t.op, [], []⟩ : Blk).kids! ks) := hb
        have hkn := kidsN_len ho hp hst
        show chkP bs (F + 1) (false, (s.bl.length : Int)) s.bl.length = some s2.bl.length
        rw [chkP, if_neg (show ¬ ((false, (s.bl.length : Int)) : Bool × Int).1 = true from Bool.false_ne_true)]
        refine (if_neg (fun h => h rfl)).trans ?_
        rw [hb]
        refine (if_pos (by simp [blkOk, Blk.kids!, h2, hkn])).trans ?_
        show kidsC (chkP bs F) ks (s.bl.length + 1) = some s2.bl.length
        have := c bs F (fun j h1 h2 => by rw [ha j (by omega) h2, List.getElem?_modify_ne _ _ (by omega)]) (by omega) (by omega)
        rwa [hpl.1] at this
theorem valP_chk : ∀ (f : Nat) (t : Ty) (s : Rd) (x : Bool × Int) (s' : Rd), okS t = true → s.ty.length = s.bl.length → valP f t s = .ok x s' → Grows s s' ∧ Checks s s' (fun c F n0 => c F x n0)
  | 0, t, s, x, s', ho, hs, h => by cases h
  | f + 1, t, s, x, s', ho, hs, h => by
    rw [valP] at h
    split at h
    · exact immP_chk hs h
    · next hp =>
      split at h
      · cases h
      · next v s1 e =>
        obtain ⟨e1, e2⟩ := numP_same e
        have hs1 : s1.ty.length = s1.bl.length := by rw [e1, e2, hs]
        have hb : blkP (valP f) t s1 = .ok x s' → Grows s s' ∧ Checks s s' (fun c F n0 => c F x n0) := fun h => by
          obtain ⟨g, c⟩ := blkP_chk (valP_chk f) ho hp hs1 h
          unfold Grows Checks at *
          rw [e1] at g c
          exact ⟨g, c⟩
        split at h
        · split at h
          · injection h with h1 h2
            subst h1 h2
            exact ⟨⟨hs1, by rw [e1]; omega, fun j _ => by rw [e1]⟩, imm_chk (by decide) e1⟩
          · split at h
            · exact hb h
            · exact refV_chk e1 e2 hs h
        · split at h
          · exact hb h
          · exact refV_chk e1 e2 hs h
end Em
end Go.Proofs.YtoehaijmkmdggaaGreat
