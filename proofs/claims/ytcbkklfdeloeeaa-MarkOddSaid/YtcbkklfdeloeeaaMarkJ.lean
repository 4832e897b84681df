/- Plain: two types have the same bytes just if normed they are one. -/
import Derived.Test.YtcbkklfdeloeeaaMarkB
namespace Go.Proofs.Ytcbkklfdeloeeaa
open Go.RowKit
open Em (Ty)
set_option linter.unusedVariables false
mutual
/-- A type xs Norm leaves it. -/
def okN : Ty → Prop
  | .mk o n ks => 1 ≤ Em.opI o ∧ (ks.length : Int) = Em.kidsOf o ∧ (-1 ≤ n ∧ n ≤ 9223372036854775807) ∧ (o ≠ Em.wVar → n = 0) ∧ okNL ks
def okNL : List Ty → Prop
  | [] => True
  | k :: ks => okN k ∧ okNL ks
end
theorem renL_len (L : List Int) (ks : List Ty) : (Em.renL L ks).length = ks.length := by rw [renL_map, List.length_map]
mutual
theorem ok_okN (L : List Int) (hL : L.length ≤ 1000000) (t : Ty) (h : Em.okT t = true) : okN (Em.renT L t) := by
  cases t with
  | mk o n ks =>
    rw [Em.okT, Bool.and_eq_true] at h
    have h1 := h.1
    simp only [Bool.not_eq_true', Bool.or_eq_false_iff, Bool.and_eq_false_iff, decide_eq_false_iff_not, Classical.not_not, ne_eq] at h1
    rw [Em.renT]
    split
    · have := place_bound L n
      exact ⟨by decide, by decide, ⟨by omega, by omega⟩, fun hne => absurd rfl hne, trivial⟩
    · rename_i hv
      have hn : n = 0 := by
        rcases h1.2 with h2 | h2
        · exact absurd h2 hv
        · exact h2
      refine ⟨kids_op o (by omega), by rw [renL_len]; exact h1.1.1, ⟨by omega, by omega⟩, fun _ => hn, ok_okNL L hL ks h.2⟩
theorem ok_okNL (L : List Int) (hL : L.length ≤ 1000000) (ks : List Ty) (h : Em.okL ks = true) : okNL (Em.renL L ks) := by
  cases ks with
  | nil => trivial
  | cons k ks =>
    rw [Em.okL, Bool.and_eq_true] at h
    rw [Em.renL]
    exact ⟨ok_okN L hL k h.1, ok_okNL L hL ks h.2⟩
end
theorem opI_inj {o o' : List UInt8} (h : 1 ≤ Em.opI o) (e : Em.opI o = Em.opI o') : o = o' := by
  obtain ⟨i, hi, h1, h2⟩ := opI_hit o h
  obtain ⟨j, hj, g1, g2⟩ := opI_hit o' (by omega)
  have : i = j := by omega
  subst this
  rw [← h2, ← g2]
theorem opI_lt {o : List UInt8} (h : 1 ≤ Em.opI o) : Em.opI o < 11 := by
  obtain ⟨i, hi, h1, h2⟩ := opI_hit o h
  omega
theorem put_cut {v v' : Nat} {r s : List UInt8} (h : v < 18446744073709551616) (h' : v' < 18446744073709551616) (e : Em.putN v ++ r = Em.putN v' ++ s) : v = v' ∧ r = s := by
  have h1 := Em.get_put h r
  rw [e, Em.get_put h' s] at h1
  injection h1 with h1
  injection h1 with h1 h2
  subst h1
  exact ⟨rfl, List.append_cancel_left e⟩
mutual
theorem mput_cut (a b : Ty) (r s : List UInt8) (ha : okN a) (hb : okN b) (e : Em.mput a ++ r = Em.mput b ++ s) : a = b ∧ r = s := by
  cases a with
  | mk o n ks =>
    cases b with
    | mk o' n' ks' =>
      rw [okN] at ha hb
      obtain ⟨a1, a2, a3, a4, a5⟩ := ha
      obtain ⟨b1, b2, b3, b4, b5⟩ := hb
      rw [Em.mput, Em.mput, List.cons_append, List.cons_append, List.cons.injEq] at e
      obtain ⟨e1, e2⟩ := e
      have l1 := opI_lt a1
      have l2 := opI_lt b1
      have he := congrArg UInt8.toNat e1
      rw [UInt8.toNat_ofNat', UInt8.toNat_ofNat'] at he
      have ho : o = o' := opI_inj a1 (by omega)
      subst ho
      have hl : ks.length = ks'.length := by omega
      by_cases hv : o = Em.wVar
      · rw [if_pos hv, if_pos hv, List.append_assoc, List.append_assoc] at e2
        obtain ⟨e3, e4⟩ := put_cut (by omega) (by omega) e2
        obtain ⟨e5, e6⟩ := mputL_cut ks ks' r s a5 b5 hl e4
        have hn : n = n' := by omega
        exact ⟨by rw [hn, e5], e6⟩
      · rw [if_neg hv, if_neg hv, List.nil_append, List.nil_append] at e2
        obtain ⟨e5, e6⟩ := mputL_cut ks ks' r s a5 b5 hl e2
        exact ⟨by rw [a4 hv, b4 hv, e5], e6⟩
theorem mputL_cut (xs ys : List Ty) (r s : List UInt8) (ha : okNL xs) (hb : okNL ys) (hl : xs.length = ys.length) (e : Em.mputL xs ++ r = Em.mputL ys ++ s) : xs = ys ∧ r = s := by
  cases xs with
  | nil =>
    cases ys with
    | nil => exact ⟨rfl, e⟩
    | cons b ys => simp at hl
  | cons a xs =>
    cases ys with
    | nil => simp at hl
    | cons b ys =>
      rw [okNL] at ha hb
      rw [Em.mputL, Em.mputL, List.append_assoc, List.append_assoc] at e
      obtain ⟨e1, e2⟩ := mput_cut a b _ _ ha.1 hb.1 e
      obtain ⟨e3, e4⟩ := mputL_cut xs ys r s ha.2 hb.2 (by simpa using hl) e2
      exact ⟨by rw [e1, e3], e4⟩
end
theorem bytes_same (a b : Ty) (ha : Em.isT a = true) (hb : Em.isT b = true) : decide (Em.bytesT a = Em.bytesT b) = Em.eqT (Em.normT a) (Em.normT b) := by
  have v1 := vars_nodes [] a
  have v2 := vars_nodes [] b
  have i1 := isT_nodes a ha
  have i2 := isT_nodes b hb
  simp only [List.length_nil, Nat.zero_add] at v1 v2
  rw [Bool.eq_iff_iff, decide_eq_true_eq, Em.eqT_iff, Em.bytesT, Em.bytesT, ha, hb, if_pos rfl, if_pos rfl]
  constructor
  · intro e
    exact (mput_cut _ _ [] [] (ok_okN _ (by omega) a (isT_ok ha)) (ok_okN _ (by omega) b (isT_ok hb)) (by rw [List.append_nil, List.append_nil]; exact e)).1
  · intro e
    rw [e]
end Go.Proofs.Ytcbkklfdeloeeaa
