/- Plain: normed twice a type is as once; its vars are 0, 1, .. Printed by gen_tynrm.py. -/
import Derived.Test.YtoippbbodhchkaaDoorTyTel
namespace Go.Proofs.YtoippbbodhchkaaDoor
open Go.RowKit
open Em (Ty)
set_option linter.unusedVariables false
set_option maxRecDepth 100000
theorem renL_len (L : List Int) (ks : List Ty) : (Em.renL L ks).length = ks.length := by rw [renL_map, List.length_map]
mutual
theorem ren_nodes (L : List Int) (t : Ty) : nodes (Em.renT L t) ≤ nodes t := by
  cases t with
  | mk o n ks =>
    rw [Em.renT]
    split
    · rw [nodes, nodes, nodesL]; omega
    · rw [nodes, nodes]
      have := renL_nodes L ks
      omega
theorem renL_nodes (L : List Int) (ks : List Ty) : nodesL (Em.renL L ks) ≤ nodesL ks := by
  cases ks with
  | nil => exact Nat.le_refl _
  | cons k ks =>
    rw [Em.renL, nodesL, nodesL]
    have := ren_nodes L k
    have := renL_nodes L ks
    omega
end
/-- 0, 1, .. -/
def iota (n : Nat) : List Int := (List.range n).map Int.ofNat
theorem iota_len (n : Nat) : (iota n).length = n := by simp [iota]
theorem iota_mem (n : Nat) (x : Int) : x ∈ iota n ↔ 0 ≤ x ∧ x < n := by
  unfold iota
  rw [List.mem_map]
  constructor
  · rintro ⟨i, hi, rfl⟩
    rw [List.mem_range] at hi
    exact ⟨Int.natCast_nonneg i, by show (i : Int) < n; omega⟩
  · intro h
    exact ⟨x.toNat, by rw [List.mem_range]; omega, Int.toNat_of_nonneg h.1⟩
theorem iota_succ (n : Nat) : iota (n + 1) = iota n ++ [(n : Int)] := by simp [iota, List.range_succ]
theorem place_iota (n i : Nat) (h : i < n) : Em.place (iota n) i = i := by
  refine place_at (by rw [iota_len]; exact h) (fun x hx e => ?_) (by simp [iota])
  rw [List.mem_take_iff_getElem] at hx
  obtain ⟨j, hj, hx⟩ := hx
  simp only [iota, List.getElem_map, List.getElem_range] at hx
  have hx : (j : Int) = x := hx
  omega
theorem place_in {l : List Int} {n : Int} (h : n ∈ l) : 0 ≤ Em.place l n ∧ Em.place l n < l.length := by
  have h1 := place_mem l n
  rw [decide_eq_true h, decide_eq_true_eq] at h1
  have h2 := place_bound l n
  omega
theorem place_pre {acc L : List Int} {n : Int} (hp : acc <+: L) (h : n ∈ acc) : Em.place L n < acc.length := by
  obtain ⟨i, hi, e⟩ := List.getElem_of_mem h
  obtain ⟨s, rfl⟩ := hp
  unfold Em.place
  have hx : (acc ++ s).idxOf? n = some (acc.idxOf n) := by
    rw [List.idxOf?_eq_some_iff]
    refine ⟨by have := List.idxOf_lt_length_of_mem h; simp; omega, ?_, fun j hj => ?_⟩
    · rw [List.getElem_append_left (List.idxOf_lt_length_of_mem h)]
      exact List.getElem_idxOf _
    · have hj2 : j < acc.length := Nat.lt_trans hj (List.idxOf_lt_length_of_mem h)
      rw [List.getElem_append_left hj2]
      intro e
      have h2 := List.not_of_lt_findIdx (p := (· == n)) (xs := acc) hj
      simp only [beq_eq_false_iff_ne] at h2
      exact h2 e
  rw [hx]
  have := List.idxOf_lt_length_of_mem h
  simp only
  omega
theorem place_next {acc L : List Int} {n : Int} (hp : acc ++ [n] <+: L) (h : n ∉ acc) : Em.place L n = acc.length := by
  obtain ⟨s, rfl⟩ := hp
  refine place_at (by simp) (fun x hx e => ?_) (by simp)
  rw [List.append_assoc, List.take_left] at hx
  exact h (e ▸ hx)
mutual
theorem vars_pre (l : List Int) (t : Ty) : l <+: Em.varsT l t := by
  cases t with
  | mk o n ks =>
    rw [Em.varsT]
    refine List.IsPrefix.trans ?_ (varsL_pre _ ks)
    split
    · exact List.prefix_append _ _
    · exact List.prefix_refl _
theorem varsL_pre (l : List Int) (ks : List Ty) : l <+: Em.varsL l ks := by
  cases ks with
  | nil => exact List.prefix_refl _
  | cons k ks =>
    rw [Em.varsL]
    exact List.IsPrefix.trans (vars_pre l k) (varsL_pre _ ks)
end
theorem ok_var {n : Int} {ks : List Ty} (h : Em.okT (.mk Em.wVar n ks) = true) : ks = [] := by
  rw [Em.okT, Bool.and_eq_true] at h
  have h1 := h.1
  simp only [Bool.not_eq_true', Bool.or_eq_false_iff, decide_eq_false_iff_not, Classical.not_not, ne_eq] at h1
  have : Em.kidsOf Em.wVar = 0 := by decide
  have h2 := h1.1.1
  rw [this] at h2
  cases ks with
  | nil => rfl
  | cons k ks => simp at h2; omega
mutual
theorem vars_ren (L : List Int) (t : Ty) (acc : List Int) (ho : Em.okT t = true) (h : Em.varsT acc t <+: L) : Em.varsT (iota acc.length) (Em.renT L t) = iota (Em.varsT acc t).length := by
  cases t with
  | mk o n ks =>
    by_cases hv : o = Em.wVar
    · subst hv
      have := ok_var ho
      subst this
      rw [Em.varsT, Em.varsL] at h ⊢
      rw [Em.renT, if_pos rfl, Em.varsT, Em.varsL]
      by_cases hm : n ∈ acc
      · have hi : ¬ (Em.wVar = Em.wVar ∧ n ∉ acc) := by simp [hm]
        rw [if_neg hi] at h ⊢
        have h1 := place_pre h hm
        have h2 := place_in (h.subset hm)
        rw [if_neg (by rw [iota_mem]; intro e; exact e.2 ⟨h2.1, h1⟩)]
      · have hi : Em.wVar = Em.wVar ∧ n ∉ acc := ⟨rfl, hm⟩
        rw [if_pos hi] at h ⊢
        rw [place_next h hm, if_pos ⟨rfl, by rw [iota_mem]; omega⟩, List.length_append, List.length_singleton, iota_succ]
    · rw [Em.okT, Bool.and_eq_true] at ho
      rw [Em.varsT, if_neg (by simp [hv])] at h ⊢
      rw [Em.renT, if_neg hv, Em.varsT, if_neg (by simp [hv])]
      exact varsL_ren L ks acc ho.2 h
theorem varsL_ren (L : List Int) (ks : List Ty) (acc : List Int) (ho : Em.okL ks = true) (h : Em.varsL acc ks <+: L) : Em.varsL (iota acc.length) (Em.renL L ks) = iota (Em.varsL acc ks).length := by
  cases ks with
  | nil => rfl
  | cons k ks =>
    rw [Em.okL, Bool.and_eq_true] at ho
    rw [Em.varsL] at h ⊢
    rw [Em.renL, Em.varsL, vars_ren L k acc ho.1 (List.IsPrefix.trans (varsL_pre _ ks) h)]
    exact varsL_ren L ks _ ho.2 h
end
mutual
theorem ren_iota (L : List Int) (t : Ty) (h : varsIn L t) : Em.renT (iota L.length) (Em.renT L t) = Em.renT L t := by
  cases t with
  | mk o n ks =>
    rw [varsIn] at h
    by_cases hv : o = Em.wVar
    · rw [Em.renT, if_pos hv, Em.renT, if_pos rfl]
      have h2 := place_in (h.1 hv)
      have := place_iota L.length (Em.place L n).toNat (by omega)
      rw [Int.toNat_of_nonneg h2.1] at this
      rw [this]
    · rw [Em.renT, if_neg hv, Em.renT, if_neg hv, renL_iota L ks h.2]
theorem renL_iota (L : List Int) (ks : List Ty) (h : varsInL L ks) : Em.renL (iota L.length) (Em.renL L ks) = Em.renL L ks := by
  cases ks with
  | nil => rfl
  | cons k ks =>
    rw [varsInL] at h
    rw [Em.renL, Em.renL, ren_iota L k h.1, renL_iota L ks h.2]
end
theorem norm_norm {t : Ty} (h : Em.okT t = true) : Em.normT (Em.normT t) = Em.normT t := by
  have h1 := vars_ren (Em.varsT [] t) t [] h (List.prefix_refl _)
  have h2 := ren_iota (Em.varsT [] t) t (varsIn_of [] _ t fun x hx => hx)
  unfold Em.normT
  rw [show iota ([] : List Int).length = [] from rfl] at h1
  rw [h1, h2]
theorem vars_norm {t : Ty} (h : Em.okT t = true) : Em.varsT [] (Em.normT t) = iota (Em.varsT [] t).length := vars_ren (Em.varsT [] t) t [] h (List.prefix_refl _)
end Go.Proofs.YtoippbbodhchkaaDoor
