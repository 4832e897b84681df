/- Plain: bytes read as a type; what was put is read back; normed twice is as once. -/
import Derived.Test.YtcbkklfdeloeeaaMarkJ
namespace Go.Proofs.Ytcbkklfdeloeeaa
open Go.RowKit
open Em (Ty)
set_option linter.unusedVariables false
set_option maxRecDepth 100000
namespace Em
/-- How many kids stand behind an Op. -/
def kidN (o : List UInt8) : Nat := if o = wList ∨ o = wRef then 1 else if o = wPair ∨ o = wFun then 2 else 0
def rdL (g : Nat → List UInt8 → Option (Ty × Nat × List UInt8)) : Nat → Nat → List UInt8 → Option (List Ty × Nat × List UInt8)
  | 0, L, l => some ([], L, l)
  | k + 1, L, l => match g L l with
    | none => none
    | some (t, L', r) => match rdL g k L' r with
      | none => none
      | some (ts, L'', r') => some (t :: ts, L'', r')
/-- A number that is none too big. -/
def rdN (l : List UInt8) : Option (Nat × List UInt8) := match getN l with
  | none => none
  | some (v, n) => if 2000 < v then none else some (v, l.drop n)
def opAt (c : Nat) : List UInt8 := opsL.getD c []
/-- What stands behind an Op: a var's number, or none. -/
def rdV (o : List UInt8) (l : List UInt8) : Option (Nat × List UInt8) := if o = wVar then rdN l else some (0, l)
/-- The type that comes next, and how many nodes there may be still. -/
def rd : Nat → Nat → List UInt8 → Option (Ty × Nat × List UInt8)
  | 0, _, _ => none
  | _ + 1, _, [] => none
  | f + 1, L, c :: r => if L = 0 ∨ c.toNat < 1 ∨ 11 ≤ c.toNat then none else match rdV (opAt c.toNat) r with
    | none => none
    | some (n, r1) => match rdL (rd f) (kidN (opAt c.toNat)) (L - 1) r1 with
      | none => none
      | some (ts, L', r2) => some (.mk (opAt c.toNat) n ts, L', r2)
def readT (b : List UInt8) : Option Ty := match rd 2000 2000 b with
  | none => none
  | some (t, _, _) => if bytesT t = b then some t else none
end Em
theorem kidN_of {o : List UInt8} (h : 0 ≤ Em.kidsOf o) : (Em.kidN o : Int) = Em.kidsOf o := by
  unfold Em.kidsOf at h ⊢
  unfold Em.kidN
  split at h
  · rename_i e
    rcases e with rfl | rfl | rfl | rfl | rfl | rfl <;> decide
  · split at h
    · rename_i e
      rcases e with rfl | rfl <;> decide
    · split at h
      · rename_i e
        rcases e with rfl | rfl <;> decide
      · omega
mutual
/-- How a type lies that Norm gave: its vars are 0, 1, .. -/
def normN : Ty → Prop
  | .mk o n ks => 1 ≤ Em.opI o ∧ ks.length = Em.kidN o ∧ 0 ≤ n ∧ n ≤ 2000 ∧ (o ≠ Em.wVar → n = 0) ∧ normNL ks
def normNL : List Ty → Prop
  | [] => True
  | k :: ks => normN k ∧ normNL ks
end
mutual
theorem rd_put (t : Ty) (r : List UInt8) (f L : Nat) (h : normN t) (hf : nodes t ≤ f) (hL : nodes t ≤ L) : Em.rd f L (Em.mput t ++ r) = some (t, L - nodes t, r) := by
  cases t with
  | mk o n ks =>
    rw [normN] at h
    obtain ⟨h1, h2, h3, h4, h5, h6⟩ := h
    rw [nodes] at hf hL ⊢
    obtain ⟨i, hi, e1, e2⟩ := opI_hit o h1
    cases f with
    | zero => omega
    | succ f =>
      rw [Em.mput, List.cons_append]
      have hc : (UInt8.ofNat (Em.opI o % 256).toNat).toNat = i := by rw [UInt8.toNat_ofNat']; omega
      have ho : Em.opAt i = o := by rw [Em.opAt, List.getD_eq_getElem?_getD, List.getElem?_eq_getElem (by simpa [Em.opsL] using hi), Option.getD_some, e2]
      rw [Em.rd, hc, if_neg (by omega), ho]
      have hv : Em.rdV o ((if o = Em.wVar then Em.putN (n % 18446744073709551616).toNat else []) ++ Em.mputL ks ++ r) = some (n.toNat, Em.mputL ks ++ r) := by
        unfold Em.rdV
        by_cases hv : o = Em.wVar
        · rw [if_pos hv, if_pos hv, Em.rdN, List.append_assoc, Em.get_put (by omega)]
          simp only
          rw [if_neg (by omega), List.drop_left]
          congr 2
          omega
        · rw [if_neg hv, if_neg hv, h5 hv]
          rfl
      rw [hv]
      simp only
      rw [← h2, rdL_put ks r f (L - 1) h6 (by omega) (by omega)]
      simp only
      congr 2
      · congr 1
        omega
      · congr 1
        omega
theorem rdL_put (ks : List Ty) (r : List UInt8) (f L : Nat) (h : normNL ks) (hf : nodesL ks ≤ f) (hL : nodesL ks ≤ L) : Em.rdL (Em.rd f) ks.length L (Em.mputL ks ++ r) = some (ks, L - nodesL ks, r) := by
  cases ks with
  | nil => rfl
  | cons k ks =>
    rw [nodesL] at hf hL ⊢
    rw [normNL] at h
    rw [List.length_cons, Em.rdL, Em.mputL, List.append_assoc, rd_put k _ f L h.1 (by omega) (by omega)]
    simp only
    rw [rdL_put ks r f (L - nodes k) h.2 (by omega) (by omega)]
    simp only
    congr 3
    omega
end
mutual
theorem sz_nodes_le (most : Int) (t : Ty) : Em.sz most t ≤ nodes t := by
  cases t with
  | mk o n ks =>
    rw [Em.sz, nodes]
    have := szL_nodes_le most 1 ks
    omega
theorem szL_nodes_le (most m : Int) (ks : List Ty) : Em.szL most m ks ≤ m + nodesL ks := by
  cases ks with
  | nil => simp [Em.szL, nodesL]
  | cons k ks =>
    rw [Em.szL, nodesL]
    split
    · omega
    · have h1 := sz_nodes_le (most - m) k
      have h2 := szL_nodes_le most (m + Em.sz (most - m) k) ks
      omega
end
/-- 0, 1, .. -/
def iota (n : Nat) : List Int := (List.range n).map Int.ofNat
theorem iota_len (n : Nat) : (iota n).length = n := by simp [iota]
theorem iota_mem (n : Nat) (x : Int) : x ∈ iota n ↔ 0 ≤ x ∧ x < n := by
  unfold iota
  rw [List.mem_map]
  constructor
  · rintro ⟨i, hi, rfl⟩
    rw [List.mem_range] at hi
    exact ⟨Int.natCast_nonneg i, by show (i : Int) < n; omega⟩
  · intro h
    exact ⟨x.toNat, by rw [List.mem_range]; omega, Int.toNat_of_nonneg h.1⟩
theorem iota_succ (n : Nat) : iota (n + 1) = iota n ++ [(n : Int)] := by simp [iota, List.range_succ]
theorem place_iota (n i : Nat) (h : i < n) : Em.place (iota n) i = i := by
  refine place_at (by rw [iota_len]; exact h) (fun x hx e => ?_) (by simp [iota])
  rw [List.mem_take_iff_getElem] at hx
  obtain ⟨j, hj, hx⟩ := hx
  simp only [iota, List.getElem_map, List.getElem_range] at hx
  have hx : (j : Int) = x := hx
  omega
theorem place_in {l : List Int} {n : Int} (h : n ∈ l) : 0 ≤ Em.place l n ∧ Em.place l n < l.length := by
  have h1 := place_mem l n
  rw [decide_eq_true h, decide_eq_true_eq] at h1
  have h2 := place_bound l n
  omega
theorem place_pre {acc L : List Int} {n : Int} (hp : acc <+: L) (h : n ∈ acc) : Em.place L n < acc.length := by
  obtain ⟨i, hi, e⟩ := List.getElem_of_mem h
  obtain ⟨s, rfl⟩ := hp
  unfold Em.place
  have hx : (acc ++ s).idxOf? n = some (acc.idxOf n) := by
    rw [List.idxOf?_eq_some_iff]
    refine ⟨by have := List.idxOf_lt_length_of_mem h; simp; omega, ?_, fun j hj => ?_⟩
    · rw [List.getElem_append_left (List.idxOf_lt_length_of_mem h)]
      exact List.getElem_idxOf _
    · have hj2 : j < acc.length := Nat.lt_trans hj (List.idxOf_lt_length_of_mem h)
      rw [List.getElem_append_left hj2]
      intro e
      have h2 := List.not_of_lt_findIdx (p := (· == n)) (xs := acc) hj
      simp only [beq_eq_false_iff_ne] at h2
      exact h2 e
  rw [hx]
  have := List.idxOf_lt_length_of_mem h
  simp only
  omega
theorem place_next {acc L : List Int} {n : Int} (hp : acc ++ [n] <+: L) (h : n ∉ acc) : Em.place L n = acc.length := by
  obtain ⟨s, rfl⟩ := hp
  refine place_at (by simp) (fun x hx e => ?_) (by simp)
  rw [List.append_assoc, List.take_left] at hx
  exact h (e ▸ hx)
mutual
theorem vars_pre (l : List Int) (t : Ty) : l <+: Em.varsT l t := by
  cases t with
  | mk o n ks =>
    rw [Em.varsT]
    refine List.IsPrefix.trans ?_ (varsL_pre _ ks)
    split
    · exact List.prefix_append _ _
    · exact List.prefix_refl _
theorem varsL_pre (l : List Int) (ks : List Ty) : l <+: Em.varsL l ks := by
  cases ks with
  | nil => exact List.prefix_refl _
  | cons k ks =>
    rw [Em.varsL]
    exact List.IsPrefix.trans (vars_pre l k) (varsL_pre _ ks)
end
theorem ok_var {n : Int} {ks : List Ty} (h : Em.okT (.mk Em.wVar n ks) = true) : ks = [] := by
  rw [Em.okT, Bool.and_eq_true] at h
  have h1 := h.1
  simp only [Bool.not_eq_true', Bool.or_eq_false_iff, decide_eq_false_iff_not, Classical.not_not, ne_eq] at h1
  have : Em.kidsOf Em.wVar = 0 := by decide
  have h2 := h1.1.1
  rw [this] at h2
  cases ks with
  | nil => rfl
  | cons k ks => simp at h2; omega
mutual
theorem vars_ren (L : List Int) (t : Ty) (acc : List Int) (ho : Em.okT t = true) (h : Em.varsT acc t <+: L) : Em.varsT (iota acc.length) (Em.renT L t) = iota (Em.varsT acc t).length := by
  cases t with
  | mk o n ks =>
    by_cases hv : o = Em.wVar
    · subst hv
      have := ok_var ho
      subst this
      rw [Em.varsT, Em.varsL] at h ⊢
      rw [Em.renT, if_pos rfl, Em.varsT, Em.varsL]
      by_cases hm : n ∈ acc
      · have hi : ¬ (Em.wVar = Em.wVar ∧ n ∉ acc) := by simp [hm]
        rw [if_neg hi] at h ⊢
        have h1 := place_pre h hm
        have h2 := place_in (h.subset hm)
        rw [if_neg (by rw [iota_mem]; intro e; exact e.2 ⟨h2.1, h1⟩)]
      · have hi : Em.wVar = Em.wVar ∧ n ∉ acc := ⟨rfl, hm⟩
        rw [if_pos hi] at h ⊢
        rw [place_next h hm, if_pos ⟨rfl, by rw [iota_mem]; omega⟩, List.length_append, List.length_singleton, iota_succ]
    · rw [Em.okT, Bool.and_eq_true] at ho
      rw [Em.varsT, if_neg (by simp [hv])] at h ⊢
      rw [Em.renT, if_neg hv, Em.varsT, if_neg (by simp [hv])]
      exact varsL_ren L ks acc ho.2 h
theorem varsL_ren (L : List Int) (ks : List Ty) (acc : List Int) (ho : Em.okL ks = true) (h : Em.varsL acc ks <+: L) : Em.varsL (iota acc.length) (Em.renL L ks) = iota (Em.varsL acc ks).length := by
  cases ks with
  | nil => rfl
  | cons k ks =>
    rw [Em.okL, Bool.and_eq_true] at ho
    rw [Em.varsL] at h ⊢
    rw [Em.renL, Em.varsL, vars_ren L k acc ho.1 (List.IsPrefix.trans (varsL_pre _ ks) h)]
    exact varsL_ren L ks _ ho.2 h
end
mutual
theorem ren_iota (L : List Int) (t : Ty) (h : varsIn L t) : Em.renT (iota L.length) (Em.renT L t) = Em.renT L t := by
  cases t with
  | mk o n ks =>
    rw [varsIn] at h
    by_cases hv : o = Em.wVar
    · rw [Em.renT, if_pos hv, Em.renT, if_pos rfl]
      have h2 := place_in (h.1 hv)
      have := place_iota L.length (Em.place L n).toNat (by omega)
      rw [Int.toNat_of_nonneg h2.1] at this
      rw [this]
    · rw [Em.renT, if_neg hv, Em.renT, if_neg hv, renL_iota L ks h.2]
theorem renL_iota (L : List Int) (ks : List Ty) (h : varsInL L ks) : Em.renL (iota L.length) (Em.renL L ks) = Em.renL L ks := by
  cases ks with
  | nil => rfl
  | cons k ks =>
    rw [varsInL] at h
    rw [Em.renL, Em.renL, ren_iota L k h.1, renL_iota L ks h.2]
end
theorem norm_norm {t : Ty} (h : Em.okT t = true) : Em.normT (Em.normT t) = Em.normT t := by
  have h1 := vars_ren (Em.varsT [] t) t [] h (List.prefix_refl _)
  have h2 := ren_iota (Em.varsT [] t) t (varsIn_of [] _ t fun x hx => hx)
  unfold Em.normT
  rw [show iota ([] : List Int).length = [] from rfl] at h1
  rw [h1, h2]
mutual
theorem okT_ren (L : List Int) (t : Ty) (h : Em.okT t = true) (hv : varsIn L t) : Em.okT (Em.renT L t) = true := by
  cases t with
  | mk o n ks =>
    rw [varsIn] at hv
    by_cases ho : o = Em.wVar
    · subst ho
      have := ok_var h
      subst this
      rw [Em.renT, if_pos rfl, Em.okT, Em.okL]
      have := place_in (hv.1 rfl)
      have h0 : Em.kidsOf Em.wVar = 0 := by decide
      simp [h0]
      omega
    · rw [Em.renT, if_neg ho]
      rw [Em.okT, Bool.and_eq_true] at h ⊢
      rw [renL_len]
      exact ⟨h.1, okL_ren L ks h.2 hv.2⟩
theorem okL_ren (L : List Int) (ks : List Ty) (h : Em.okL ks = true) (hv : varsInL L ks) : Em.okL (Em.renL L ks) = true := by
  cases ks with
  | nil => rfl
  | cons k ks =>
    rw [varsInL] at hv
    rw [Em.okL, Bool.and_eq_true] at h
    rw [Em.renL, Em.okL, okT_ren L k h.1 hv.1, okL_ren L ks h.2 hv.2]
    rfl
end
theorem isT_norm {t : Ty} (h : Em.isT t = true) : Em.isT (Em.normT t) = true := by
  have h1 := isT_nodes t h
  have h2 := ren_nodes (Em.varsT [] t) t
  have h3 := sz_nodes_le 2001 (Em.normT t)
  unfold Em.isT
  rw [Bool.and_eq_true, decide_eq_true_eq]
  refine ⟨?_, okT_ren _ t (isT_ok h) (varsIn_of [] _ t fun x hx => hx)⟩
  have : nodes (Em.normT t) ≤ nodes t := h2
  omega
mutual
theorem normN_ren (L : List Int) (hL : L.length ≤ 2000) (t : Ty) (h : Em.okT t = true) (hv : varsIn L t) : normN (Em.renT L t) := by
  cases t with
  | mk o n ks =>
    rw [varsIn] at hv
    by_cases ho : o = Em.wVar
    · have := place_in (hv.1 ho)
      rw [Em.renT, if_pos ho, normN]
      exact ⟨by decide, by decide, this.1, by omega, fun hne => absurd rfl hne, trivial⟩
    · rw [Em.renT, if_neg ho, normN]
      rw [Em.okT, Bool.and_eq_true] at h
      have h1 := h.1
      simp only [Bool.not_eq_true', Bool.or_eq_false_iff, Bool.and_eq_false_iff, decide_eq_false_iff_not, Classical.not_not, ne_eq] at h1
      have hn : n = 0 := by
        rcases h1.2 with h2 | h2
        · exact absurd h2 ho
        · exact h2
      have hk := kidN_of (o := o) (by omega)
      exact ⟨kids_op o (by omega), by rw [renL_len]; omega, by omega, by omega, fun _ => hn, normN_renL L hL ks h.2 hv.2⟩
theorem normN_renL (L : List Int) (hL : L.length ≤ 2000) (ks : List Ty) (h : Em.okL ks = true) (hv : varsInL L ks) : normNL (Em.renL L ks) := by
  cases ks with
  | nil => trivial
  | cons k ks =>
    rw [varsInL] at hv
    rw [Em.okL, Bool.and_eq_true] at h
    rw [Em.renL, normNL]
    exact ⟨normN_ren L hL k h.1 hv.1, normN_renL L hL ks h.2 hv.2⟩
end
theorem rd_norm {t : Ty} (h : Em.isT t = true) (r : List UInt8) : Em.rd 2000 2000 (Em.mput (Em.normT t) ++ r) = some (Em.normT t, 2000 - nodes (Em.normT t), r) := by
  have h1 := isT_nodes t h
  have h2 : nodes (Em.normT t) ≤ nodes t := ren_nodes (Em.varsT [] t) t
  have h3 := vars_nodes [] t
  simp only [List.length_nil] at h3
  exact rd_put _ r _ _ (normN_ren _ (by omega) t (isT_ok h) (varsIn_of [] _ t fun x hx => hx)) (by omega) (by omega)
theorem read_bytes (t : Ty) : Em.readT (Em.bytesT t) = if Em.isT t then some (Em.normT t) else none := by
  cases h : Em.isT t with
  | false =>
    have : Em.bytesT t = [] := by rw [Em.bytesT, h]; rfl
    rw [this]
    rfl
  | true =>
    have hb : Em.bytesT t = Em.mput (Em.normT t) := by rw [Em.bytesT, h]; rfl
    have hb2 : Em.bytesT (Em.normT t) = Em.mput (Em.normT t) := by rw [Em.bytesT, isT_norm h, if_pos rfl, norm_norm (isT_ok h)]
    have := rd_norm h []
    rw [List.append_nil] at this
    rw [hb, Em.readT, this]
    simp only
    rw [if_pos hb2]
    rfl
/-- What was read to the end has nothing left. -/
theorem read_rest {b r : List UInt8} {t : Ty} {L : Nat} (h : Em.rd 2000 2000 b = some (t, L, r)) (e : Em.bytesT t = b) : r = [] ∧ Em.isT t = true := by
  cases hi : Em.isT t with
  | false =>
    have : Em.bytesT t = [] := by rw [Em.bytesT, hi]; rfl
    rw [← e, this] at h
    cases h
  | true =>
    have hb : Em.bytesT t = Em.mput (Em.normT t) := by rw [Em.bytesT, hi]; rfl
    have := rd_norm hi []
    rw [List.append_nil, ← hb, e, h] at this
    injection this with this
    injection this with h1 this
    injection this with h2 h3
    exact ⟨h3, rfl⟩
mutual
theorem rd_le (f : Nat) (L : Nat) (l : List UInt8) (t : Ty) (L' : Nat) (r : List UInt8) (h : Em.rd f L l = some (t, L', r)) : L' < L := by
  cases f with
  | zero => cases h
  | succ f =>
    cases l with
    | nil => cases h
    | cons c s =>
      rw [Em.rd] at h
      split at h
      · cases h
      · rename_i hc
        split at h
        · cases h
        · split at h
          · cases h
          · rename_i hh
            injection h with h
            injection h with h1 h
            injection h with h2 h3
            have := rdL_le f _ _ _ _ _ _ hh
            omega
theorem rdL_le (f : Nat) (k L : Nat) (l : List UInt8) (ts : List Ty) (L' : Nat) (r : List UInt8) (h : Em.rdL (Em.rd f) k L l = some (ts, L', r)) : L' ≤ L := by
  cases k with
  | zero =>
    rw [Em.rdL] at h
    injection h with h
    injection h with h1 h
    injection h with h2 h3
    omega
  | succ k =>
    rw [Em.rdL] at h
    split at h
    · cases h
    · rename_i h0
      have h1 := rd_le f _ _ _ _ _ h0
      split at h
      · cases h
      · rename_i h2
        have h3 := rdL_le f k _ _ _ _ _ h2
        injection h with h
        injection h with e1 h
        injection h with e2 e3
        omega
end
end Go.Proofs.Ytcbkklfdeloeeaa
