/- Walks: a type's bytes (package mark, and the reference). -/
import Derived.Test.YtcbkklfdeloeeaaMarkR
namespace Go.Proofs.Ytcbkklfdeloeeaa
open Go.RowKit
open Em (Ty)
set_option linter.unusedVariables false
set_option maxRecDepth 100000
mutual
theorem ren_nodes (L : List Int) (t : Ty) : nodes (Em.renT L t) ≤ nodes t := by
  cases t with
  | mk o n ks =>
    rw [Em.renT]
    split
    · rw [nodes, nodes, nodesL]; omega
    · rw [nodes, nodes]
      have := renL_nodes L ks
      omega
theorem renL_nodes (L : List Int) (ks : List Ty) : nodesL (Em.renL L ks) ≤ nodesL ks := by
  cases ks with
  | nil => exact Nat.le_refl _
  | cons k ks =>
    rw [Em.renL, nodesL, nodesL]
    have := ren_nodes L k
    have := renL_nodes L ks
    omega
end
theorem kids_op (o : List UInt8) (h : 0 ≤ Em.kidsOf o) : 1 ≤ Em.opI o := by
  unfold Em.kidsOf at h
  split at h
  · rename_i h1
    rcases h1 with rfl | rfl | rfl | rfl | rfl | rfl <;> decide
  · split at h
    · rename_i h1
      rcases h1 with rfl | rfl <;> decide
    · split at h
      · rename_i h1
        rcases h1 with rfl | rfl <;> decide
      · omega
mutual
theorem ok_good (L : List Int) (t : Ty) (h : Em.okT t = true) : goodT (Em.renT L t) := by
  cases t with
  | mk o n ks =>
    rw [Em.okT, Bool.and_eq_true] at h
    rw [Em.renT]
    split
    · exact ⟨by decide, trivial⟩
    · refine ⟨kids_op o ?_, ok_goodL L ks h.2⟩
      have h1 := h.1
      simp only [Bool.not_eq_true', Bool.or_eq_false_iff, decide_eq_false_iff_not, Classical.not_not, ne_eq] at h1
      omega
theorem ok_goodL (L : List Int) (ks : List Ty) (h : Em.okL ks = true) : goodL (Em.renL L ks) := by
  cases ks with
  | nil => trivial
  | cons k ks =>
    rw [Em.okL, Bool.and_eq_true] at h
    rw [Em.renL]
    exact ⟨ok_good L k h.1, ok_goodL L ks h.2⟩
end
/-- A type's bytes. -/
def Em.bytesT (t : Ty) : List UInt8 := if Em.isT t then Em.mput (Em.normT t) else []
theorem isT_ok {t : Ty} (h : Em.isT t = true) : Em.okT t = true := by
  simp only [Em.isT, Bool.and_eq_true] at h
  exact h.2
theorem norm_nodes {t : Ty} (h : Em.isT t = true) : nodes (Em.normT t) ≤ 100000 := by
  have h1 := isT_nodes t h
  have h2 := ren_nodes (Em.varsT [] t) t
  show nodes (Em.renT _ t) ≤ _
  omega
set_option maxHeartbeats 2000000 in
theorem markBytes (d : Nat) (t : Ty) (w : World) (cs : List Value) (h : TyK d w cs t) : Calls Try.prog 20 #[.agg cs.toArray] w (RetB w (Em.bytesT t)) := by
  cases d with
  | zero => exact h.elim
  | succ d =>
    have HT := hide h
    have HI := hide fun W (k : Keep w W) => typIsT t W _ ⟨d + 1, cs, rfl, h.keep k⟩
    obtain ⟨kv, rfl, kn, kA, kc, rfl, _⟩ := h
    cases hi : Em.isT t with
    | false =>
      have hb : Em.bytesT t = [] := by rw [Em.bytesT, hi]; rfl
      rw [hb]
      rw [hi] at HI
      clear hi hb
      go_enter Try.func20, Try.ntmps20
      go_wp2_with fail
      refine (HI.out _ (by repeat (first | exact Keep.rf _ | assumption | apply Keep.al | apply Keep.dr | apply Keep.dn))).mono ?_
      rintro e w1 ⟨rfl, k1⟩
      go_wp2_with fail
      go_ret
      exact ⟨_, rfl, Ob.nil _ _ _, Keep.tr (by repeat (first | exact Keep.rf _ | assumption | apply Keep.al | apply Keep.dr | apply Keep.dn)) k1⟩
    | true =>
      have hb : Em.bytesT t = Em.mput (Em.normT t) := by rw [Em.bytesT, hi]; rfl
      rw [hb]
      rw [hi] at HI
      have hn1 : nodes t ≤ 100000 := by have := isT_nodes t hi; omega
      have hn2 := norm_nodes hi
      clear hi hb
      go_enter Try.func20, Try.ntmps20
      go_wp2_with fail
      generalize hW4 : w.alloc (.cells #[.string (str t.op), .int .i64 t.n, .slice kA t.kids.length kc] 26) = W4
      have k4 : Keep w W4 := by rw [← hW4]; exact (by repeat (first | exact Keep.rf _ | assumption | apply Keep.al | apply Keep.dr | apply Keep.dn))
      have hb0 : W4.heap[w.heap.size]? = some (.cells #[.string (str t.op), .int .i64 t.n, .slice kA t.kids.length kc] 26) := by
        rw [← hW4]
        exact heap_alloc_new w _
      clear hW4
      refine (HI.out _ k4).mono ?_
      rintro e w1 ⟨rfl, k1⟩
      have hb1 := (k1.frm fun _ => False).heap (fun h => h) hb0
      have e0 := top_cells hb1 0
      have e1 := top_cells hb1 1
      have e2 := top_cells hb1 2
      simp only [List.getElem?_toArray, List.getElem?_cons_succ, List.getElem?_cons_zero] at e0 e1 e2
      have kw1 := Keep.tr k4 k1
      clear hb0 hb1
      go_wp2_with fail
      refine (typNorm (d + 1) t _ _ (HT.out.keep kw1) hn1).mono ?_
      rintro e w2 ⟨o9, n9, A9, m9, c9, rfl, f9, k2⟩
      have H3 := markPut (d + 1) _ _ _ f9.ty hn2
      go_wp2_with fail
      refine H3.mono ?_
      rintro e w3 ⟨v3, rfl, o3, k3⟩
      have O3 := hide o3
      clear H3 o3
      go_wp2_with fail
      go_ret
      exact ⟨_, rfl, O3.out.lower (Keep.tr kw1 k2).size, Keep.tr (Keep.tr kw1 k2) k3⟩
set_option maxHeartbeats 2000000 in
theorem refBytes12 (d : Nat) (t : Ty) (w : World) (cs : List Value) (h : TyK d w cs t) : Calls Try.prog 49 #[.agg cs.toArray] w (RetB w (Em.bytesT t)) := by
  cases d with
  | zero => exact h.elim
  | succ d =>
    have HT := hide h
    have HI := hide fun W (k : Keep w W) => refIsT t W _ ⟨d + 1, cs, rfl, h.keep k⟩
    obtain ⟨kv, rfl, kn, kA, kc, rfl, _⟩ := h
    cases hi : Em.isT t with
    | false =>
      have hb : Em.bytesT t = [] := by rw [Em.bytesT, hi]; rfl
      rw [hb]
      rw [hi] at HI
      clear hi hb
      go_enter Try.func49, Try.ntmps49
      go_wp2_with fail
      refine (HI.out _ (by repeat (first | exact Keep.rf _ | assumption | apply Keep.al | apply Keep.dr | apply Keep.dn))).mono ?_
      rintro e w1 ⟨rfl, k1⟩
      go_wp2_with fail
      go_ret
      exact ⟨_, rfl, Ob.nil _ _ _, Keep.tr (by repeat (first | exact Keep.rf _ | assumption | apply Keep.al | apply Keep.dr | apply Keep.dn)) k1⟩
    | true =>
      have hb : Em.bytesT t = Em.mput (Em.normT t) := by rw [Em.bytesT, hi]; rfl
      rw [hb]
      rw [hi] at HI
      have hn1 : nodes t ≤ 100000 := by have := isT_nodes t hi; omega
      have hn2 := norm_nodes hi
      have hgd : goodT (Em.normT t) := ok_good _ t (isT_ok hi)
      clear hi hb
      go_enter Try.func49, Try.ntmps49
      go_wp2_with fail
      generalize hW4 : w.alloc (.cells #[.string (str t.op), .int .i64 t.n, .slice kA t.kids.length kc] 26) = W4
      have k4 : Keep w W4 := by rw [← hW4]; exact (by repeat (first | exact Keep.rf _ | assumption | apply Keep.al | apply Keep.dr | apply Keep.dn))
      have hb0 : W4.heap[w.heap.size]? = some (.cells #[.string (str t.op), .int .i64 t.n, .slice kA t.kids.length kc] 26) := by
        rw [← hW4]
        exact heap_alloc_new w _
      clear hW4
      refine (HI.out _ k4).mono ?_
      rintro e w1 ⟨rfl, k1⟩
      have hb1 := (k1.frm fun _ => False).heap (fun h => h) hb0
      have e0 := top_cells hb1 0
      have e1 := top_cells hb1 1
      have e2 := top_cells hb1 2
      simp only [List.getElem?_toArray, List.getElem?_cons_succ, List.getElem?_cons_zero] at e0 e1 e2
      have kw1 := Keep.tr k4 k1
      clear hb0 hb1
      go_wp2_with fail
      refine (refNorm8 (d + 1) t _ _ (HT.out.keep kw1) hn1).mono ?_
      rintro e w2 ⟨o9, n9, A9, m9, c9, rfl, f9, k2⟩
      have H3 := refPut12 (d + 1) _ _ _ f9.ty hn2 hgd
      go_wp2_with fail
      refine H3.mono ?_
      rintro e w3 ⟨v3, rfl, o3, k3⟩
      have O3 := hide o3
      clear H3 o3
      go_wp2_with fail
      go_ret
      exact ⟨_, rfl, O3.out.lower (Keep.tr kw1 k2).size, Keep.tr (Keep.tr kw1 k2) k3⟩
end Go.Proofs.Ytcbkklfdeloeeaa
