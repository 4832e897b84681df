/- Walks: the reader of the reference: a value: all but a block that comes the first time. -/
import Derived.Test.YtoehaijmkmdggaaGreatGRvN
set_option linter.unusedSimpArgs false
set_option linter.unusedVariables false
namespace Go.Proofs.YtoehaijmkmdggaaGreat
open Go.RowKit
open Em (Ty)
set_option linter.unusedVariables false
set_option linter.unusedSimpArgs false
set_option maxRecDepth 100000
/-- What a value comes to, to a depth. -/
def NodeX (B : Nat) (w0 : World) (p f : Nat) : Prop := ∀ (Z : Nat → Prop) (w : World) (bv lv tv : Value) (its : List (Em.Blk × Value)) (tys : List (Ty × List Value)) (s : Em.Rd) (t : Ty) (d : Nat) (cs : List Value), RdM 91 B Z w0 w p bv lv tv [.int .i64 0] its tys s → TyI (fun k => k < w0.heap.size ∨ Z k) d w cs t → Em.okS t = true → 2000 - its.length < f →
  Calls Tryz.prog 36 #[.pointer (some ⟨p, 0, none⟩), .agg cs.toArray] w (ValX 91 B Z w0 w p lv tv its (Em.valP f t s))
section
variable {B f : Nat} {Z : Nat → Prop} {w0 w : World} {p : Nat} {bv lv tv : Value} {its : List (Em.Blk × Value)} {tys : List (Ty × List Value)} {s s1 : Em.Rd}
theorem rvNode_bad {c9 : Int} (hc : ¬ c9 = 0) (t : Ty) (d : Nat) (cs : List Value) (h : RdM 91 B Z w0 w p bv lv tv [.int .i64 c9] its tys s) (ht : TyI (fun k => k < w0.heap.size ∨ Z k) d w cs t) :
    Calls Tryz.prog 36 #[.pointer (some ⟨p, 0, none⟩), .agg cs.toArray] w fun e w' => e = .returned (.agg #[.bool false, .int .i64 0]) ∧ Keep w w' := by
  cases d with
  | zero => exact ht.elim
  | succ d =>
    obtain ⟨v, rfl, hn, hs, hin⟩ := ht
    obtain ⟨A, c, rfl, _⟩ := id hs
    obtain ⟨o, n, ks⟩ := t
    simp only [Em.Ty.op, Em.Ty.n, Em.Ty.kids] at *
    have ka : Keep w ((w.alloc (.cells #[.string (str o), .int .i64 n, .slice A ks.length c] 25)).alloc (.cells #[.bool false, .int .i64 0] 59)) := (by repeat (first | exact Keep.rf _ | assumption | apply Keep.al | apply Keep.dr | apply Keep.dn))
    have c3 := top_cells (h.keep ka).top 3
    simp only [List.getElem?_toArray, List.getElem?_cons_succ, List.getElem?_cons_zero] at c3
    clear h hs hin hn ka
    go_enter Tryz.func36, Tryz.ntmps36
    go_wp2_with fail
    refine bodyPost_ret_by (results_cell_row rfl _ _ (w.heap.size + 1) 59 _ (0, 0) _ rfl (new_second w _ _) Tryz.underlying59 rfl ?_) rfl ?_
    · kernel_rfl
    · exact ⟨rfl, (by repeat (first | exact Keep.rf _ | assumption | apply Keep.al | apply Keep.dr | apply Keep.dn))⟩
set_option maxHeartbeats 8000000 in
theorem rvNode_plain (t : Ty) (d : Nat) (cs : List Value) (h : RdM 91 B Z w0 w p bv lv tv [.int .i64 0] its tys s) (ht : TyI (fun k => k < w0.heap.size ∨ Z k) d w cs t) (hok : Em.okS t = true) (hp : Em.isPl t.op) :
    Calls Tryz.prog 36 #[.pointer (some ⟨p, 0, none⟩), .agg cs.toArray] w (ValX 91 B Z w0 w p lv tv its (Em.immP t.op s)) := by
  cases d with
  | zero => exact ht.elim
  | succ d =>
    have HT0 := hide ht
    have HOK := hide hok
    have HP := hide hp
    obtain ⟨v, rfl, hn, hs, hin⟩ := ht
    obtain ⟨A, c, rfl, _⟩ := id hs
    obtain ⟨o, n, ks⟩ := t
    simp only [Em.Ty.op, Em.Ty.n, Em.Ty.kids] at *
    have ka : Keep w ((w.alloc (.cells #[.string (str o), .int .i64 n, .slice A ks.length c] 25)).alloc (.cells #[.bool false, .int .i64 0] 59)) := (by repeat (first | exact Keep.rf _ | assumption | apply Keep.al | apply Keep.dr | apply Keep.dn))
    have hB := (Keep.frm (Keep.al (Keep.rf (w.alloc (.cells #[.string (str o), .int .i64 n, .slice A ks.length c] 25))) (.cells #[.bool false, .int .i64 0] 59)) (fun _ => False)).heap (fun h => h) (heap_alloc_new w (.cells #[.string (str o), .int .i64 n, .slice A ks.length c] 25))
    have hR := new_second w (.cells #[.string (str o), .int .i64 n, .slice A ks.length c] 25) (.cells #[.bool false, .int .i64 0] 59)
    have hnr : ¬ HasR Z p lv tv its (w.heap.size + 1) := fun e => by have := (h.lt _ e).2; omega
    have hnb : ¬ HasR Z p lv tv its w.heap.size := fun e => by have := (h.lt _ e).2; omega
    have HRL := hide (show w.heap.size + 1 < ((w.alloc (.cells #[.string (str o), .int .i64 n, .slice A ks.length c] 25)).alloc (.cells #[.bool false, .int .i64 0] 59)).heap.size from by simp)
    have h0r : w0.heap.size ≤ w.heap.size + 1 := by have := h.k0.size; omega
    have H0R := hide h0r
    have hM1 := h.keep ka
    have HT1 := hide (HT0.out.keep ka)
    have HPL := hide (refPlain22 HT1.out.ty HOK.out)
    have HM1 := hide hM1
    have b0 := top_cells hB 0
    have b1 := top_cells hB 1
    have b2 := top_cells hB 2
    have c3 := top_cells hM1.top 3
    simp only [List.getElem?_toArray, List.getElem?_cons_succ, List.getElem?_cons_zero] at b0 b1 b2 c3
    have HR := hide hR
    have HB := hide hB
    have KA := hide ka
    have HNR := hide hnr
    have HNB := hide hnb
    have hlim := h.lim
    have hO := opB o
    clear hR ka h hB hs hin hn hM1 HT0 hp hok hnr hnb h0r
    go_enter Tryz.func36, Tryz.ntmps36
    go_wp2_with fail
    generalize World.alloc (World.alloc w _) _ = w1 at *
    refine HPL.out.mono ?_
    rintro e w2 ⟨rfl, k2⟩
    clear HPL
    have hpd : decide (Em.isPl (Ty.op (.mk o n ks))) = true := decide_eq_true HP.out
    rw [hpd]
    clear hpd
    have HM2 := hide (HM1.out.keep k2)
    have hB2 := (k2.frm fun _ => False).heap (fun h => h) HB.out
    have HR2 := hide ((k2.frm fun _ => False).heap (fun h => h) HR.out)
    have HT2 := hide (HT1.out.keep k2)
    have KA2 := hide (Keep.tr KA.out k2)
    have HRL2 := hide (Nat.lt_of_lt_of_le HRL.out k2.size)
    have HN := hide (rvPlain _ _ _ HM2.out HT2.out HP.out)
    have b0 := top_cells hB2 0
    have b1 := top_cells hB2 1
    have b2 := top_cells hB2 2
    simp only [List.getElem?_toArray, List.getElem?_cons_succ, List.getElem?_cons_zero] at b0 b1 b2
    clear hB2 k2 c3 HT1 HB HR KA
    go_wp2_with fail
    refine HN.out.mono ?_
    intro e w3 hA
    obtain ⟨x, s3, c3, rfl, hx, ⟨Z3, lv3, tv3, its3, tys3, hd3, hw3⟩, hend⟩ := id hA
    have hR3 := hw3.heap HNR.out HR2.out
    have r0 := top_cells hR3 0
    have r1 := top_cells hR3 1
    have f0 := top_free hR3 0
    have f1 := top_free hR3 1
    simp only [List.getElem?_toArray, List.getElem?_cons_succ, List.getElem?_cons_zero] at r0 r1
    have HR3 := hide hR3
    have HA := hide hA
    clear hA hR3 hw3 hd3 hend b0 b1 b2
    go_wp2_with fail
    refine bodyPost_ret_by (results_cell_row rfl _ _ (w.heap.size + 1) 59 _ (0, 0) _ rfl (heap_set2R HR3.out _ _) Tryz.underlying59 rfl ?_) rfl ?_
    · kernel_rfl
    · exact HA.out.pass (RWent.of_keep KA2.out) (frm_set2R _ _ _ _) (by omega) HRL2.out HNR.out H0R.out
set_option maxHeartbeats 8000000 in
theorem rvNode_errL (t : Ty) (d : Nat) (cs : List Value) (h : RdM 91 B Z w0 w p bv lv tv [.int .i64 0] its tys s) (ht : TyI (fun k => k < w0.heap.size ∨ Z k) d w cs t) (hok : Em.okS t = true) (hp : ¬ Em.isPl t.op) (hop : t.op = Em.wList) (hnum : Em.numP s = .err 2) :
    Calls Tryz.prog 36 #[.pointer (some ⟨p, 0, none⟩), .agg cs.toArray] w (ValX 91 B Z w0 w p lv tv its (.err 2)) := by
  cases d with
  | zero => exact ht.elim
  | succ d =>
    have HT0 := hide ht
    have HOK := hide hok
    have HP := hide hp
    obtain ⟨v, rfl, hn, hs, hin⟩ := ht
    obtain ⟨A, c, rfl, _⟩ := id hs
    obtain ⟨o, n, ks⟩ := t
    simp only [Em.Ty.op, Em.Ty.n, Em.Ty.kids] at *
    obtain rfl : o = [108, 105, 115, 116] := hop
    have ka : Keep w ((w.alloc (.cells #[.string (str [108, 105, 115, 116]), .int .i64 n, .slice A ks.length c] 25)).alloc (.cells #[.bool false, .int .i64 0] 59)) := (by repeat (first | exact Keep.rf _ | assumption | apply Keep.al | apply Keep.dr | apply Keep.dn))
    have hB := (Keep.frm (Keep.al (Keep.rf (w.alloc (.cells #[.string (str [108, 105, 115, 116]), .int .i64 n, .slice A ks.length c] 25))) (.cells #[.bool false, .int .i64 0] 59)) (fun _ => False)).heap (fun h => h) (heap_alloc_new w (.cells #[.string (str [108, 105, 115, 116]), .int .i64 n, .slice A ks.length c] 25))
    have hR := new_second w (.cells #[.string (str [108, 105, 115, 116]), .int .i64 n, .slice A ks.length c] 25) (.cells #[.bool false, .int .i64 0] 59)
    have hnr : ¬ HasR Z p lv tv its (w.heap.size + 1) := fun e => by have := (h.lt _ e).2; omega
    have hnb : ¬ HasR Z p lv tv its w.heap.size := fun e => by have := (h.lt _ e).2; omega
    have HRL := hide (show w.heap.size + 1 < ((w.alloc (.cells #[.string (str [108, 105, 115, 116]), .int .i64 n, .slice A ks.length c] 25)).alloc (.cells #[.bool false, .int .i64 0] 59)).heap.size from by simp)
    have h0r : w0.heap.size ≤ w.heap.size + 1 := by have := h.k0.size; omega
    have H0R := hide h0r
    have hM1 := h.keep ka
    have HT1 := hide (HT0.out.keep ka)
    have HPL := hide (refPlain22 HT1.out.ty HOK.out)
    have HM1 := hide hM1
    have b0 := top_cells hB 0
    have b1 := top_cells hB 1
    have b2 := top_cells hB 2
    have c3 := top_cells hM1.top 3
    simp only [List.getElem?_toArray, List.getElem?_cons_succ, List.getElem?_cons_zero] at b0 b1 b2 c3
    have HR := hide hR
    have HB := hide hB
    have KA := hide ka
    have HNR := hide hnr
    have HNB := hide hnb
    have hlim := h.lim
    have hO := opB [108, 105, 115, 116]
    clear hR ka h hB hs hin hn hM1 HT0 hp hok hnr hnb h0r
    go_enter Tryz.func36, Tryz.ntmps36
    go_wp2_with fail
    generalize World.alloc (World.alloc w _) _ = w1 at *
    refine HPL.out.mono ?_
    rintro e w2 ⟨rfl, k2⟩
    clear HPL
    have hpd : decide (Em.isPl (Ty.op (.mk [108, 105, 115, 116] n ks))) = false := decide_eq_false HP.out
    rw [hpd]
    clear hpd
    have HM2 := hide (HM1.out.keep k2)
    have hB2 := (k2.frm fun _ => False).heap (fun h => h) HB.out
    have HR2 := hide ((k2.frm fun _ => False).heap (fun h => h) HR.out)
    have HT2 := hide (HT1.out.keep k2)
    have KA2 := hide (Keep.tr KA.out k2)
    have HRL2 := hide (Nat.lt_of_lt_of_le HRL.out k2.size)
    have HN := hide (rvNumber HM2.out)
    have HB2 := hide hB2
    clear hB2 k2 b0 b1 b2 c3 HT1 HB HR KA
    go_wp2_with fail
    refine HN.out.mono ?_
    rintro e w3 ⟨v, s3, cE, rfl, hv, ⟨bv3, hm3⟩, hw3, hend⟩
    clear HN
    have hB3 := hw3.heap HNB.out HB2.out
    have hR3 := hw3.heap HNR.out HR2.out
    have HNR3 := hide (hw3.out HRL2.out HNR.out)
    have HNB3 := hide (hw3.out (Nat.lt_trans (Nat.lt_succ_self _) HRL2.out) HNB.out)
    have HT3 := hide (hw3.ty HM2.out HT2.out)
    have b0 := top_cells hB3 0
    have b1 := top_cells hB3 1
    have b2 := top_cells hB3 2
    have r0 := top_cells hR3 0
    have r1 := top_cells hR3 1
    have f0 := top_free hR3 0
    have f1 := top_free hR3 1
    have c1 := top_cells hm3.top 1
    have c2 := top_cells hm3.top 2
    have c3 := top_cells hm3.top 3
    simp only [List.getElem?_toArray, List.getElem?_cons_succ, List.getElem?_cons_zero] at b0 b1 b2 r0 r1 c1 c2 c3
    have HB3 := hide hB3
    have HR3 := hide hR3
    have HM3 := hide hm3
    have HW3 := hide ((RWent.of_keep KA2.out).tr hw3)
    have HRL3 := hide (Nat.lt_of_lt_of_le HRL2.out hw3.frm.size)
    clear hB3 hR3 hm3 hw3
    clear HB2 HR2 HM2 HT2 KA2 HRL2 HNR HNB HM1 HRL
    obtain ⟨rfl, rfl, e3⟩ : cE = 2 ∧ v = 0 ∧ Em.numP s = .err 2 := by
      rcases hend with ⟨_, e⟩ | h
      · rw [hnum] at e; cases e
      · exact h
    clear hend
    go_wp2_with fail
    refine bodyPost_ret_by (results_cell_row rfl _ _ (w.heap.size + 1) 59 _ (0, 0) _ rfl (heap_set2R HR3.out _ _) Tryz.underlying59 rfl ?_) rfl ?_
    · kernel_rfl
    · exact ⟨(true, 0), s3, 2, rfl, (by decide : (Lit.int .i64 0).wf = true), ⟨Z, lv, tv, its, tys, ⟨_, HM3.out.far (frm_set2R _ _ _ _) HNR3.out H0R.out⟩, HW3.out.far (by omega) (frm_set2R _ _ _ _)⟩, .inr ⟨.inl rfl, rfl⟩⟩
set_option maxHeartbeats 8000000 in
theorem rvNode_errN (t : Ty) (d : Nat) (cs : List Value) (h : RdM 91 B Z w0 w p bv lv tv [.int .i64 0] its tys s) (ht : TyI (fun k => k < w0.heap.size ∨ Z k) d w cs t) (hok : Em.okS t = true) (hp : ¬ Em.isPl t.op) (hop : ¬ t.op = Em.wList) (hnum : Em.numP s = .err 2) :
    Calls Tryz.prog 36 #[.pointer (some ⟨p, 0, none⟩), .agg cs.toArray] w (ValX 91 B Z w0 w p lv tv its (.err 2)) := by
  cases d with
  | zero => exact ht.elim
  | succ d =>
    have HT0 := hide ht
    have HOK := hide hok
    have HP := hide hp
    obtain ⟨v, rfl, hn, hs, hin⟩ := ht
    obtain ⟨A, c, rfl, _⟩ := id hs
    obtain ⟨o, n, ks⟩ := t
    simp only [Em.Ty.op, Em.Ty.n, Em.Ty.kids] at *
    have hnl : ¬ o = [108, 105, 115, 116] := hop
    have ka : Keep w ((w.alloc (.cells #[.string (str o), .int .i64 n, .slice A ks.length c] 25)).alloc (.cells #[.bool false, .int .i64 0] 59)) := (by repeat (first | exact Keep.rf _ | assumption | apply Keep.al | apply Keep.dr | apply Keep.dn))
    have hB := (Keep.frm (Keep.al (Keep.rf (w.alloc (.cells #[.string (str o), .int .i64 n, .slice A ks.length c] 25))) (.cells #[.bool false, .int .i64 0] 59)) (fun _ => False)).heap (fun h => h) (heap_alloc_new w (.cells #[.string (str o), .int .i64 n, .slice A ks.length c] 25))
    have hR := new_second w (.cells #[.string (str o), .int .i64 n, .slice A ks.length c] 25) (.cells #[.bool false, .int .i64 0] 59)
    have hnr : ¬ HasR Z p lv tv its (w.heap.size + 1) := fun e => by have := (h.lt _ e).2; omega
    have hnb : ¬ HasR Z p lv tv its w.heap.size := fun e => by have := (h.lt _ e).2; omega
    have HRL := hide (show w.heap.size + 1 < ((w.alloc (.cells #[.string (str o), .int .i64 n, .slice A ks.length c] 25)).alloc (.cells #[.bool false, .int .i64 0] 59)).heap.size from by simp)
    have h0r : w0.heap.size ≤ w.heap.size + 1 := by have := h.k0.size; omega
    have H0R := hide h0r
    have hM1 := h.keep ka
    have HT1 := hide (HT0.out.keep ka)
    have HPL := hide (refPlain22 HT1.out.ty HOK.out)
    have HM1 := hide hM1
    have b0 := top_cells hB 0
    have b1 := top_cells hB 1
    have b2 := top_cells hB 2
    have c3 := top_cells hM1.top 3
    simp only [List.getElem?_toArray, List.getElem?_cons_succ, List.getElem?_cons_zero] at b0 b1 b2 c3
    have HR := hide hR
    have HB := hide hB
    have KA := hide ka
    have HNR := hide hnr
    have HNB := hide hnb
    have hlim := h.lim
    have hO := opB o
    clear hR ka h hB hs hin hn hM1 HT0 hp hok hnr hnb h0r
    go_enter Tryz.func36, Tryz.ntmps36
    go_wp2_with fail
    generalize World.alloc (World.alloc w _) _ = w1 at *
    refine HPL.out.mono ?_
    rintro e w2 ⟨rfl, k2⟩
    clear HPL
    have hpd : decide (Em.isPl (Ty.op (.mk o n ks))) = false := decide_eq_false HP.out
    rw [hpd]
    clear hpd
    have HM2 := hide (HM1.out.keep k2)
    have hB2 := (k2.frm fun _ => False).heap (fun h => h) HB.out
    have HR2 := hide ((k2.frm fun _ => False).heap (fun h => h) HR.out)
    have HT2 := hide (HT1.out.keep k2)
    have KA2 := hide (Keep.tr KA.out k2)
    have HRL2 := hide (Nat.lt_of_lt_of_le HRL.out k2.size)
    have HN := hide (rvNumber HM2.out)
    have HB2 := hide hB2
    clear hB2 k2 b0 b1 b2 c3 HT1 HB HR KA
    go_wp2_with fail
    refine HN.out.mono ?_
    rintro e w3 ⟨v, s3, cE, rfl, hv, ⟨bv3, hm3⟩, hw3, hend⟩
    clear HN
    have hB3 := hw3.heap HNB.out HB2.out
    have hR3 := hw3.heap HNR.out HR2.out
    have HNR3 := hide (hw3.out HRL2.out HNR.out)
    have HNB3 := hide (hw3.out (Nat.lt_trans (Nat.lt_succ_self _) HRL2.out) HNB.out)
    have HT3 := hide (hw3.ty HM2.out HT2.out)
    have b0 := top_cells hB3 0
    have b1 := top_cells hB3 1
    have b2 := top_cells hB3 2
    have r0 := top_cells hR3 0
    have r1 := top_cells hR3 1
    have f0 := top_free hR3 0
    have f1 := top_free hR3 1
    have c1 := top_cells hm3.top 1
    have c2 := top_cells hm3.top 2
    have c3 := top_cells hm3.top 3
    simp only [List.getElem?_toArray, List.getElem?_cons_succ, List.getElem?_cons_zero] at b0 b1 b2 r0 r1 c1 c2 c3
    have HB3 := hide hB3
    have HR3 := hide hR3
    have HM3 := hide hm3
    have HW3 := hide ((RWent.of_keep KA2.out).tr hw3)
    have HRL3 := hide (Nat.lt_of_lt_of_le HRL2.out hw3.frm.size)
    clear hB3 hR3 hm3 hw3
    clear HB2 HR2 HM2 HT2 KA2 HRL2 HNR HNB HM1 HRL
    obtain ⟨rfl, rfl, e3⟩ : cE = 2 ∧ v = 0 ∧ Em.numP s = .err 2 := by
      rcases hend with ⟨_, e⟩ | h
      · rw [hnum] at e; cases e
      · exact h
    clear hend
    go_wp2_with fail
    refine bodyPost_ret_by (results_cell_row rfl _ _ (w.heap.size + 1) 59 _ (0, 0) _ rfl (heap_set2R HR3.out _ _) Tryz.underlying59 rfl ?_) rfl ?_
    · kernel_rfl
    · exact ⟨(false, 0), s3, 2, rfl, (by decide : (Lit.int .i64 0).wf = true), ⟨Z, lv, tv, its, tys, ⟨_, HM3.out.far (frm_set2R _ _ _ _) HNR3.out H0R.out⟩, HW3.out.far (by omega) (frm_set2R _ _ _ _)⟩, .inr ⟨.inl rfl, rfl⟩⟩
set_option maxHeartbeats 8000000 in
theorem rvNode_nil (t : Ty) (d : Nat) (cs : List Value) (h : RdM 91 B Z w0 w p bv lv tv [.int .i64 0] its tys s) (ht : TyI (fun k => k < w0.heap.size ∨ Z k) d w cs t) (hok : Em.okS t = true) (hp : ¬ Em.isPl t.op) (hop : t.op = Em.wList) (hnum : Em.numP s = .ok 0 s1) :
    Calls Tryz.prog 36 #[.pointer (some ⟨p, 0, none⟩), .agg cs.toArray] w (ValX 91 B Z w0 w p lv tv its (.ok (true, 0) s1)) := by
  cases d with
  | zero => exact ht.elim
  | succ d =>
    have HT0 := hide ht
    have HOK := hide hok
    have HP := hide hp
    obtain ⟨v, rfl, hn, hs, hin⟩ := ht
    obtain ⟨A, c, rfl, _⟩ := id hs
    obtain ⟨o, n, ks⟩ := t
    simp only [Em.Ty.op, Em.Ty.n, Em.Ty.kids] at *
    obtain rfl : o = [108, 105, 115, 116] := hop
    have ka : Keep w ((w.alloc (.cells #[.string (str [108, 105, 115, 116]), .int .i64 n, .slice A ks.length c] 25)).alloc (.cells #[.bool false, .int .i64 0] 59)) := (by repeat (first | exact Keep.rf _ | assumption | apply Keep.al | apply Keep.dr | apply Keep.dn))
    have hB := (Keep.frm (Keep.al (Keep.rf (w.alloc (.cells #[.string (str [108, 105, 115, 116]), .int .i64 n, .slice A ks.length c] 25))) (.cells #[.bool false, .int .i64 0] 59)) (fun _ => False)).heap (fun h => h) (heap_alloc_new w (.cells #[.string (str [108, 105, 115, 116]), .int .i64 n, .slice A ks.length c] 25))
    have hR := new_second w (.cells #[.string (str [108, 105, 115, 116]), .int .i64 n, .slice A ks.length c] 25) (.cells #[.bool false, .int .i64 0] 59)
    have hnr : ¬ HasR Z p lv tv its (w.heap.size + 1) := fun e => by have := (h.lt _ e).2; omega
    have hnb : ¬ HasR Z p lv tv its w.heap.size := fun e => by have := (h.lt _ e).2; omega
    have HRL := hide (show w.heap.size + 1 < ((w.alloc (.cells #[.string (str [108, 105, 115, 116]), .int .i64 n, .slice A ks.length c] 25)).alloc (.cells #[.bool false, .int .i64 0] 59)).heap.size from by simp)
    have h0r : w0.heap.size ≤ w.heap.size + 1 := by have := h.k0.size; omega
    have H0R := hide h0r
    have hM1 := h.keep ka
    have HT1 := hide (HT0.out.keep ka)
    have HPL := hide (refPlain22 HT1.out.ty HOK.out)
    have HM1 := hide hM1
    have b0 := top_cells hB 0
    have b1 := top_cells hB 1
    have b2 := top_cells hB 2
    have c3 := top_cells hM1.top 3
    simp only [List.getElem?_toArray, List.getElem?_cons_succ, List.getElem?_cons_zero] at b0 b1 b2 c3
    have HR := hide hR
    have HB := hide hB
    have KA := hide ka
    have HNR := hide hnr
    have HNB := hide hnb
    have hlim := h.lim
    have hO := opB [108, 105, 115, 116]
    clear hR ka h hB hs hin hn hM1 HT0 hp hok hnr hnb h0r
    go_enter Tryz.func36, Tryz.ntmps36
    go_wp2_with fail
    generalize World.alloc (World.alloc w _) _ = w1 at *
    refine HPL.out.mono ?_
    rintro e w2 ⟨rfl, k2⟩
    clear HPL
    have hpd : decide (Em.isPl (Ty.op (.mk [108, 105, 115, 116] n ks))) = false := decide_eq_false HP.out
    rw [hpd]
    clear hpd
    have HM2 := hide (HM1.out.keep k2)
    have hB2 := (k2.frm fun _ => False).heap (fun h => h) HB.out
    have HR2 := hide ((k2.frm fun _ => False).heap (fun h => h) HR.out)
    have HT2 := hide (HT1.out.keep k2)
    have KA2 := hide (Keep.tr KA.out k2)
    have HRL2 := hide (Nat.lt_of_lt_of_le HRL.out k2.size)
    have HN := hide (rvNumber HM2.out)
    have HB2 := hide hB2
    clear hB2 k2 b0 b1 b2 c3 HT1 HB HR KA
    go_wp2_with fail
    refine HN.out.mono ?_
    rintro e w3 ⟨v, s3, cE, rfl, hv, ⟨bv3, hm3⟩, hw3, hend⟩
    clear HN
    have hB3 := hw3.heap HNB.out HB2.out
    have hR3 := hw3.heap HNR.out HR2.out
    have HNR3 := hide (hw3.out HRL2.out HNR.out)
    have HNB3 := hide (hw3.out (Nat.lt_trans (Nat.lt_succ_self _) HRL2.out) HNB.out)
    have HT3 := hide (hw3.ty HM2.out HT2.out)
    have b0 := top_cells hB3 0
    have b1 := top_cells hB3 1
    have b2 := top_cells hB3 2
    have r0 := top_cells hR3 0
    have r1 := top_cells hR3 1
    have f0 := top_free hR3 0
    have f1 := top_free hR3 1
    have c1 := top_cells hm3.top 1
    have c2 := top_cells hm3.top 2
    have c3 := top_cells hm3.top 3
    simp only [List.getElem?_toArray, List.getElem?_cons_succ, List.getElem?_cons_zero] at b0 b1 b2 r0 r1 c1 c2 c3
    have HB3 := hide hB3
    have HR3 := hide hR3
    have HM3 := hide hm3
    have HW3 := hide ((RWent.of_keep KA2.out).tr hw3)
    have HRL3 := hide (Nat.lt_of_lt_of_le HRL2.out hw3.frm.size)
    clear hB3 hR3 hm3 hw3
    clear HB2 HR2 HM2 HT2 KA2 HRL2 HNR HNB HM1 HRL
    obtain ⟨rfl, e3⟩ : cE = 0 ∧ Em.numP s = .ok v s3 := by
      rcases hend with h | ⟨_, _, e⟩
      · exact h
      · rw [hnum] at e; cases e
    rw [hnum] at e3
    cases e3
    clear hend
    go_wp2_with fail
    refine bodyPost_ret_by (results_cell_row rfl _ _ (w.heap.size + 1) 59 _ (0, 0) _ rfl (heap_set2R HR3.out _ _) Tryz.underlying59 rfl ?_) rfl ?_
    · kernel_rfl
    · exact ⟨(true, 0), s1, 0, rfl, (by decide : (Lit.int .i64 0).wf = true), ⟨Z, lv, tv, its, tys, ⟨_, HM3.out.far (frm_set2R _ _ _ _) HNR3.out H0R.out⟩, HW3.out.far (by omega) (frm_set2R _ _ _ _)⟩, .inl ⟨rfl, rfl⟩⟩
set_option maxHeartbeats 8000000 in
theorem rvNode_fullL (t : Ty) (d : Nat) (cs : List Value) (h : RdM 91 B Z w0 w p bv lv tv [.int .i64 0] its tys s) (ht : TyI (fun k => k < w0.heap.size ∨ Z k) d w cs t) (hok : Em.okS t = true) (hp : ¬ Em.isPl t.op) (hop : t.op = Em.wList) (hnum : Em.numP s = .ok 1 s1) (hfull : its.length = 2000) :
    Calls Tryz.prog 36 #[.pointer (some ⟨p, 0, none⟩), .agg cs.toArray] w (ValX 91 B Z w0 w p lv tv its (.err 7)) := by
  cases d with
  | zero => exact ht.elim
  | succ d =>
    have HT0 := hide ht
    have HOK := hide hok
    have HP := hide hp
    obtain ⟨v, rfl, hn, hs, hin⟩ := ht
    obtain ⟨A, c, rfl, _⟩ := id hs
    obtain ⟨o, n, ks⟩ := t
    simp only [Em.Ty.op, Em.Ty.n, Em.Ty.kids] at *
    obtain rfl : o = [108, 105, 115, 116] := hop
    have ka : Keep w ((w.alloc (.cells #[.string (str [108, 105, 115, 116]), .int .i64 n, .slice A ks.length c] 25)).alloc (.cells #[.bool false, .int .i64 0] 59)) := (by repeat (first | exact Keep.rf _ | assumption | apply Keep.al | apply Keep.dr | apply Keep.dn))
    have hB := (Keep.frm (Keep.al (Keep.rf (w.alloc (.cells #[.string (str [108, 105, 115, 116]), .int .i64 n, .slice A ks.length c] 25))) (.cells #[.bool false, .int .i64 0] 59)) (fun _ => False)).heap (fun h => h) (heap_alloc_new w (.cells #[.string (str [108, 105, 115, 116]), .int .i64 n, .slice A ks.length c] 25))
    have hR := new_second w (.cells #[.string (str [108, 105, 115, 116]), .int .i64 n, .slice A ks.length c] 25) (.cells #[.bool false, .int .i64 0] 59)
    have hnr : ¬ HasR Z p lv tv its (w.heap.size + 1) := fun e => by have := (h.lt _ e).2; omega
    have hnb : ¬ HasR Z p lv tv its w.heap.size := fun e => by have := (h.lt _ e).2; omega
    have HRL := hide (show w.heap.size + 1 < ((w.alloc (.cells #[.string (str [108, 105, 115, 116]), .int .i64 n, .slice A ks.length c] 25)).alloc (.cells #[.bool false, .int .i64 0] 59)).heap.size from by simp)
    have h0r : w0.heap.size ≤ w.heap.size + 1 := by have := h.k0.size; omega
    have H0R := hide h0r
    have hM1 := h.keep ka
    have HT1 := hide (HT0.out.keep ka)
    have HPL := hide (refPlain22 HT1.out.ty HOK.out)
    have HM1 := hide hM1
    have b0 := top_cells hB 0
    have b1 := top_cells hB 1
    have b2 := top_cells hB 2
    have c3 := top_cells hM1.top 3
    simp only [List.getElem?_toArray, List.getElem?_cons_succ, List.getElem?_cons_zero] at b0 b1 b2 c3
    have HR := hide hR
    have HB := hide hB
    have KA := hide ka
    have HNR := hide hnr
    have HNB := hide hnb
    have hlim := h.lim
    have hO := opB [108, 105, 115, 116]
    clear hR ka h hB hs hin hn hM1 HT0 hp hok hnr hnb h0r
    go_enter Tryz.func36, Tryz.ntmps36
    go_wp2_with fail
    generalize World.alloc (World.alloc w _) _ = w1 at *
    refine HPL.out.mono ?_
    rintro e w2 ⟨rfl, k2⟩
    clear HPL
    have hpd : decide (Em.isPl (Ty.op (.mk [108, 105, 115, 116] n ks))) = false := decide_eq_false HP.out
    rw [hpd]
    clear hpd
    have HM2 := hide (HM1.out.keep k2)
    have hB2 := (k2.frm fun _ => False).heap (fun h => h) HB.out
    have HR2 := hide ((k2.frm fun _ => False).heap (fun h => h) HR.out)
    have HT2 := hide (HT1.out.keep k2)
    have KA2 := hide (Keep.tr KA.out k2)
    have HRL2 := hide (Nat.lt_of_lt_of_le HRL.out k2.size)
    have HN := hide (rvNumber HM2.out)
    have HB2 := hide hB2
    clear hB2 k2 b0 b1 b2 c3 HT1 HB HR KA
    go_wp2_with fail
    refine HN.out.mono ?_
    rintro e w3 ⟨v, s3, cE, rfl, hv, ⟨bv3, hm3⟩, hw3, hend⟩
    clear HN
    have hB3 := hw3.heap HNB.out HB2.out
    have hR3 := hw3.heap HNR.out HR2.out
    have HNR3 := hide (hw3.out HRL2.out HNR.out)
    have HNB3 := hide (hw3.out (Nat.lt_trans (Nat.lt_succ_self _) HRL2.out) HNB.out)
    have HT3 := hide (hw3.ty HM2.out HT2.out)
    have b0 := top_cells hB3 0
    have b1 := top_cells hB3 1
    have b2 := top_cells hB3 2
    have r0 := top_cells hR3 0
    have r1 := top_cells hR3 1
    have f0 := top_free hR3 0
    have f1 := top_free hR3 1
    have c1 := top_cells hm3.top 1
    have c2 := top_cells hm3.top 2
    have c3 := top_cells hm3.top 3
    simp only [List.getElem?_toArray, List.getElem?_cons_succ, List.getElem?_cons_zero] at b0 b1 b2 r0 r1 c1 c2 c3
    have HB3 := hide hB3
    have HR3 := hide hR3
    have HM3 := hide hm3
    have HW3 := hide ((RWent.of_keep KA2.out).tr hw3)
    have HRL3 := hide (Nat.lt_of_lt_of_le HRL2.out hw3.frm.size)
    clear hB3 hR3 hm3 hw3
    clear HB2 HR2 HM2 HT2 KA2 HRL2 HNR HNB HM1 HRL
    obtain ⟨rfl, e3⟩ : cE = 0 ∧ Em.numP s = .ok v s3 := by
      rcases hend with h | ⟨_, _, e⟩
      · exact h
      · rw [hnum] at e; cases e
    rw [hnum] at e3
    cases e3
    clear hend
    have HF := hide (rvFail 7 HM3.out)
    obtain ⟨A9, c9, rfl⟩ := own_slice HM3.out.tow
    have hge : (tys.length : Int) ≥ 2000 := by have := HM3.out.len; omega
    clear hfull
    go_wp2_with fail
    refine HF.out.mono ?_
    rintro e w5 ⟨rfl, hm5, hw5⟩
    rw [failE_0] at hm5
    have hR5 := hw5.heap HNR3.out HR3.out
    have HNR5 := hide (hw5.out HRL3.out HNR3.out)
    have r0 := top_cells hR5 0
    have r1 := top_cells hR5 1
    have f0 := top_free hR5 0
    have f1 := top_free hR5 1
    have c3 := top_cells hm5.top 3
    simp only [List.getElem?_toArray, List.getElem?_cons_succ, List.getElem?_cons_zero] at r0 r1 c3
    have HR5 := hide hR5
    have HM5 := hide hm5
    have HW5 := hide (HW3.out.tr hw5)
    clear hR5 hm5 hw5 HF
    go_wp2_with fail
    refine bodyPost_ret_by (results_cell_row rfl _ _ (w.heap.size + 1) 59 _ (0, 0) _ rfl (heap_set2R HR5.out _ _) Tryz.underlying59 rfl ?_) rfl ?_
    · kernel_rfl
    · exact ⟨(false, 0), s1, 7, rfl, (by decide : (Lit.int .i64 0).wf = true), ⟨Z, _, _, its, tys, ⟨_, HM5.out.far (frm_set2R _ _ _ _) HNR5.out H0R.out⟩, HW5.out.far (by omega) (frm_set2R _ _ _ _)⟩, .inr ⟨.inr rfl, rfl⟩⟩
set_option maxHeartbeats 8000000 in
theorem rvNode_fullN (t : Ty) (d : Nat) (cs : List Value) (h : RdM 91 B Z w0 w p bv lv tv [.int .i64 0] its tys s) (ht : TyI (fun k => k < w0.heap.size ∨ Z k) d w cs t) (hok : Em.okS t = true) (hp : ¬ Em.isPl t.op) (hop : ¬ t.op = Em.wList) (hnum : Em.numP s = .ok 0 s1) (hfull : its.length = 2000) :
    Calls Tryz.prog 36 #[.pointer (some ⟨p, 0, none⟩), .agg cs.toArray] w (ValX 91 B Z w0 w p lv tv its (.err 7)) := by
  cases d with
  | zero => exact ht.elim
  | succ d =>
    have HT0 := hide ht
    have HOK := hide hok
    have HP := hide hp
    obtain ⟨v, rfl, hn, hs, hin⟩ := ht
    obtain ⟨A, c, rfl, _⟩ := id hs
    obtain ⟨o, n, ks⟩ := t
    simp only [Em.Ty.op, Em.Ty.n, Em.Ty.kids] at *
    have hnl : ¬ o = [108, 105, 115, 116] := hop
    have ka : Keep w ((w.alloc (.cells #[.string (str o), .int .i64 n, .slice A ks.length c] 25)).alloc (.cells #[.bool false, .int .i64 0] 59)) := (by repeat (first | exact Keep.rf _ | assumption | apply Keep.al | apply Keep.dr | apply Keep.dn))
    have hB := (Keep.frm (Keep.al (Keep.rf (w.alloc (.cells #[.string (str o), .int .i64 n, .slice A ks.length c] 25))) (.cells #[.bool false, .int .i64 0] 59)) (fun _ => False)).heap (fun h => h) (heap_alloc_new w (.cells #[.string (str o), .int .i64 n, .slice A ks.length c] 25))
    have hR := new_second w (.cells #[.string (str o), .int .i64 n, .slice A ks.length c] 25) (.cells #[.bool false, .int .i64 0] 59)
    have hnr : ¬ HasR Z p lv tv its (w.heap.size + 1) := fun e => by have := (h.lt _ e).2; omega
    have hnb : ¬ HasR Z p lv tv its w.heap.size := fun e => by have := (h.lt _ e).2; omega
    have HRL := hide (show w.heap.size + 1 < ((w.alloc (.cells #[.string (str o), .int .i64 n, .slice A ks.length c] 25)).alloc (.cells #[.bool false, .int .i64 0] 59)).heap.size from by simp)
    have h0r : w0.heap.size ≤ w.heap.size + 1 := by have := h.k0.size; omega
    have H0R := hide h0r
    have hM1 := h.keep ka
    have HT1 := hide (HT0.out.keep ka)
    have HPL := hide (refPlain22 HT1.out.ty HOK.out)
    have HM1 := hide hM1
    have b0 := top_cells hB 0
    have b1 := top_cells hB 1
    have b2 := top_cells hB 2
    have c3 := top_cells hM1.top 3
    simp only [List.getElem?_toArray, List.getElem?_cons_succ, List.getElem?_cons_zero] at b0 b1 b2 c3
    have HR := hide hR
    have HB := hide hB
    have KA := hide ka
    have HNR := hide hnr
    have HNB := hide hnb
    have hlim := h.lim
    have hO := opB o
    clear hR ka h hB hs hin hn hM1 HT0 hp hok hnr hnb h0r
    go_enter Tryz.func36, Tryz.ntmps36
    go_wp2_with fail
    generalize World.alloc (World.alloc w _) _ = w1 at *
    refine HPL.out.mono ?_
    rintro e w2 ⟨rfl, k2⟩
    clear HPL
    have hpd : decide (Em.isPl (Ty.op (.mk o n ks))) = false := decide_eq_false HP.out
    rw [hpd]
    clear hpd
    have HM2 := hide (HM1.out.keep k2)
    have hB2 := (k2.frm fun _ => False).heap (fun h => h) HB.out
    have HR2 := hide ((k2.frm fun _ => False).heap (fun h => h) HR.out)
    have HT2 := hide (HT1.out.keep k2)
    have KA2 := hide (Keep.tr KA.out k2)
    have HRL2 := hide (Nat.lt_of_lt_of_le HRL.out k2.size)
    have HN := hide (rvNumber HM2.out)
    have HB2 := hide hB2
    clear hB2 k2 b0 b1 b2 c3 HT1 HB HR KA
    go_wp2_with fail
    refine HN.out.mono ?_
    rintro e w3 ⟨v, s3, cE, rfl, hv, ⟨bv3, hm3⟩, hw3, hend⟩
    clear HN
    have hB3 := hw3.heap HNB.out HB2.out
    have hR3 := hw3.heap HNR.out HR2.out
    have HNR3 := hide (hw3.out HRL2.out HNR.out)
    have HNB3 := hide (hw3.out (Nat.lt_trans (Nat.lt_succ_self _) HRL2.out) HNB.out)
    have HT3 := hide (hw3.ty HM2.out HT2.out)
    have b0 := top_cells hB3 0
    have b1 := top_cells hB3 1
    have b2 := top_cells hB3 2
    have r0 := top_cells hR3 0
    have r1 := top_cells hR3 1
    have f0 := top_free hR3 0
    have f1 := top_free hR3 1
    have c1 := top_cells hm3.top 1
    have c2 := top_cells hm3.top 2
    have c3 := top_cells hm3.top 3
    simp only [List.getElem?_toArray, List.getElem?_cons_succ, List.getElem?_cons_zero] at b0 b1 b2 r0 r1 c1 c2 c3
    have HB3 := hide hB3
    have HR3 := hide hR3
    have HM3 := hide hm3
    have HW3 := hide ((RWent.of_keep KA2.out).tr hw3)
    have HRL3 := hide (Nat.lt_of_lt_of_le HRL2.out hw3.frm.size)
    clear hB3 hR3 hm3 hw3
    clear HB2 HR2 HM2 HT2 KA2 HRL2 HNR HNB HM1 HRL
    obtain ⟨rfl, e3⟩ : cE = 0 ∧ Em.numP s = .ok v s3 := by
      rcases hend with h | ⟨_, _, e⟩
      · exact h
      · rw [hnum] at e; cases e
    rw [hnum] at e3
    cases e3
    clear hend
    have HF := hide (rvFail 7 HM3.out)
    obtain ⟨A9, c9, rfl⟩ := own_slice HM3.out.tow
    have hge : (tys.length : Int) ≥ 2000 := by have := HM3.out.len; omega
    clear hfull
    go_wp2_with fail
    refine HF.out.mono ?_
    rintro e w5 ⟨rfl, hm5, hw5⟩
    rw [failE_0] at hm5
    have hR5 := hw5.heap HNR3.out HR3.out
    have HNR5 := hide (hw5.out HRL3.out HNR3.out)
    have r0 := top_cells hR5 0
    have r1 := top_cells hR5 1
    have f0 := top_free hR5 0
    have f1 := top_free hR5 1
    have c3 := top_cells hm5.top 3
    simp only [List.getElem?_toArray, List.getElem?_cons_succ, List.getElem?_cons_zero] at r0 r1 c3
    have HR5 := hide hR5
    have HM5 := hide hm5
    have HW5 := hide (HW3.out.tr hw5)
    clear hR5 hm5 hw5 HF
    go_wp2_with fail
    refine bodyPost_ret_by (results_cell_row rfl _ _ (w.heap.size + 1) 59 _ (0, 0) _ rfl (heap_set2R HR5.out _ _) Tryz.underlying59 rfl ?_) rfl ?_
    · kernel_rfl
    · exact ⟨(false, 0), s1, 7, rfl, (by decide : (Lit.int .i64 0).wf = true), ⟨Z, _, _, its, tys, ⟨_, HM5.out.far (frm_set2R _ _ _ _) HNR5.out H0R.out⟩, HW5.out.far (by omega) (frm_set2R _ _ _ _)⟩, .inr ⟨.inr rfl, rfl⟩⟩
end
end Go.Proofs.YtoehaijmkmdggaaGreat
