/- Walks: the reader of the reference: a value that came before. -/
import Derived.Test.YtoehaijmkmdggaaGreatGRvV
set_option linter.unusedSimpArgs false
set_option linter.unusedVariables false
namespace Go.Proofs.YtoehaijmkmdggaaGreat
open Go.RowKit
open Em (Ty)
set_option linter.unusedVariables false
set_option linter.unusedSimpArgs false
set_option maxRecDepth 100000
section
variable {B f : Nat} {Z : Nat → Prop} {w0 w : World} {p : Nat} {bv lv tv : Value} {its : List (Em.Blk × Value)} {tys : List (Ty × List Value)} {s s1 : Em.Rd}
set_option maxHeartbeats 8000000 in
theorem rvNode_refL (t : Ty) (d : Nat) (cs : List Value) (h : RdM 91 B Z w0 w p bv lv tv [.int .i64 0] its tys s) (ht : TyI (fun k => k < w0.heap.size ∨ Z k) d w cs t) (hok : Em.okS t = true) (hp : ¬ Em.isPl t.op) (hop : t.op = Em.wList) (i : Nat) (hnum : Em.numP s = .ok (i + 1 + 1) s1) :
    Calls Tryz.prog 36 #[.pointer (some ⟨p, 0, none⟩), .agg cs.toArray] w (ValX 91 B Z w0 w p lv tv its (Em.refV t (i + 1) s1)) := by
  cases d with
  | zero => exact ht.elim
  | succ d =>
    have HT0 := hide ht
    have HOK := hide hok
    have HP := hide hp
    obtain ⟨v, rfl, hn, hs, hin⟩ := ht
    obtain ⟨A, c, rfl, _⟩ := id hs
    obtain ⟨o, n, ks⟩ := t
    simp only [Em.Ty.op, Em.Ty.n, Em.Ty.kids] at *
    obtain rfl : o = [108, 105, 115, 116] := hop
    have ka : Keep w ((w.alloc (.cells #[.string (str [108, 105, 115, 116]), .int .i64 n, .slice A ks.length c] 25)).alloc (.cells #[.bool false, .int .i64 0] 59)) := (by repeat (first | exact Keep.rf _ | assumption | apply Keep.al | apply Keep.dr | apply Keep.dn))
    have hB := (Keep.frm (Keep.al (Keep.rf (w.alloc (.cells #[.string (str [108, 105, 115, 116]), .int .i64 n, .slice A ks.length c] 25))) (.cells #[.bool false, .int .i64 0] 59)) (fun _ => False)).heap (fun h => h) (heap_alloc_new w (.cells #[.string (str [108, 105, 115, 116]), .int .i64 n, .slice A ks.length c] 25))
    have hR := new_second w (.cells #[.string (str [108, 105, 115, 116]), .int .i64 n, .slice A ks.length c] 25) (.cells #[.bool false, .int .i64 0] 59)
    have hnr : ¬ HasR Z p lv tv its (w.heap.size + 1) := fun e => by have := (h.lt _ e).2; omega
    have hnb : ¬ HasR Z p lv tv its w.heap.size := fun e => by have := (h.lt _ e).2; omega
    have HRL := hide (show w.heap.size + 1 < ((w.alloc (.cells #[.string (str [108, 105, 115, 116]), .int .i64 n, .slice A ks.length c] 25)).alloc (.cells #[.bool false, .int .i64 0] 59)).heap.size from by simp)
    have h0r : w0.heap.size ≤ w.heap.size + 1 := by have := h.k0.size; omega
    have H0R := hide h0r
    have hM1 := h.keep ka
    have HT1 := hide (HT0.out.keep ka)
    have HPL := hide (refPlain22 HT1.out.ty HOK.out)
    have HM1 := hide hM1
    have b0 := top_cells hB 0
    have b1 := top_cells hB 1
    have b2 := top_cells hB 2
    have c3 := top_cells hM1.top 3
    simp only [List.getElem?_toArray, List.getElem?_cons_succ, List.getElem?_cons_zero] at b0 b1 b2 c3
    have HR := hide hR
    have HB := hide hB
    have KA := hide ka
    have HNR := hide hnr
    have HNB := hide hnb
    have hlim := h.lim
    have hO := opB [108, 105, 115, 116]
    clear hR ka h hB hs hin hn hM1 HT0 hp hok hnr hnb h0r
    go_enter Tryz.func36, Tryz.ntmps36
    go_wp2_with fail
    generalize World.alloc (World.alloc w _) _ = w1 at *
    refine HPL.out.mono ?_
    rintro e w2 ⟨rfl, k2⟩
    clear HPL
    have hpd : decide (Em.isPl (Ty.op (.mk [108, 105, 115, 116] n ks))) = false := decide_eq_false HP.out
    rw [hpd]
    clear hpd
    have HM2 := hide (HM1.out.keep k2)
    have hB2 := (k2.frm fun _ => False).heap (fun h => h) HB.out
    have HR2 := hide ((k2.frm fun _ => False).heap (fun h => h) HR.out)
    have HT2 := hide (HT1.out.keep k2)
    have KA2 := hide (Keep.tr KA.out k2)
    have HRL2 := hide (Nat.lt_of_lt_of_le HRL.out k2.size)
    have HN := hide (rvNumber HM2.out)
    have HB2 := hide hB2
    clear hB2 k2 b0 b1 b2 c3 HT1 HB HR KA
    go_wp2_with fail
    refine HN.out.mono ?_
    rintro e w3 ⟨v, s3, cE, rfl, hv, ⟨bv3, hm3⟩, hw3, hend⟩
    clear HN
    have hB3 := hw3.heap HNB.out HB2.out
    have hR3 := hw3.heap HNR.out HR2.out
    have HNR3 := hide (hw3.out HRL2.out HNR.out)
    have HNB3 := hide (hw3.out (Nat.lt_trans (Nat.lt_succ_self _) HRL2.out) HNB.out)
    have HT3 := hide (hw3.ty HM2.out HT2.out)
    have b0 := top_cells hB3 0
    have b1 := top_cells hB3 1
    have b2 := top_cells hB3 2
    have r0 := top_cells hR3 0
    have r1 := top_cells hR3 1
    have f0 := top_free hR3 0
    have f1 := top_free hR3 1
    have c1 := top_cells hm3.top 1
    have c2 := top_cells hm3.top 2
    have c3 := top_cells hm3.top 3
    simp only [List.getElem?_toArray, List.getElem?_cons_succ, List.getElem?_cons_zero] at b0 b1 b2 r0 r1 c1 c2 c3
    have HB3 := hide hB3
    have HR3 := hide hR3
    have HM3 := hide hm3
    have HW3 := hide ((RWent.of_keep KA2.out).tr hw3)
    have HRL3 := hide (Nat.lt_of_lt_of_le HRL2.out hw3.frm.size)
    clear hB3 hR3 hm3 hw3
    clear HB2 HR2 HM2 HT2 KA2 HRL2 HNR HNB HM1 HRL
    obtain ⟨rfl, e3⟩ : cE = 0 ∧ Em.numP s = .ok v s3 := by
      rcases hend with h | ⟨_, _, e⟩
      · exact h
      · rw [hnum] at e; cases e
    rw [hnum] at e3
    cases e3
    clear hend
    have HF := hide (rvFail 2 HM3.out)
    have hvi2 : ((i + 1 + 1 : Nat) : Int) = (i : Int) + 1 + 1 := by omega
    have hvi1 : ((i + 1 : Nat) : Int) = (i : Int) + 1 := by omega
    have e0 : ((i : Int) + 1 == 0) = false := by simp; omega
    have e00 : ((i : Int) + 1 + 1 == 0) = false := by simp; omega
    have hl1 := HM3.out.bl
    have hl2 := HM3.out.ty
    have hl3 := HM3.out.len
    have hl4 : s1.ty.length = tys.length := by rw [hl2]; simp
    obtain ⟨A9, c9, rfl⟩ := own_slice HM3.out.tow
    have hlt2 : tys.length ≤ 2000 := by omega
    have hlt3 : (tys.length : Int) ≤ 2000 := by omega
    by_cases hlt : tys.length < i + 1
    · have hle1 : decide ((tys.length : Int) ≤ (i : Int)) = true := decide_eq_true (by omega)
      have hle2 : decide ((i : Int) ≥ (tys.length : Int)) = true := decide_eq_true (by omega)
      have hge : (i : Int) ≥ (tys.length : Int) := by omega
      have HX2 := hide (show ∀ t, Em.refV t (i + 1) s1 = .err 2 from fun t => by
        unfold Em.refV
        rw [Nat.add_sub_cancel, List.getElem?_eq_none (by omega)])
      clear hl1 hl2 hl3 hl4
      go_wp2_with fail
      apply region_all (by kernel_rfl) Keep Keep krg ktg krg ktg (fun _ _ h => h) [some 36, some 37, some 38, some 39, some 40, some 41, some 42, some 43, some 44, some 45, some 46, some 47, some 48, some 49, some 50, some 51, some 52, some 53, some 54, some 55, some 56, some 57, some 58, some 59, some 60, some 61, some 62] [eqG _ , eqG _ , eqG _ , eqG _ , eqG _ , eqG _ , eqG _ , eqG _ , eqG _ , eqG _ , eqG _ , eqG _ , eqG _ , eqG _ , eqG _ , eqG _ , eqG undef, eqG undef, eqG undef, eqG undef, eqG undef, eqG undef, eqG undef, eqG undef, eqG undef, eqG undef, eqG _ ] [⟨[], [], true, false, false⟩, ⟨[0], [], true, false, false⟩, ⟨[1], [], true, false, false⟩, ⟨[2], [], true, false, false⟩, ⟨[3], [], true, false, false⟩, ⟨[4], [], true, false, false⟩, ⟨[5], [], true, false, false⟩, ⟨[5], [], true, false, false⟩, ⟨[5, 7], [], true, false, false⟩, ⟨[5, 8], [], true, false, false⟩, ⟨[5, 9], [], true, false, false⟩, ⟨[5, 10], [], true, false, false⟩, ⟨[5, 11], [], true, false, false⟩, ⟨[5, 6, 12], [], true, false, false⟩, ⟨[5, 13], [], true, false, false⟩, ⟨[14], [], true, false, false⟩, ⟨[15], [], true, false, false⟩, ⟨[15, 16], [], true, false, false⟩, ⟨[15, 17], [], true, false, false⟩, ⟨[15, 18], [], true, false, false⟩, ⟨[15], [], true, false, false⟩, ⟨[15, 19, 20], [], true, false, false⟩, ⟨[15, 21], [], true, false, false⟩, ⟨[15], [], true, false, false⟩, ⟨[15, 22, 23], [], true, false, false⟩, ⟨[15, 24], [], true, false, false⟩, ⟨[15, 25], [], true, false, false⟩] [26] (by kernel_rfl) (by kernel_rfl) 
      · refine ⟨?_, ?_, ?_, ?_, ?_, ?_, ?_, ?_, ?_, ?_, ?_, ?_, ?_, ?_, ?_, ?_, ?_, ?_, ?_, ?_, ?_, ?_, ?_, ?_, ?_, ?_, ?_, trivial⟩ <;> (intro us W h9 hW hE hd hs K hK; obtain ⟨u0, u1, u2, u3, u4, u5, u6, u7, u8, u9, u10, u11, u12, u13, u14, u15, u16, u17, u18, u19, u20, u21, u22, u23, u24, u25, u26, rfl⟩ := rog 27 h9 rfl; clear h9; try simp only [DepG, AtG, and_true, relG, eqG, eqG1, eqG2, eqG3, gdG, gdG1, gnG, gnG1, List.getD_cons_zero, List.getD_cons_succ, List.getElem?_cons_succ, List.getElem?_cons_zero, Option.map_some, Option.getD_some, valsG, List.map_cons, List.map_nil, List.length_cons, List.length_nil] at hd)
        · ((try clear hd); clear hs; simp only [fillG, List.set_cons_zero, List.set_cons_succ]; refine want_n rfl ?_; go_wp2_with (first | fail); simp only [DoneG, fillG, List.set_cons_zero, List.set_cons_succ, relG, eqG, eqG1, eqG2, eqG3, gdG, gdG1, gnG, gnG1, List.getD_cons_zero, List.getD_cons_succ, List.getElem?_cons_succ, List.getElem?_cons_zero, Option.map_some, Option.getD_some, valsG, List.map_cons, List.map_nil, List.length_cons, List.length_nil]; exact ⟨_, rfl, (by first | with_reducible assumption | exact krg _ | exact Keep.al (krg _) _), fun _ _ => rfl⟩)
        · (have d0 := hd; clear hd; subst d0; clear hs; simp only [fillG, List.set_cons_zero, List.set_cons_succ]; refine want_n rfl ?_; go_wp2_with (first | fail); simp only [DoneG, fillG, List.set_cons_zero, List.set_cons_succ, relG, eqG, eqG1, eqG2, eqG3, gdG, gdG1, gnG, gnG1, List.getD_cons_zero, List.getD_cons_succ, List.getElem?_cons_succ, List.getElem?_cons_zero, Option.map_some, Option.getD_some, valsG, List.map_cons, List.map_nil, List.length_cons, List.length_nil]; exact ⟨_, rfl, (by first | with_reducible assumption | exact krg _ | exact Keep.al (krg _) _), fun _ _ => rfl⟩)
        · (have d1 := hd; clear hd; subst d1; clear hs; simp only [fillG, List.set_cons_zero, List.set_cons_succ]; refine want_n rfl ?_; go_wp2_with (first | fail); simp only [DoneG, fillG, List.set_cons_zero, List.set_cons_succ, relG, eqG, eqG1, eqG2, eqG3, gdG, gdG1, gnG, gnG1, List.getD_cons_zero, List.getD_cons_succ, List.getElem?_cons_succ, List.getElem?_cons_zero, Option.map_some, Option.getD_some, valsG, List.map_cons, List.map_nil, List.length_cons, List.length_nil]; exact ⟨_, rfl, (by first | with_reducible assumption | exact krg _ | exact Keep.al (krg _) _), fun _ _ => rfl⟩)
        · (have d2 := hd; clear hd; subst d2; clear hs; simp only [fillG, List.set_cons_zero, List.set_cons_succ]; have hKW := Keep.tr (Keep.dr (Keep.rf _)) (hE rfl); have c2 := Keep.cell hKW c2; have c3 := Keep.cell hKW c3; refine want_n rfl ?_; go_wp2_with (first | fail); simp only [DoneG, fillG, List.set_cons_zero, List.set_cons_succ, relG, eqG, eqG1, eqG2, eqG3, gdG, gdG1, gnG, gnG1, List.getD_cons_zero, List.getD_cons_succ, List.getElem?_cons_succ, List.getElem?_cons_zero, Option.map_some, Option.getD_some, valsG, List.map_cons, List.map_nil, List.length_cons, List.length_nil]; exact ⟨_, rfl, (by first | with_reducible assumption | exact krg _ | exact Keep.al (krg _) _), fun _ _ => rfl⟩)
        · (have d3 := hd; clear hd; subst d3; clear hs; simp only [fillG, List.set_cons_zero, List.set_cons_succ]; refine want_n rfl ?_; go_wp2_with (first | fail); simp only [DoneG, fillG, List.set_cons_zero, List.set_cons_succ, relG, eqG, eqG1, eqG2, eqG3, gdG, gdG1, gnG, gnG1, List.getD_cons_zero, List.getD_cons_succ, List.getElem?_cons_succ, List.getElem?_cons_zero, Option.map_some, Option.getD_some, valsG, List.map_cons, List.map_nil, List.length_cons, List.length_nil]; exact ⟨_, rfl, (by first | with_reducible assumption | exact krg _ | exact Keep.al (krg _) _), fun _ _ => rfl⟩)
        · (have d4 := hd; clear hd; subst d4; clear hs; simp only [fillG, List.set_cons_zero, List.set_cons_succ]; refine want_n rfl ?_; go_wp2_with (first | fail); simp only [DoneG, fillG, List.set_cons_zero, List.set_cons_succ, relG, eqG, eqG1, eqG2, eqG3, gdG, gdG1, gnG, gnG1, List.getD_cons_zero, List.getD_cons_succ, List.getElem?_cons_succ, List.getElem?_cons_zero, Option.map_some, Option.getD_some, valsG, List.map_cons, List.map_nil, List.length_cons, List.length_nil]; exact ⟨_, rfl, (by first | with_reducible assumption | exact krg _ | exact Keep.al (krg _) _), fun _ _ => rfl⟩)
        · (have d5 := hd; clear hd; subst d5; clear hs; simp only [fillG, List.set_cons_zero, List.set_cons_succ]; refine want_y rfl ?_; go_wp2_with (first | fail); simp only [DoneG, fillG, List.set_cons_zero, List.set_cons_succ, relG, eqG, eqG1, eqG2, eqG3, gdG, gdG1, gnG, gnG1, List.getD_cons_zero, List.getD_cons_succ, List.getElem?_cons_succ, List.getElem?_cons_zero, Option.map_some, Option.getD_some, valsG, List.map_cons, List.map_nil, List.length_cons, List.length_nil]; exact ⟨_, rfl, (by first | with_reducible assumption | exact krg _ | exact Keep.al (krg _) _), fun _ _ => rfl⟩)
        · (have d5 := hd; clear hd; subst d5; clear hs; simp only [fillG, List.set_cons_zero, List.set_cons_succ]; refine want_y rfl ?_; go_wp2_with (first | fail); simp only [DoneG, fillG, List.set_cons_zero, List.set_cons_succ, relG, eqG, eqG1, eqG2, eqG3, gdG, gdG1, gnG, gnG1, List.getD_cons_zero, List.getD_cons_succ, List.getElem?_cons_succ, List.getElem?_cons_zero, Option.map_some, Option.getD_some, valsG, List.map_cons, List.map_nil, List.length_cons, List.length_nil]; exact ⟨_, rfl, (by first | with_reducible assumption | exact krg _ | exact Keep.al (krg _) _), fun _ _ => rfl⟩)
        · (obtain ⟨d5, d7⟩ := hd; subst d5; subst d7; clear hs; simp only [fillG, List.set_cons_zero, List.set_cons_succ]; refine want_y rfl ?_; go_wp2_with (first | fail); simp only [DoneG, fillG, List.set_cons_zero, List.set_cons_succ, relG, eqG, eqG1, eqG2, eqG3, gdG, gdG1, gnG, gnG1, List.getD_cons_zero, List.getD_cons_succ, List.getElem?_cons_succ, List.getElem?_cons_zero, Option.map_some, Option.getD_some, valsG, List.map_cons, List.map_nil, List.length_cons, List.length_nil]; exact ⟨_, rfl, (by first | with_reducible assumption | exact krg _ | exact Keep.al (krg _) _), fun _ _ => rfl⟩)
        · (obtain ⟨d5, d8⟩ := hd; subst d5; subst d8; clear hs; simp only [fillG, List.set_cons_zero, List.set_cons_succ]; refine want_y rfl ?_; go_wp2_with (first | fail); simp only [DoneG, fillG, List.set_cons_zero, List.set_cons_succ, relG, eqG, eqG1, eqG2, eqG3, gdG, gdG1, gnG, gnG1, List.getD_cons_zero, List.getD_cons_succ, List.getElem?_cons_succ, List.getElem?_cons_zero, Option.map_some, Option.getD_some, valsG, List.map_cons, List.map_nil, List.length_cons, List.length_nil]; exact ⟨_, rfl, (by first | with_reducible assumption | exact krg _ | exact Keep.al (krg _) _), fun _ _ => rfl⟩)
        · (obtain ⟨d5, d9⟩ := hd; subst d5; subst d9; clear hs; simp only [fillG, List.set_cons_zero, List.set_cons_succ]; have hKW := Keep.tr (Keep.dr (Keep.rf _)) (hE rfl); have c2 := Keep.cell hKW c2; have c3 := Keep.cell hKW c3; refine want_y rfl ?_; go_wp2_with (first | fail); simp only [DoneG, fillG, List.set_cons_zero, List.set_cons_succ, relG, eqG, eqG1, eqG2, eqG3, gdG, gdG1, gnG, gnG1, List.getD_cons_zero, List.getD_cons_succ, List.getElem?_cons_succ, List.getElem?_cons_zero, Option.map_some, Option.getD_some, valsG, List.map_cons, List.map_nil, List.length_cons, List.length_nil]; exact ⟨_, rfl, (by first | with_reducible assumption | exact krg _ | exact Keep.al (krg _) _), fun _ _ => rfl⟩)
        · (obtain ⟨d5, d10⟩ := hd; subst d5; subst d10; clear hs; simp only [fillG, List.set_cons_zero, List.set_cons_succ]; have hKW := Keep.tr (Keep.dr (Keep.rf _)) (hE rfl); have c2 := Keep.cell hKW c2; have c3 := Keep.cell hKW c3; refine want_y rfl ?_; go_wp2_with (first | fail); simp only [DoneG, fillG, List.set_cons_zero, List.set_cons_succ, relG, eqG, eqG1, eqG2, eqG3, gdG, gdG1, gnG, gnG1, List.getD_cons_zero, List.getD_cons_succ, List.getElem?_cons_succ, List.getElem?_cons_zero, Option.map_some, Option.getD_some, valsG, List.map_cons, List.map_nil, List.length_cons, List.length_nil]; exact ⟨_, rfl, (by first | with_reducible assumption | exact krg _ | exact Keep.al (krg _) _), fun _ _ => rfl⟩)
        · (obtain ⟨d5, d11⟩ := hd; subst d5; subst d11; clear hs; simp only [fillG, List.set_cons_zero, List.set_cons_succ]; refine want_y rfl ?_; go_wp2_with (first | fail); simp only [DoneG, fillG, List.set_cons_zero, List.set_cons_succ, relG, eqG, eqG1, eqG2, eqG3, gdG, gdG1, gnG, gnG1, List.getD_cons_zero, List.getD_cons_succ, List.getElem?_cons_succ, List.getElem?_cons_zero, Option.map_some, Option.getD_some, valsG, List.map_cons, List.map_nil, List.length_cons, List.length_nil]; exact ⟨_, rfl, (by first | with_reducible assumption | exact krg _ | exact Keep.al (krg _) _), fun _ _ => rfl⟩)
        · (obtain ⟨d5, d6, d12⟩ := hd; subst d5; subst d6; subst d12; clear hs; simp only [fillG, List.set_cons_zero, List.set_cons_succ]; refine want_y rfl ?_; go_wp2_with (first | fail); simp only [DoneG, fillG, List.set_cons_zero, List.set_cons_succ, relG, eqG, eqG1, eqG2, eqG3, gdG, gdG1, gnG, gnG1, List.getD_cons_zero, List.getD_cons_succ, List.getElem?_cons_succ, List.getElem?_cons_zero, Option.map_some, Option.getD_some, valsG, List.map_cons, List.map_nil, List.length_cons, List.length_nil]; exact ⟨_, rfl, (by first | with_reducible assumption | exact krg _ | exact Keep.al (krg _) _), fun _ _ => rfl⟩)
        · (obtain ⟨d5, d13⟩ := hd; subst d5; subst d13; clear hs; simp only [fillG, List.set_cons_zero, List.set_cons_succ]; refine want_n rfl ?_; go_wp2_with (first | fail); simp only [DoneG, fillG, List.set_cons_zero, List.set_cons_succ, relG, eqG, eqG1, eqG2, eqG3, gdG, gdG1, gnG, gnG1, List.getD_cons_zero, List.getD_cons_succ, List.getElem?_cons_succ, List.getElem?_cons_zero, Option.map_some, Option.getD_some, valsG, List.map_cons, List.map_nil, List.length_cons, List.length_nil]; exact ⟨_, rfl, (by first | with_reducible assumption | exact krg _ | exact Keep.al (krg _) _), fun _ _ => rfl⟩)
        · (have d14 := hd; clear hd; subst d14; clear hs; simp only [fillG, List.set_cons_zero, List.set_cons_succ]; refine want_n rfl ?_; go_wp2_with (first | fail); simp only [DoneG, fillG, List.set_cons_zero, List.set_cons_succ, relG, eqG, eqG1, eqG2, eqG3, gdG, gdG1, gnG, gnG1, List.getD_cons_zero, List.getD_cons_succ, List.getElem?_cons_succ, List.getElem?_cons_zero, Option.map_some, Option.getD_some, valsG, List.map_cons, List.map_nil, List.length_cons, List.length_nil]; exact ⟨_, rfl, (by first | with_reducible assumption | exact krg _ | exact Keep.al (krg _) _), fun _ _ => rfl⟩)
        · (have d15 := hd; clear hd; subst d15; clear hs; simp only [fillG, List.set_cons_zero, List.set_cons_succ]; refine want_f rfl ?_; refine hK _ _ ?_; simp only [DoneG, fillG, List.set_cons_zero, List.set_cons_succ, relG, eqG, eqG1, eqG2, eqG3, gdG, gdG1, gnG, gnG1, List.getD_cons_zero, List.getD_cons_succ, List.getElem?_cons_succ, List.getElem?_cons_zero, Option.map_some, Option.getD_some, valsG, List.map_cons, List.map_nil, List.length_cons, List.length_nil]; exact ⟨undef, rfl, krg _, fun _ _ => rfl⟩)
        · (obtain ⟨d15, d16⟩ := hd; subst d15; subst d16; clear hs; simp only [fillG, List.set_cons_zero, List.set_cons_succ]; refine want_f rfl ?_; refine hK _ _ ?_; simp only [DoneG, fillG, List.set_cons_zero, List.set_cons_succ, relG, eqG, eqG1, eqG2, eqG3, gdG, gdG1, gnG, gnG1, List.getD_cons_zero, List.getD_cons_succ, List.getElem?_cons_succ, List.getElem?_cons_zero, Option.map_some, Option.getD_some, valsG, List.map_cons, List.map_nil, List.length_cons, List.length_nil]; exact ⟨undef, rfl, krg _, fun _ _ => rfl⟩)
        · (obtain ⟨d15, d17⟩ := hd; subst d15; subst d17; clear hs; simp only [fillG, List.set_cons_zero, List.set_cons_succ]; refine want_f rfl ?_; refine hK _ _ ?_; simp only [DoneG, fillG, List.set_cons_zero, List.set_cons_succ, relG, eqG, eqG1, eqG2, eqG3, gdG, gdG1, gnG, gnG1, List.getD_cons_zero, List.getD_cons_succ, List.getElem?_cons_succ, List.getElem?_cons_zero, Option.map_some, Option.getD_some, valsG, List.map_cons, List.map_nil, List.length_cons, List.length_nil]; exact ⟨undef, rfl, krg _, fun _ _ => rfl⟩)
        · (obtain ⟨d15, d18⟩ := hd; subst d15; subst d18; clear hs; simp only [fillG, List.set_cons_zero, List.set_cons_succ]; have hKW := Keep.tr (Keep.dr (Keep.rf _)) (hE rfl); have c2 := Keep.cell hKW c2; have c3 := Keep.cell hKW c3; refine want_f rfl ?_; refine hK _ _ ?_; simp only [DoneG, fillG, List.set_cons_zero, List.set_cons_succ, relG, eqG, eqG1, eqG2, eqG3, gdG, gdG1, gnG, gnG1, List.getD_cons_zero, List.getD_cons_succ, List.getElem?_cons_succ, List.getElem?_cons_zero, Option.map_some, Option.getD_some, valsG, List.map_cons, List.map_nil, List.length_cons, List.length_nil]; exact ⟨undef, rfl, krg _, fun _ _ => rfl⟩)
        · (have d15 := hd; clear hd; subst d15; clear hs; simp only [fillG, List.set_cons_zero, List.set_cons_succ]; refine want_f rfl ?_; refine hK _ _ ?_; simp only [DoneG, fillG, List.set_cons_zero, List.set_cons_succ, relG, eqG, eqG1, eqG2, eqG3, gdG, gdG1, gnG, gnG1, List.getD_cons_zero, List.getD_cons_succ, List.getElem?_cons_succ, List.getElem?_cons_zero, Option.map_some, Option.getD_some, valsG, List.map_cons, List.map_nil, List.length_cons, List.length_nil]; exact ⟨undef, rfl, krg _, fun _ _ => rfl⟩)
        · (obtain ⟨d15, d19, d20⟩ := hd; subst d15; subst d19; subst d20; clear hs; simp only [fillG, List.set_cons_zero, List.set_cons_succ]; refine want_f rfl ?_; refine hK _ _ ?_; simp only [DoneG, fillG, List.set_cons_zero, List.set_cons_succ, relG, eqG, eqG1, eqG2, eqG3, gdG, gdG1, gnG, gnG1, List.getD_cons_zero, List.getD_cons_succ, List.getElem?_cons_succ, List.getElem?_cons_zero, Option.map_some, Option.getD_some, valsG, List.map_cons, List.map_nil, List.length_cons, List.length_nil]; exact ⟨undef, rfl, krg _, fun _ _ => rfl⟩)
        · (obtain ⟨d15, d21⟩ := hd; subst d15; subst d21; clear hs; simp only [fillG, List.set_cons_zero, List.set_cons_succ]; have hKW := Keep.tr (Keep.dr (Keep.rf _)) (hE rfl); have c2 := Keep.cell hKW c2; have c3 := Keep.cell hKW c3; refine want_f rfl ?_; refine hK _ _ ?_; simp only [DoneG, fillG, List.set_cons_zero, List.set_cons_succ, relG, eqG, eqG1, eqG2, eqG3, gdG, gdG1, gnG, gnG1, List.getD_cons_zero, List.getD_cons_succ, List.getElem?_cons_succ, List.getElem?_cons_zero, Option.map_some, Option.getD_some, valsG, List.map_cons, List.map_nil, List.length_cons, List.length_nil]; exact ⟨undef, rfl, krg _, fun _ _ => rfl⟩)
        · (have d15 := hd; clear hd; subst d15; clear hs; simp only [fillG, List.set_cons_zero, List.set_cons_succ]; have hKW := Keep.tr (Keep.dr (Keep.rf _)) (hE rfl); have c2 := Keep.cell hKW c2; have c3 := Keep.cell hKW c3; refine want_f rfl ?_; refine hK _ _ ?_; simp only [DoneG, fillG, List.set_cons_zero, List.set_cons_succ, relG, eqG, eqG1, eqG2, eqG3, gdG, gdG1, gnG, gnG1, List.getD_cons_zero, List.getD_cons_succ, List.getElem?_cons_succ, List.getElem?_cons_zero, Option.map_some, Option.getD_some, valsG, List.map_cons, List.map_nil, List.length_cons, List.length_nil]; exact ⟨undef, rfl, krg _, fun _ _ => rfl⟩)
        · (obtain ⟨d15, d22, d23⟩ := hd; subst d15; subst d22; subst d23; clear hs; simp only [fillG, List.set_cons_zero, List.set_cons_succ]; have hKW := Keep.tr (Keep.dr (Keep.rf _)) (hE rfl); have c2 := Keep.cell hKW c2; have c3 := Keep.cell hKW c3; refine want_f rfl ?_; refine hK _ _ ?_; simp only [DoneG, fillG, List.set_cons_zero, List.set_cons_succ, relG, eqG, eqG1, eqG2, eqG3, gdG, gdG1, gnG, gnG1, List.getD_cons_zero, List.getD_cons_succ, List.getElem?_cons_succ, List.getElem?_cons_zero, Option.map_some, Option.getD_some, valsG, List.map_cons, List.map_nil, List.length_cons, List.length_nil]; exact ⟨undef, rfl, krg _, fun _ _ => rfl⟩)
        · (obtain ⟨d15, d24⟩ := hd; subst d15; subst d24; clear hs; simp only [fillG, List.set_cons_zero, List.set_cons_succ]; refine want_f rfl ?_; refine hK _ _ ?_; simp only [DoneG, fillG, List.set_cons_zero, List.set_cons_succ, relG, eqG, eqG1, eqG2, eqG3, gdG, gdG1, gnG, gnG1, List.getD_cons_zero, List.getD_cons_succ, List.getElem?_cons_succ, List.getElem?_cons_zero, Option.map_some, Option.getD_some, valsG, List.map_cons, List.map_nil, List.length_cons, List.length_nil]; exact ⟨undef, rfl, krg _, fun _ _ => rfl⟩)
        · (obtain ⟨d15, d25⟩ := hd; subst d15; subst d25; clear hs; simp only [fillG, List.set_cons_zero, List.set_cons_succ]; refine want_n rfl ?_; go_wp2_with (first | fail); simp only [DoneG, fillG, List.set_cons_zero, List.set_cons_succ, relG, eqG, eqG1, eqG2, eqG3, gdG, gdG1, gnG, gnG1, List.getD_cons_zero, List.getD_cons_succ, List.getElem?_cons_succ, List.getElem?_cons_zero, Option.map_some, Option.getD_some, valsG, List.map_cons, List.map_nil, List.length_cons, List.length_nil]; exact ⟨_, rfl, (by first | with_reducible assumption | exact krg _ | exact Keep.al (krg _) _), fun _ _ => rfl⟩)
      (intro us W h9 hW hE hA; obtain ⟨u0, u1, u2, u3, u4, u5, u6, u7, u8, u9, u10, u11, u12, u13, u14, u15, u16, u17, u18, u19, u20, u21, u22, u23, u24, u25, u26, rfl⟩ := rog 27 h9 rfl; clear h9; simp only [AllG, AtG, and_true, relG, eqG, eqG1, eqG2, eqG3, gdG, gdG1, gnG, gnG1, List.getD_cons_zero, List.getD_cons_succ, List.getElem?_cons_succ, List.getElem?_cons_zero, Option.map_some, Option.getD_some, valsG, List.map_cons, List.map_nil, List.length_cons, List.length_nil] at hA; have d26 := hA; clear hA; subst d26; simp only [fillG, List.set_cons_zero, List.set_cons_succ]; have hKW := Keep.tr (Keep.dr (Keep.rf _)) hW; clear hW hE)
      have hM4 := HM3.out.keep hKW
      have HF := hide (rvFail 2 hM4)
      have hR4 := (hKW.frm fun _ => False).heap (fun h => h) HR3.out
      have HR4 := hide hR4
      have HK4 := hide hKW
      clear hR4 hKW hM4
      go_wp2_with fail
      refine HF.out.mono ?_
      rintro e w5 ⟨rfl, hm5, hw5⟩
      rw [failE_0] at hm5
      have HNR4 := hide HNR3.out
      have hR5 := hw5.heap HNR3.out HR4.out
      have HNR5 := hide (hw5.out (Nat.lt_of_lt_of_le HRL3.out HK4.out.size) HNR3.out)
      have r0 := top_cells hR5 0
      have r1 := top_cells hR5 1
      have f0 := top_free hR5 0
      have f1 := top_free hR5 1
      simp only [List.getElem?_toArray, List.getElem?_cons_succ, List.getElem?_cons_zero] at r0 r1
      have HR5 := hide hR5
      have HM5 := hide hm5
      have HW5 := hide ((HW3.out.tr (RWent.of_keep HK4.out)).tr hw5)
      clear hR5 hm5 hw5 HF
      go_wp2_with fail
      refine bodyPost_ret_by (results_cell_row rfl _ _ (w.heap.size + 1) 59 _ (0, 0) _ rfl (heap_set2R HR5.out _ _) Tryz.underlying59 rfl ?_) rfl ?_
      · kernel_rfl
      · rw [HX2.out]
        exact ⟨(false, 0), s1, 2, rfl, (by decide : (Lit.int .i64 0).wf = true), ⟨Z, _, _, its, tys, ⟨_, HM5.out.far (frm_set2R _ _ _ _) HNR5.out H0R.out⟩, HW5.out.far (by omega) (frm_set2R _ _ _ _)⟩, .inr ⟨.inl rfl, rfl⟩⟩
    · obtain ⟨t', ht'⟩ : ∃ t', s1.ty[i]? = some t' := ⟨_, List.getElem?_eq_getElem (by omega)⟩
      obtain ⟨hil, g, c', d', o', n', A', m', c2', etv0, hty, x0, x1, x2⟩ := HM3.out.ty_at ht'
      have etv : A9 = some ⟨g, 0, none⟩ := by injection etv0
      clear etv0
      subst etv
      have hili : (i : Int) < (tys.length : Int) := by omega
      have hln1 : i < tys.length := by omega
      have hln2 : decide (tys.length ≤ i) = false := decide_eq_false (by omega)
      have hln3 : decide (i < tys.length) = true := decide_eq_true (by omega)
      have hle1 : decide ((tys.length : Int) ≤ (i : Int)) = false := decide_eq_false (by omega)
      have hle2 : decide ((i : Int) ≥ (tys.length : Int)) = false := decide_eq_false (by omega)
      have hle4 : ((tys.length : Int) ≤ (i : Int)) = False := eq_false (by omega)
      have hle5 : ((i : Int) ≥ (tys.length : Int)) = False := eq_false (by omega)
      have HTY := hide hty
      have HX1 := hide (show ∀ t, Em.refV t (i + 1) s1 = if Em.eqT t' t = true then .ok (false, (i : Int)) s1 else .err 2 from fun t => by
        unfold Em.refV
        rw [Nat.add_sub_cancel, ht'])
      obtain ⟨bb, HE⟩ : ∃ bb, Hid (Em.eqT t' (.mk [108, 105, 115, 116] n ks) = bb) := ⟨_, hide rfl⟩
      clear hl1 hl2 hl3 hl4 ht' hty
      go_wp2_with fail
      apply region_all (by kernel_rfl) Keep Keep krg ktg krg ktg (fun _ _ h => h) [some 36, some 37, some 38, some 39, some 40, some 41, some 42, some 43, some 44, some 45, some 46, some 47, some 48, some 49, some 50, some 51, some 52, some 53, some 54, some 55, some 56, some 57, some 58, some 59, some 60, some 61, some 62] [eqG _ , eqG _ , eqG _ , eqG _ , eqG _ , eqG _ , eqG _ , eqG _ , eqG _ , eqG _ , eqG _ , eqG _ , eqG _ , eqG _ , eqG _ , eqG _ , eqG _ , eqG _ , eqG _ , eqG _ , eqG _ , eqG _ , eqG _ , eqG _ , fun us _ v => v = .bool bb, eqG _ , eqG _ ] [⟨[], [], true, false, false⟩, ⟨[0], [], true, false, false⟩, ⟨[1], [], true, false, false⟩, ⟨[2], [], true, false, false⟩, ⟨[3], [], true, false, false⟩, ⟨[4], [], true, false, false⟩, ⟨[5], [], true, false, false⟩, ⟨[5], [], true, false, false⟩, ⟨[5, 7], [], true, false, false⟩, ⟨[5, 8], [], true, false, false⟩, ⟨[5, 9], [], true, false, false⟩, ⟨[5, 10], [], true, false, false⟩, ⟨[5, 11], [], true, false, false⟩, ⟨[5, 6, 12], [], true, false, false⟩, ⟨[5, 13], [], true, false, false⟩, ⟨[14], [], true, false, false⟩, ⟨[15], [], true, false, false⟩, ⟨[15, 16], [], true, false, false⟩, ⟨[15, 17], [], true, false, false⟩, ⟨[15, 18], [], true, false, false⟩, ⟨[15], [], true, false, false⟩, ⟨[15, 19, 20], [], true, false, false⟩, ⟨[15, 21], [], true, false, false⟩, ⟨[15], [], true, false, false⟩, ⟨[15, 22, 23], [], true, false, false⟩, ⟨[15, 24], [], true, false, false⟩, ⟨[15, 25], [], true, false, false⟩] [26] (by kernel_rfl) (by kernel_rfl) 
      · refine ⟨?_, ?_, ?_, ?_, ?_, ?_, ?_, ?_, ?_, ?_, ?_, ?_, ?_, ?_, ?_, ?_, ?_, ?_, ?_, ?_, ?_, ?_, ?_, ?_, ?_, ?_, ?_, trivial⟩ <;> (intro us W h9 hW hE hd hs K hK; obtain ⟨u0, u1, u2, u3, u4, u5, u6, u7, u8, u9, u10, u11, u12, u13, u14, u15, u16, u17, u18, u19, u20, u21, u22, u23, u24, u25, u26, rfl⟩ := rog 27 h9 rfl; clear h9; try simp only [DepG, AtG, and_true, relG, eqG, eqG1, eqG2, eqG3, gdG, gdG1, gnG, gnG1, List.getD_cons_zero, List.getD_cons_succ, List.getElem?_cons_succ, List.getElem?_cons_zero, Option.map_some, Option.getD_some, valsG, List.map_cons, List.map_nil, List.length_cons, List.length_nil] at hd)
        · ((try clear hd); clear hs; simp only [fillG, List.set_cons_zero, List.set_cons_succ]; refine want_n rfl ?_; go_wp2_with (first | fail); simp only [DoneG, fillG, List.set_cons_zero, List.set_cons_succ, relG, eqG, eqG1, eqG2, eqG3, gdG, gdG1, gnG, gnG1, List.getD_cons_zero, List.getD_cons_succ, List.getElem?_cons_succ, List.getElem?_cons_zero, Option.map_some, Option.getD_some, valsG, List.map_cons, List.map_nil, List.length_cons, List.length_nil]; exact ⟨_, rfl, (by first | with_reducible assumption | exact krg _ | exact Keep.al (krg _) _), fun _ _ => rfl⟩)
        · (have d0 := hd; clear hd; subst d0; clear hs; simp only [fillG, List.set_cons_zero, List.set_cons_succ]; refine want_n rfl ?_; go_wp2_with (first | fail); simp only [DoneG, fillG, List.set_cons_zero, List.set_cons_succ, relG, eqG, eqG1, eqG2, eqG3, gdG, gdG1, gnG, gnG1, List.getD_cons_zero, List.getD_cons_succ, List.getElem?_cons_succ, List.getElem?_cons_zero, Option.map_some, Option.getD_some, valsG, List.map_cons, List.map_nil, List.length_cons, List.length_nil]; exact ⟨_, rfl, (by first | with_reducible assumption | exact krg _ | exact Keep.al (krg _) _), fun _ _ => rfl⟩)
        · (have d1 := hd; clear hd; subst d1; clear hs; simp only [fillG, List.set_cons_zero, List.set_cons_succ]; refine want_n rfl ?_; go_wp2_with (first | fail); simp only [DoneG, fillG, List.set_cons_zero, List.set_cons_succ, relG, eqG, eqG1, eqG2, eqG3, gdG, gdG1, gnG, gnG1, List.getD_cons_zero, List.getD_cons_succ, List.getElem?_cons_succ, List.getElem?_cons_zero, Option.map_some, Option.getD_some, valsG, List.map_cons, List.map_nil, List.length_cons, List.length_nil]; exact ⟨_, rfl, (by first | with_reducible assumption | exact krg _ | exact Keep.al (krg _) _), fun _ _ => rfl⟩)
        · (have d2 := hd; clear hd; subst d2; clear hs; simp only [fillG, List.set_cons_zero, List.set_cons_succ]; have hKW := Keep.tr (Keep.dr (Keep.rf _)) (hE rfl); have c2 := Keep.cell hKW c2; have c3 := Keep.cell hKW c3; have b0 := Keep.cell hKW b0; have b1 := Keep.cell hKW b1; have b2 := Keep.cell hKW b2; have x0 := Keep.cell hKW x0; have x1 := Keep.cell hKW x1; have x2 := Keep.cell hKW x2; refine want_n rfl ?_; go_wp2_with (first | fail); simp only [DoneG, fillG, List.set_cons_zero, List.set_cons_succ, relG, eqG, eqG1, eqG2, eqG3, gdG, gdG1, gnG, gnG1, List.getD_cons_zero, List.getD_cons_succ, List.getElem?_cons_succ, List.getElem?_cons_zero, Option.map_some, Option.getD_some, valsG, List.map_cons, List.map_nil, List.length_cons, List.length_nil]; exact ⟨_, rfl, (by first | with_reducible assumption | exact krg _ | exact Keep.al (krg _) _), fun _ _ => rfl⟩)
        · (have d3 := hd; clear hd; subst d3; clear hs; simp only [fillG, List.set_cons_zero, List.set_cons_succ]; refine want_n rfl ?_; go_wp2_with (first | fail); simp only [DoneG, fillG, List.set_cons_zero, List.set_cons_succ, relG, eqG, eqG1, eqG2, eqG3, gdG, gdG1, gnG, gnG1, List.getD_cons_zero, List.getD_cons_succ, List.getElem?_cons_succ, List.getElem?_cons_zero, Option.map_some, Option.getD_some, valsG, List.map_cons, List.map_nil, List.length_cons, List.length_nil]; exact ⟨_, rfl, (by first | with_reducible assumption | exact krg _ | exact Keep.al (krg _) _), fun _ _ => rfl⟩)
        · (have d4 := hd; clear hd; subst d4; clear hs; simp only [fillG, List.set_cons_zero, List.set_cons_succ]; refine want_n rfl ?_; go_wp2_with (first | fail); simp only [DoneG, fillG, List.set_cons_zero, List.set_cons_succ, relG, eqG, eqG1, eqG2, eqG3, gdG, gdG1, gnG, gnG1, List.getD_cons_zero, List.getD_cons_succ, List.getElem?_cons_succ, List.getElem?_cons_zero, Option.map_some, Option.getD_some, valsG, List.map_cons, List.map_nil, List.length_cons, List.length_nil]; exact ⟨_, rfl, (by first | with_reducible assumption | exact krg _ | exact Keep.al (krg _) _), fun _ _ => rfl⟩)
        · (have d5 := hd; clear hd; subst d5; clear hs; simp only [fillG, List.set_cons_zero, List.set_cons_succ]; refine want_y rfl ?_; go_wp2_with (first | fail); simp only [DoneG, fillG, List.set_cons_zero, List.set_cons_succ, relG, eqG, eqG1, eqG2, eqG3, gdG, gdG1, gnG, gnG1, List.getD_cons_zero, List.getD_cons_succ, List.getElem?_cons_succ, List.getElem?_cons_zero, Option.map_some, Option.getD_some, valsG, List.map_cons, List.map_nil, List.length_cons, List.length_nil]; exact ⟨_, rfl, (by first | with_reducible assumption | exact krg _ | exact Keep.al (krg _) _), fun _ _ => rfl⟩)
        · (have d5 := hd; clear hd; subst d5; clear hs; simp only [fillG, List.set_cons_zero, List.set_cons_succ]; refine want_y rfl ?_; go_wp2_with (first | fail); simp only [DoneG, fillG, List.set_cons_zero, List.set_cons_succ, relG, eqG, eqG1, eqG2, eqG3, gdG, gdG1, gnG, gnG1, List.getD_cons_zero, List.getD_cons_succ, List.getElem?_cons_succ, List.getElem?_cons_zero, Option.map_some, Option.getD_some, valsG, List.map_cons, List.map_nil, List.length_cons, List.length_nil]; exact ⟨_, rfl, (by first | with_reducible assumption | exact krg _ | exact Keep.al (krg _) _), fun _ _ => rfl⟩)
        · (obtain ⟨d5, d7⟩ := hd; subst d5; subst d7; clear hs; simp only [fillG, List.set_cons_zero, List.set_cons_succ]; refine want_y rfl ?_; go_wp2_with (first | fail); simp only [DoneG, fillG, List.set_cons_zero, List.set_cons_succ, relG, eqG, eqG1, eqG2, eqG3, gdG, gdG1, gnG, gnG1, List.getD_cons_zero, List.getD_cons_succ, List.getElem?_cons_succ, List.getElem?_cons_zero, Option.map_some, Option.getD_some, valsG, List.map_cons, List.map_nil, List.length_cons, List.length_nil]; exact ⟨_, rfl, (by first | with_reducible assumption | exact krg _ | exact Keep.al (krg _) _), fun _ _ => rfl⟩)
        · (obtain ⟨d5, d8⟩ := hd; subst d5; subst d8; clear hs; simp only [fillG, List.set_cons_zero, List.set_cons_succ]; refine want_y rfl ?_; go_wp2_with (first | fail); simp only [DoneG, fillG, List.set_cons_zero, List.set_cons_succ, relG, eqG, eqG1, eqG2, eqG3, gdG, gdG1, gnG, gnG1, List.getD_cons_zero, List.getD_cons_succ, List.getElem?_cons_succ, List.getElem?_cons_zero, Option.map_some, Option.getD_some, valsG, List.map_cons, List.map_nil, List.length_cons, List.length_nil]; exact ⟨_, rfl, (by first | with_reducible assumption | exact krg _ | exact Keep.al (krg _) _), fun _ _ => rfl⟩)
        · (obtain ⟨d5, d9⟩ := hd; subst d5; subst d9; clear hs; simp only [fillG, List.set_cons_zero, List.set_cons_succ]; have hKW := Keep.tr (Keep.dr (Keep.rf _)) (hE rfl); have c2 := Keep.cell hKW c2; have c3 := Keep.cell hKW c3; have b0 := Keep.cell hKW b0; have b1 := Keep.cell hKW b1; have b2 := Keep.cell hKW b2; have x0 := Keep.cell hKW x0; have x1 := Keep.cell hKW x1; have x2 := Keep.cell hKW x2; refine want_y rfl ?_; go_wp2_with (first | fail); simp only [DoneG, fillG, List.set_cons_zero, List.set_cons_succ, relG, eqG, eqG1, eqG2, eqG3, gdG, gdG1, gnG, gnG1, List.getD_cons_zero, List.getD_cons_succ, List.getElem?_cons_succ, List.getElem?_cons_zero, Option.map_some, Option.getD_some, valsG, List.map_cons, List.map_nil, List.length_cons, List.length_nil]; exact ⟨_, rfl, (by first | with_reducible assumption | exact krg _ | exact Keep.al (krg _) _), fun _ _ => rfl⟩)
        · (obtain ⟨d5, d10⟩ := hd; subst d5; subst d10; clear hs; simp only [fillG, List.set_cons_zero, List.set_cons_succ]; have hKW := Keep.tr (Keep.dr (Keep.rf _)) (hE rfl); have c2 := Keep.cell hKW c2; have c3 := Keep.cell hKW c3; have b0 := Keep.cell hKW b0; have b1 := Keep.cell hKW b1; have b2 := Keep.cell hKW b2; have x0 := Keep.cell hKW x0; have x1 := Keep.cell hKW x1; have x2 := Keep.cell hKW x2; refine want_y rfl ?_; go_wp2_with (first | fail); simp only [DoneG, fillG, List.set_cons_zero, List.set_cons_succ, relG, eqG, eqG1, eqG2, eqG3, gdG, gdG1, gnG, gnG1, List.getD_cons_zero, List.getD_cons_succ, List.getElem?_cons_succ, List.getElem?_cons_zero, Option.map_some, Option.getD_some, valsG, List.map_cons, List.map_nil, List.length_cons, List.length_nil]; exact ⟨_, rfl, (by first | with_reducible assumption | exact krg _ | exact Keep.al (krg _) _), fun _ _ => rfl⟩)
        · (obtain ⟨d5, d11⟩ := hd; subst d5; subst d11; clear hs; simp only [fillG, List.set_cons_zero, List.set_cons_succ]; refine want_y rfl ?_; go_wp2_with (first | fail); simp only [DoneG, fillG, List.set_cons_zero, List.set_cons_succ, relG, eqG, eqG1, eqG2, eqG3, gdG, gdG1, gnG, gnG1, List.getD_cons_zero, List.getD_cons_succ, List.getElem?_cons_succ, List.getElem?_cons_zero, Option.map_some, Option.getD_some, valsG, List.map_cons, List.map_nil, List.length_cons, List.length_nil]; exact ⟨_, rfl, (by first | with_reducible assumption | exact krg _ | exact Keep.al (krg _) _), fun _ _ => rfl⟩)
        · (obtain ⟨d5, d6, d12⟩ := hd; subst d5; subst d6; subst d12; clear hs; simp only [fillG, List.set_cons_zero, List.set_cons_succ]; refine want_y rfl ?_; go_wp2_with (first | fail); simp only [DoneG, fillG, List.set_cons_zero, List.set_cons_succ, relG, eqG, eqG1, eqG2, eqG3, gdG, gdG1, gnG, gnG1, List.getD_cons_zero, List.getD_cons_succ, List.getElem?_cons_succ, List.getElem?_cons_zero, Option.map_some, Option.getD_some, valsG, List.map_cons, List.map_nil, List.length_cons, List.length_nil]; exact ⟨_, rfl, (by first | with_reducible assumption | exact krg _ | exact Keep.al (krg _) _), fun _ _ => rfl⟩)
        · (obtain ⟨d5, d13⟩ := hd; subst d5; subst d13; clear hs; simp only [fillG, List.set_cons_zero, List.set_cons_succ]; refine want_n rfl ?_; go_wp2_with (first | fail); simp only [DoneG, fillG, List.set_cons_zero, List.set_cons_succ, relG, eqG, eqG1, eqG2, eqG3, gdG, gdG1, gnG, gnG1, List.getD_cons_zero, List.getD_cons_succ, List.getElem?_cons_succ, List.getElem?_cons_zero, Option.map_some, Option.getD_some, valsG, List.map_cons, List.map_nil, List.length_cons, List.length_nil]; exact ⟨_, rfl, (by first | with_reducible assumption | exact krg _ | exact Keep.al (krg _) _), fun _ _ => rfl⟩)
        · (have d14 := hd; clear hd; subst d14; clear hs; simp only [fillG, List.set_cons_zero, List.set_cons_succ]; refine want_n rfl ?_; go_wp2_with (first | fail); simp only [DoneG, fillG, List.set_cons_zero, List.set_cons_succ, relG, eqG, eqG1, eqG2, eqG3, gdG, gdG1, gnG, gnG1, List.getD_cons_zero, List.getD_cons_succ, List.getElem?_cons_succ, List.getElem?_cons_zero, Option.map_some, Option.getD_some, valsG, List.map_cons, List.map_nil, List.length_cons, List.length_nil]; exact ⟨_, rfl, (by first | with_reducible assumption | exact krg _ | exact Keep.al (krg _) _), fun _ _ => rfl⟩)
        · (have d15 := hd; clear hd; subst d15; clear hs; simp only [fillG, List.set_cons_zero, List.set_cons_succ]; refine want_y rfl ?_; go_wp2_with (first | fail); simp only [DoneG, fillG, List.set_cons_zero, List.set_cons_succ, relG, eqG, eqG1, eqG2, eqG3, gdG, gdG1, gnG, gnG1, List.getD_cons_zero, List.getD_cons_succ, List.getElem?_cons_succ, List.getElem?_cons_zero, Option.map_some, Option.getD_some, valsG, List.map_cons, List.map_nil, List.length_cons, List.length_nil]; exact ⟨_, rfl, (by first | with_reducible assumption | exact krg _ | exact Keep.al (krg _) _), fun _ _ => rfl⟩)
        · (obtain ⟨d15, d16⟩ := hd; subst d15; subst d16; clear hs; simp only [fillG, List.set_cons_zero, List.set_cons_succ]; refine want_y rfl ?_; go_wp2_with (first | fail); simp only [DoneG, fillG, List.set_cons_zero, List.set_cons_succ, relG, eqG, eqG1, eqG2, eqG3, gdG, gdG1, gnG, gnG1, List.getD_cons_zero, List.getD_cons_succ, List.getElem?_cons_succ, List.getElem?_cons_zero, Option.map_some, Option.getD_some, valsG, List.map_cons, List.map_nil, List.length_cons, List.length_nil]; exact ⟨_, rfl, (by first | with_reducible assumption | exact krg _ | exact Keep.al (krg _) _), fun _ _ => rfl⟩)
        · (obtain ⟨d15, d17⟩ := hd; subst d15; subst d17; clear hs; simp only [fillG, List.set_cons_zero, List.set_cons_succ]; refine want_y rfl ?_; go_wp2_with (first | fail); simp only [DoneG, fillG, List.set_cons_zero, List.set_cons_succ, relG, eqG, eqG1, eqG2, eqG3, gdG, gdG1, gnG, gnG1, List.getD_cons_zero, List.getD_cons_succ, List.getElem?_cons_succ, List.getElem?_cons_zero, Option.map_some, Option.getD_some, valsG, List.map_cons, List.map_nil, List.length_cons, List.length_nil]; exact ⟨_, rfl, (by first | with_reducible assumption | exact krg _ | exact Keep.al (krg _) _), fun _ _ => rfl⟩)
        · (obtain ⟨d15, d18⟩ := hd; subst d15; subst d18; clear hs; simp only [fillG, List.set_cons_zero, List.set_cons_succ]; have hKW := Keep.tr (Keep.dr (Keep.rf _)) (hE rfl); have c2 := Keep.cell hKW c2; have c3 := Keep.cell hKW c3; have b0 := Keep.cell hKW b0; have b1 := Keep.cell hKW b1; have b2 := Keep.cell hKW b2; have x0 := Keep.cell hKW x0; have x1 := Keep.cell hKW x1; have x2 := Keep.cell hKW x2; refine want_y rfl ?_; go_wp2_with (first | fail); simp only [DoneG, fillG, List.set_cons_zero, List.set_cons_succ, relG, eqG, eqG1, eqG2, eqG3, gdG, gdG1, gnG, gnG1, List.getD_cons_zero, List.getD_cons_succ, List.getElem?_cons_succ, List.getElem?_cons_zero, Option.map_some, Option.getD_some, valsG, List.map_cons, List.map_nil, List.length_cons, List.length_nil]; exact ⟨_, rfl, (by first | with_reducible assumption | exact krg _ | exact Keep.al (krg _) _), fun _ _ => rfl⟩)
        · (have d15 := hd; clear hd; subst d15; clear hs; simp only [fillG, List.set_cons_zero, List.set_cons_succ]; refine want_y rfl ?_; go_wp2_with (first | fail); simp only [DoneG, fillG, List.set_cons_zero, List.set_cons_succ, relG, eqG, eqG1, eqG2, eqG3, gdG, gdG1, gnG, gnG1, List.getD_cons_zero, List.getD_cons_succ, List.getElem?_cons_succ, List.getElem?_cons_zero, Option.map_some, Option.getD_some, valsG, List.map_cons, List.map_nil, List.length_cons, List.length_nil]; exact ⟨_, rfl, (by first | with_reducible assumption | exact krg _ | exact Keep.al (krg _) _), fun _ _ => rfl⟩)
        · (obtain ⟨d15, d19, d20⟩ := hd; subst d15; subst d19; subst d20; clear hs; simp only [fillG, List.set_cons_zero, List.set_cons_succ]; refine want_y rfl ?_; go_wp2_with (first | fail); simp only [DoneG, fillG, List.set_cons_zero, List.set_cons_succ, relG, eqG, eqG1, eqG2, eqG3, gdG, gdG1, gnG, gnG1, List.getD_cons_zero, List.getD_cons_succ, List.getElem?_cons_succ, List.getElem?_cons_zero, Option.map_some, Option.getD_some, valsG, List.map_cons, List.map_nil, List.length_cons, List.length_nil]; exact ⟨_, rfl, (by first | with_reducible assumption | exact krg _ | exact Keep.al (krg _) _), fun _ _ => rfl⟩)
        · (obtain ⟨d15, d21⟩ := hd; subst d15; subst d21; clear hs; simp only [fillG, List.set_cons_zero, List.set_cons_succ]; have hKW := Keep.tr (Keep.dr (Keep.rf _)) (hE rfl); have c2 := Keep.cell hKW c2; have c3 := Keep.cell hKW c3; have b0 := Keep.cell hKW b0; have b1 := Keep.cell hKW b1; have b2 := Keep.cell hKW b2; have x0 := Keep.cell hKW x0; have x1 := Keep.cell hKW x1; have x2 := Keep.cell hKW x2; refine want_y rfl ?_; go_wp2_with (first | fail); simp only [DoneG, fillG, List.set_cons_zero, List.set_cons_succ, relG, eqG, eqG1, eqG2, eqG3, gdG, gdG1, gnG, gnG1, List.getD_cons_zero, List.getD_cons_succ, List.getElem?_cons_succ, List.getElem?_cons_zero, Option.map_some, Option.getD_some, valsG, List.map_cons, List.map_nil, List.length_cons, List.length_nil]; exact ⟨_, rfl, (by first | with_reducible assumption | exact krg _ | exact Keep.al (krg _) _), fun _ _ => rfl⟩)
        · (have d15 := hd; clear hd; subst d15; clear hs; simp only [fillG, List.set_cons_zero, List.set_cons_succ]; have hKW := Keep.tr (Keep.dr (Keep.rf _)) (hE rfl); have c2 := Keep.cell hKW c2; have c3 := Keep.cell hKW c3; have b0 := Keep.cell hKW b0; have b1 := Keep.cell hKW b1; have b2 := Keep.cell hKW b2; have x0 := Keep.cell hKW x0; have x1 := Keep.cell hKW x1; have x2 := Keep.cell hKW x2; refine want_y rfl ?_; go_wp2_with (first | fail); simp only [DoneG, fillG, List.set_cons_zero, List.set_cons_succ, relG, eqG, eqG1, eqG2, eqG3, gdG, gdG1, gnG, gnG1, List.getD_cons_zero, List.getD_cons_succ, List.getElem?_cons_succ, List.getElem?_cons_zero, Option.map_some, Option.getD_some, valsG, List.map_cons, List.map_nil, List.length_cons, List.length_nil]; exact ⟨_, rfl, (by first | with_reducible assumption | exact krg _ | exact Keep.al (krg _) _), fun _ _ => rfl⟩)
        · (obtain ⟨d15, d22, d23⟩ := hd; subst d15; subst d22; subst d23; clear hs; simp only [fillG, List.set_cons_zero, List.set_cons_succ]; have hKW := Keep.tr (Keep.dr (Keep.rf _)) (hE rfl); have c2 := Keep.cell hKW c2; have c3 := Keep.cell hKW c3; have b0 := Keep.cell hKW b0; have b1 := Keep.cell hKW b1; have b2 := Keep.cell hKW b2; have x0 := Keep.cell hKW x0; have x1 := Keep.cell hKW x1; have x2 := Keep.cell hKW x2; refine want_y rfl ?_; go_wp2_with (first | (go_at_call 60; refine (refSameT _ _ _ _ _ ⟨_, _, rfl, HTY.out.keep hKW⟩ ⟨_, _, rfl, HT3.out.ty.keep hKW⟩).mono ?_; rintro e w9 ⟨rfl, k9⟩; rw [HE.out]) | fail); simp only [DoneG, fillG, List.set_cons_zero, List.set_cons_succ, relG, eqG, eqG1, eqG2, eqG3, gdG, gdG1, gnG, gnG1, List.getD_cons_zero, List.getD_cons_succ, List.getElem?_cons_succ, List.getElem?_cons_zero, Option.map_some, Option.getD_some, valsG, List.map_cons, List.map_nil, List.length_cons, List.length_nil]; exact ⟨_, rfl, (by first | with_reducible assumption | exact krg _ | exact Keep.al (krg _) _), fun W9 hk9 => rfl⟩)
        · (obtain ⟨d15, d24⟩ := hd; subst d15; subst d24; clear hs; simp only [fillG, List.set_cons_zero, List.set_cons_succ]; refine want_y rfl ?_; go_wp2_with (first | fail); simp only [DoneG, fillG, List.set_cons_zero, List.set_cons_succ, relG, eqG, eqG1, eqG2, eqG3, gdG, gdG1, gnG, gnG1, List.getD_cons_zero, List.getD_cons_succ, List.getElem?_cons_succ, List.getElem?_cons_zero, Option.map_some, Option.getD_some, valsG, List.map_cons, List.map_nil, List.length_cons, List.length_nil]; exact ⟨_, rfl, (by first | with_reducible assumption | exact krg _ | exact Keep.al (krg _) _), fun _ _ => rfl⟩)
        · (obtain ⟨d15, d25⟩ := hd; subst d15; subst d25; clear hs; simp only [fillG, List.set_cons_zero, List.set_cons_succ]; refine want_n rfl ?_; go_wp2_with (first | fail); simp only [DoneG, fillG, List.set_cons_zero, List.set_cons_succ, relG, eqG, eqG1, eqG2, eqG3, gdG, gdG1, gnG, gnG1, List.getD_cons_zero, List.getD_cons_succ, List.getElem?_cons_succ, List.getElem?_cons_zero, Option.map_some, Option.getD_some, valsG, List.map_cons, List.map_nil, List.length_cons, List.length_nil]; exact ⟨_, rfl, (by first | with_reducible assumption | exact krg _ | exact Keep.al (krg _) _), fun _ _ => rfl⟩)
      (intro us W h9 hW hE hA; obtain ⟨u0, u1, u2, u3, u4, u5, u6, u7, u8, u9, u10, u11, u12, u13, u14, u15, u16, u17, u18, u19, u20, u21, u22, u23, u24, u25, u26, rfl⟩ := rog 27 h9 rfl; clear h9; simp only [AllG, AtG, and_true, relG, eqG, eqG1, eqG2, eqG3, gdG, gdG1, gnG, gnG1, List.getD_cons_zero, List.getD_cons_succ, List.getElem?_cons_succ, List.getElem?_cons_zero, Option.map_some, Option.getD_some, valsG, List.map_cons, List.map_nil, List.length_cons, List.length_nil] at hA; have d26 := hA; clear hA; subst d26; simp only [fillG, List.set_cons_zero, List.set_cons_succ]; have hKW := Keep.tr (Keep.dr (Keep.rf _)) hW; clear hW hE)
      have hM4 := HM3.out.keep hKW
      have HF := hide (rvFail 2 hM4)
      have hR4 := (hKW.frm fun _ => False).heap (fun h => h) HR3.out
      have r0 := top_cells hR4 0
      have r1 := top_cells hR4 1
      have f0 := top_free hR4 0
      have f1 := top_free hR4 1
      simp only [List.getElem?_toArray, List.getElem?_cons_succ, List.getElem?_cons_zero] at r0 r1
      have HR4 := hide hR4
      have HK4 := hide hKW
      have HM4 := hide hM4
      clear hR4 hKW hM4
      cases bb
      · go_wp2_with fail
        refine HF.out.mono ?_
        rintro e w5 ⟨rfl, hm5, hw5⟩
        rw [failE_0] at hm5
        have hR5 := hw5.heap HNR3.out HR4.out
        have HNR5 := hide (hw5.out (Nat.lt_of_lt_of_le HRL3.out HK4.out.size) HNR3.out)
        have r0 := top_cells hR5 0
        have r1 := top_cells hR5 1
        have f0 := top_free hR5 0
        have f1 := top_free hR5 1
        simp only [List.getElem?_toArray, List.getElem?_cons_succ, List.getElem?_cons_zero] at r0 r1
        have HR5 := hide hR5
        have HM5 := hide hm5
        have HW5 := hide ((HW3.out.tr (RWent.of_keep HK4.out)).tr hw5)
        clear hR5 hm5 hw5 HF
        go_wp2_with fail
        refine bodyPost_ret_by (results_cell_row rfl _ _ (w.heap.size + 1) 59 _ (0, 0) _ rfl (heap_set2R HR5.out _ _) Tryz.underlying59 rfl ?_) rfl ?_
        · kernel_rfl
        · rw [HX1.out, HE.out, if_neg (by decide)]
          exact ⟨(false, 0), s1, 2, rfl, (by decide : (Lit.int .i64 0).wf = true), ⟨Z, _, _, its, tys, ⟨_, HM5.out.far (frm_set2R _ _ _ _) HNR5.out H0R.out⟩, HW5.out.far (by omega) (frm_set2R _ _ _ _)⟩, .inr ⟨.inl rfl, rfl⟩⟩
      · go_wp2_with fail
        refine bodyPost_ret_by (results_cell_row rfl _ _ (w.heap.size + 1) 59 _ (0, 0) _ rfl (heap_set2R HR4.out _ _) Tryz.underlying59 rfl ?_) rfl ?_
        · kernel_rfl
        · rw [HX1.out, HE.out, if_pos rfl]
          exact ⟨(false, (i : Int)), s1, 0, rfl, imm_wf (by omega) (by omega), ⟨Z, _, _, its, tys, ⟨_, HM4.out.far (frm_set2R _ _ _ _) HNR3.out H0R.out⟩, (HW3.out.tr (RWent.of_keep HK4.out)).far (by omega) (frm_set2R _ _ _ _)⟩, .inl ⟨rfl, rfl⟩⟩
set_option maxHeartbeats 8000000 in
theorem rvNode_refN (t : Ty) (d : Nat) (cs : List Value) (h : RdM 91 B Z w0 w p bv lv tv [.int .i64 0] its tys s) (ht : TyI (fun k => k < w0.heap.size ∨ Z k) d w cs t) (hok : Em.okS t = true) (hp : ¬ Em.isPl t.op) (hop : ¬ t.op = Em.wList) (i : Nat) (hnum : Em.numP s = .ok (i + 1) s1) :
    Calls Tryz.prog 36 #[.pointer (some ⟨p, 0, none⟩), .agg cs.toArray] w (ValX 91 B Z w0 w p lv tv its (Em.refV t (i + 1) s1)) := by
  cases d with
  | zero => exact ht.elim
  | succ d =>
    have HT0 := hide ht
    have HOK := hide hok
    have HP := hide hp
    obtain ⟨v, rfl, hn, hs, hin⟩ := ht
    obtain ⟨A, c, rfl, _⟩ := id hs
    obtain ⟨o, n, ks⟩ := t
    simp only [Em.Ty.op, Em.Ty.n, Em.Ty.kids] at *
    have hnl : ¬ o = [108, 105, 115, 116] := hop
    have ka : Keep w ((w.alloc (.cells #[.string (str o), .int .i64 n, .slice A ks.length c] 25)).alloc (.cells #[.bool false, .int .i64 0] 59)) := (by repeat (first | exact Keep.rf _ | assumption | apply Keep.al | apply Keep.dr | apply Keep.dn))
    have hB := (Keep.frm (Keep.al (Keep.rf (w.alloc (.cells #[.string (str o), .int .i64 n, .slice A ks.length c] 25))) (.cells #[.bool false, .int .i64 0] 59)) (fun _ => False)).heap (fun h => h) (heap_alloc_new w (.cells #[.string (str o), .int .i64 n, .slice A ks.length c] 25))
    have hR := new_second w (.cells #[.string (str o), .int .i64 n, .slice A ks.length c] 25) (.cells #[.bool false, .int .i64 0] 59)
    have hnr : ¬ HasR Z p lv tv its (w.heap.size + 1) := fun e => by have := (h.lt _ e).2; omega
    have hnb : ¬ HasR Z p lv tv its w.heap.size := fun e => by have := (h.lt _ e).2; omega
    have HRL := hide (show w.heap.size + 1 < ((w.alloc (.cells #[.string (str o), .int .i64 n, .slice A ks.length c] 25)).alloc (.cells #[.bool false, .int .i64 0] 59)).heap.size from by simp)
    have h0r : w0.heap.size ≤ w.heap.size + 1 := by have := h.k0.size; omega
    have H0R := hide h0r
    have hM1 := h.keep ka
    have HT1 := hide (HT0.out.keep ka)
    have HPL := hide (refPlain22 HT1.out.ty HOK.out)
    have HM1 := hide hM1
    have b0 := top_cells hB 0
    have b1 := top_cells hB 1
    have b2 := top_cells hB 2
    have c3 := top_cells hM1.top 3
    simp only [List.getElem?_toArray, List.getElem?_cons_succ, List.getElem?_cons_zero] at b0 b1 b2 c3
    have HR := hide hR
    have HB := hide hB
    have KA := hide ka
    have HNR := hide hnr
    have HNB := hide hnb
    have hlim := h.lim
    have hO := opB o
    clear hR ka h hB hs hin hn hM1 HT0 hp hok hnr hnb h0r
    go_enter Tryz.func36, Tryz.ntmps36
    go_wp2_with fail
    generalize World.alloc (World.alloc w _) _ = w1 at *
    refine HPL.out.mono ?_
    rintro e w2 ⟨rfl, k2⟩
    clear HPL
    have hpd : decide (Em.isPl (Ty.op (.mk o n ks))) = false := decide_eq_false HP.out
    rw [hpd]
    clear hpd
    have HM2 := hide (HM1.out.keep k2)
    have hB2 := (k2.frm fun _ => False).heap (fun h => h) HB.out
    have HR2 := hide ((k2.frm fun _ => False).heap (fun h => h) HR.out)
    have HT2 := hide (HT1.out.keep k2)
    have KA2 := hide (Keep.tr KA.out k2)
    have HRL2 := hide (Nat.lt_of_lt_of_le HRL.out k2.size)
    have HN := hide (rvNumber HM2.out)
    have HB2 := hide hB2
    clear hB2 k2 b0 b1 b2 c3 HT1 HB HR KA
    go_wp2_with fail
    refine HN.out.mono ?_
    rintro e w3 ⟨v, s3, cE, rfl, hv, ⟨bv3, hm3⟩, hw3, hend⟩
    clear HN
    have hB3 := hw3.heap HNB.out HB2.out
    have hR3 := hw3.heap HNR.out HR2.out
    have HNR3 := hide (hw3.out HRL2.out HNR.out)
    have HNB3 := hide (hw3.out (Nat.lt_trans (Nat.lt_succ_self _) HRL2.out) HNB.out)
    have HT3 := hide (hw3.ty HM2.out HT2.out)
    have b0 := top_cells hB3 0
    have b1 := top_cells hB3 1
    have b2 := top_cells hB3 2
    have r0 := top_cells hR3 0
    have r1 := top_cells hR3 1
    have f0 := top_free hR3 0
    have f1 := top_free hR3 1
    have c1 := top_cells hm3.top 1
    have c2 := top_cells hm3.top 2
    have c3 := top_cells hm3.top 3
    simp only [List.getElem?_toArray, List.getElem?_cons_succ, List.getElem?_cons_zero] at b0 b1 b2 r0 r1 c1 c2 c3
    have HB3 := hide hB3
    have HR3 := hide hR3
    have HM3 := hide hm3
    have HW3 := hide ((RWent.of_keep KA2.out).tr hw3)
    have HRL3 := hide (Nat.lt_of_lt_of_le HRL2.out hw3.frm.size)
    clear hB3 hR3 hm3 hw3
    clear HB2 HR2 HM2 HT2 KA2 HRL2 HNR HNB HM1 HRL
    obtain ⟨rfl, e3⟩ : cE = 0 ∧ Em.numP s = .ok v s3 := by
      rcases hend with h | ⟨_, _, e⟩
      · exact h
      · rw [hnum] at e; cases e
    rw [hnum] at e3
    cases e3
    clear hend
    have HF := hide (rvFail 2 HM3.out)
    have hvi2 : ((i + 1 + 1 : Nat) : Int) = (i : Int) + 1 + 1 := by omega
    have hvi1 : ((i + 1 : Nat) : Int) = (i : Int) + 1 := by omega
    have e0 : ((i : Int) + 1 == 0) = false := by simp; omega
    have e00 : ((i : Int) + 1 + 1 == 0) = false := by simp; omega
    have hl1 := HM3.out.bl
    have hl2 := HM3.out.ty
    have hl3 := HM3.out.len
    have hl4 : s1.ty.length = tys.length := by rw [hl2]; simp
    obtain ⟨A9, c9, rfl⟩ := own_slice HM3.out.tow
    have hlt2 : tys.length ≤ 2000 := by omega
    have hlt3 : (tys.length : Int) ≤ 2000 := by omega
    by_cases hlt : tys.length < i + 1
    · have hle1 : decide ((tys.length : Int) ≤ (i : Int)) = true := decide_eq_true (by omega)
      have hle2 : decide ((i : Int) ≥ (tys.length : Int)) = true := decide_eq_true (by omega)
      have hge : (i : Int) ≥ (tys.length : Int) := by omega
      have HX2 := hide (show ∀ t, Em.refV t (i + 1) s1 = .err 2 from fun t => by
        unfold Em.refV
        rw [Nat.add_sub_cancel, List.getElem?_eq_none (by omega)])
      clear hl1 hl2 hl3 hl4
      go_wp2_with fail
      apply region_all (by kernel_rfl) Keep Keep krg ktg krg ktg (fun _ _ h => h) [some 36, some 37, some 38, some 39, some 40, some 41, some 42, some 43, some 44, some 45, some 46, some 47, some 48, some 49, some 50, some 51, some 52, some 53, some 54, some 55, some 56, some 57, some 58, some 59, some 60, some 61, some 62] [eqG _ , eqG _ , eqG _ , eqG _ , eqG _ , eqG _ , eqG _ , eqG _ , eqG _ , eqG _ , eqG _ , eqG _ , eqG _ , eqG _ , eqG _ , eqG _ , eqG undef, eqG undef, eqG undef, eqG undef, eqG undef, eqG undef, eqG undef, eqG undef, eqG undef, eqG undef, eqG _ ] [⟨[], [], true, false, false⟩, ⟨[0], [], true, false, false⟩, ⟨[1], [], true, false, false⟩, ⟨[2], [], true, false, false⟩, ⟨[3], [], true, false, false⟩, ⟨[4], [], true, false, false⟩, ⟨[5], [], true, false, false⟩, ⟨[5], [], true, false, false⟩, ⟨[5, 7], [], true, false, false⟩, ⟨[5, 8], [], true, false, false⟩, ⟨[5, 9], [], true, false, false⟩, ⟨[5, 10], [], true, false, false⟩, ⟨[5, 11], [], true, false, false⟩, ⟨[5, 6, 12], [], true, false, false⟩, ⟨[5, 13], [], true, false, false⟩, ⟨[14], [], true, false, false⟩, ⟨[15], [], true, false, false⟩, ⟨[15, 16], [], true, false, false⟩, ⟨[15, 17], [], true, false, false⟩, ⟨[15, 18], [], true, false, false⟩, ⟨[15], [], true, false, false⟩, ⟨[15, 19, 20], [], true, false, false⟩, ⟨[15, 21], [], true, false, false⟩, ⟨[15], [], true, false, false⟩, ⟨[15, 22, 23], [], true, false, false⟩, ⟨[15, 24], [], true, false, false⟩, ⟨[15, 25], [], true, false, false⟩] [26] (by kernel_rfl) (by kernel_rfl) 
      · refine ⟨?_, ?_, ?_, ?_, ?_, ?_, ?_, ?_, ?_, ?_, ?_, ?_, ?_, ?_, ?_, ?_, ?_, ?_, ?_, ?_, ?_, ?_, ?_, ?_, ?_, ?_, ?_, trivial⟩ <;> (intro us W h9 hW hE hd hs K hK; obtain ⟨u0, u1, u2, u3, u4, u5, u6, u7, u8, u9, u10, u11, u12, u13, u14, u15, u16, u17, u18, u19, u20, u21, u22, u23, u24, u25, u26, rfl⟩ := rog 27 h9 rfl; clear h9; try simp only [DepG, AtG, and_true, relG, eqG, eqG1, eqG2, eqG3, gdG, gdG1, gnG, gnG1, List.getD_cons_zero, List.getD_cons_succ, List.getElem?_cons_succ, List.getElem?_cons_zero, Option.map_some, Option.getD_some, valsG, List.map_cons, List.map_nil, List.length_cons, List.length_nil] at hd)
        · ((try clear hd); clear hs; simp only [fillG, List.set_cons_zero, List.set_cons_succ]; refine want_n rfl ?_; go_wp2_with (first | fail); simp only [DoneG, fillG, List.set_cons_zero, List.set_cons_succ, relG, eqG, eqG1, eqG2, eqG3, gdG, gdG1, gnG, gnG1, List.getD_cons_zero, List.getD_cons_succ, List.getElem?_cons_succ, List.getElem?_cons_zero, Option.map_some, Option.getD_some, valsG, List.map_cons, List.map_nil, List.length_cons, List.length_nil]; exact ⟨_, rfl, (by first | with_reducible assumption | exact krg _ | exact Keep.al (krg _) _), fun _ _ => rfl⟩)
        · (have d0 := hd; clear hd; subst d0; clear hs; simp only [fillG, List.set_cons_zero, List.set_cons_succ]; refine want_n rfl ?_; go_wp2_with (first | fail); simp only [DoneG, fillG, List.set_cons_zero, List.set_cons_succ, relG, eqG, eqG1, eqG2, eqG3, gdG, gdG1, gnG, gnG1, List.getD_cons_zero, List.getD_cons_succ, List.getElem?_cons_succ, List.getElem?_cons_zero, Option.map_some, Option.getD_some, valsG, List.map_cons, List.map_nil, List.length_cons, List.length_nil]; exact ⟨_, rfl, (by first | with_reducible assumption | exact krg _ | exact Keep.al (krg _) _), fun _ _ => rfl⟩)
        · (have d1 := hd; clear hd; subst d1; clear hs; simp only [fillG, List.set_cons_zero, List.set_cons_succ]; refine want_n rfl ?_; go_wp2_with (first | fail); simp only [DoneG, fillG, List.set_cons_zero, List.set_cons_succ, relG, eqG, eqG1, eqG2, eqG3, gdG, gdG1, gnG, gnG1, List.getD_cons_zero, List.getD_cons_succ, List.getElem?_cons_succ, List.getElem?_cons_zero, Option.map_some, Option.getD_some, valsG, List.map_cons, List.map_nil, List.length_cons, List.length_nil]; exact ⟨_, rfl, (by first | with_reducible assumption | exact krg _ | exact Keep.al (krg _) _), fun _ _ => rfl⟩)
        · (have d2 := hd; clear hd; subst d2; clear hs; simp only [fillG, List.set_cons_zero, List.set_cons_succ]; have hKW := Keep.tr (Keep.dr (Keep.rf _)) (hE rfl); have c2 := Keep.cell hKW c2; have c3 := Keep.cell hKW c3; refine want_n rfl ?_; go_wp2_with (first | fail); simp only [DoneG, fillG, List.set_cons_zero, List.set_cons_succ, relG, eqG, eqG1, eqG2, eqG3, gdG, gdG1, gnG, gnG1, List.getD_cons_zero, List.getD_cons_succ, List.getElem?_cons_succ, List.getElem?_cons_zero, Option.map_some, Option.getD_some, valsG, List.map_cons, List.map_nil, List.length_cons, List.length_nil]; exact ⟨_, rfl, (by first | with_reducible assumption | exact krg _ | exact Keep.al (krg _) _), fun _ _ => rfl⟩)
        · (have d3 := hd; clear hd; subst d3; clear hs; simp only [fillG, List.set_cons_zero, List.set_cons_succ]; refine want_n rfl ?_; go_wp2_with (first | fail); simp only [DoneG, fillG, List.set_cons_zero, List.set_cons_succ, relG, eqG, eqG1, eqG2, eqG3, gdG, gdG1, gnG, gnG1, List.getD_cons_zero, List.getD_cons_succ, List.getElem?_cons_succ, List.getElem?_cons_zero, Option.map_some, Option.getD_some, valsG, List.map_cons, List.map_nil, List.length_cons, List.length_nil]; exact ⟨_, rfl, (by first | with_reducible assumption | exact krg _ | exact Keep.al (krg _) _), fun _ _ => rfl⟩)
        · (have d4 := hd; clear hd; subst d4; clear hs; simp only [fillG, List.set_cons_zero, List.set_cons_succ]; refine want_n rfl ?_; go_wp2_with (first | fail); simp only [DoneG, fillG, List.set_cons_zero, List.set_cons_succ, relG, eqG, eqG1, eqG2, eqG3, gdG, gdG1, gnG, gnG1, List.getD_cons_zero, List.getD_cons_succ, List.getElem?_cons_succ, List.getElem?_cons_zero, Option.map_some, Option.getD_some, valsG, List.map_cons, List.map_nil, List.length_cons, List.length_nil]; exact ⟨_, rfl, (by first | with_reducible assumption | exact krg _ | exact Keep.al (krg _) _), fun _ _ => rfl⟩)
        · (have d5 := hd; clear hd; subst d5; clear hs; simp only [fillG, List.set_cons_zero, List.set_cons_succ]; refine want_y rfl ?_; go_wp2_with (first | fail); simp only [DoneG, fillG, List.set_cons_zero, List.set_cons_succ, relG, eqG, eqG1, eqG2, eqG3, gdG, gdG1, gnG, gnG1, List.getD_cons_zero, List.getD_cons_succ, List.getElem?_cons_succ, List.getElem?_cons_zero, Option.map_some, Option.getD_some, valsG, List.map_cons, List.map_nil, List.length_cons, List.length_nil]; exact ⟨_, rfl, (by first | with_reducible assumption | exact krg _ | exact Keep.al (krg _) _), fun _ _ => rfl⟩)
        · (have d5 := hd; clear hd; subst d5; clear hs; simp only [fillG, List.set_cons_zero, List.set_cons_succ]; refine want_y rfl ?_; go_wp2_with (first | fail); simp only [DoneG, fillG, List.set_cons_zero, List.set_cons_succ, relG, eqG, eqG1, eqG2, eqG3, gdG, gdG1, gnG, gnG1, List.getD_cons_zero, List.getD_cons_succ, List.getElem?_cons_succ, List.getElem?_cons_zero, Option.map_some, Option.getD_some, valsG, List.map_cons, List.map_nil, List.length_cons, List.length_nil]; exact ⟨_, rfl, (by first | with_reducible assumption | exact krg _ | exact Keep.al (krg _) _), fun _ _ => rfl⟩)
        · (obtain ⟨d5, d7⟩ := hd; subst d5; subst d7; clear hs; simp only [fillG, List.set_cons_zero, List.set_cons_succ]; refine want_y rfl ?_; go_wp2_with (first | fail); simp only [DoneG, fillG, List.set_cons_zero, List.set_cons_succ, relG, eqG, eqG1, eqG2, eqG3, gdG, gdG1, gnG, gnG1, List.getD_cons_zero, List.getD_cons_succ, List.getElem?_cons_succ, List.getElem?_cons_zero, Option.map_some, Option.getD_some, valsG, List.map_cons, List.map_nil, List.length_cons, List.length_nil]; exact ⟨_, rfl, (by first | with_reducible assumption | exact krg _ | exact Keep.al (krg _) _), fun _ _ => rfl⟩)
        · (obtain ⟨d5, d8⟩ := hd; subst d5; subst d8; clear hs; simp only [fillG, List.set_cons_zero, List.set_cons_succ]; refine want_y rfl ?_; go_wp2_with (first | fail); simp only [DoneG, fillG, List.set_cons_zero, List.set_cons_succ, relG, eqG, eqG1, eqG2, eqG3, gdG, gdG1, gnG, gnG1, List.getD_cons_zero, List.getD_cons_succ, List.getElem?_cons_succ, List.getElem?_cons_zero, Option.map_some, Option.getD_some, valsG, List.map_cons, List.map_nil, List.length_cons, List.length_nil]; exact ⟨_, rfl, (by first | with_reducible assumption | exact krg _ | exact Keep.al (krg _) _), fun _ _ => rfl⟩)
        · (obtain ⟨d5, d9⟩ := hd; subst d5; subst d9; clear hs; simp only [fillG, List.set_cons_zero, List.set_cons_succ]; have hKW := Keep.tr (Keep.dr (Keep.rf _)) (hE rfl); have c2 := Keep.cell hKW c2; have c3 := Keep.cell hKW c3; refine want_y rfl ?_; go_wp2_with (first | fail); simp only [DoneG, fillG, List.set_cons_zero, List.set_cons_succ, relG, eqG, eqG1, eqG2, eqG3, gdG, gdG1, gnG, gnG1, List.getD_cons_zero, List.getD_cons_succ, List.getElem?_cons_succ, List.getElem?_cons_zero, Option.map_some, Option.getD_some, valsG, List.map_cons, List.map_nil, List.length_cons, List.length_nil]; exact ⟨_, rfl, (by first | with_reducible assumption | exact krg _ | exact Keep.al (krg _) _), fun _ _ => rfl⟩)
        · (obtain ⟨d5, d10⟩ := hd; subst d5; subst d10; clear hs; simp only [fillG, List.set_cons_zero, List.set_cons_succ]; have hKW := Keep.tr (Keep.dr (Keep.rf _)) (hE rfl); have c2 := Keep.cell hKW c2; have c3 := Keep.cell hKW c3; refine want_y rfl ?_; go_wp2_with (first | fail); simp only [DoneG, fillG, List.set_cons_zero, List.set_cons_succ, relG, eqG, eqG1, eqG2, eqG3, gdG, gdG1, gnG, gnG1, List.getD_cons_zero, List.getD_cons_succ, List.getElem?_cons_succ, List.getElem?_cons_zero, Option.map_some, Option.getD_some, valsG, List.map_cons, List.map_nil, List.length_cons, List.length_nil]; exact ⟨_, rfl, (by first | with_reducible assumption | exact krg _ | exact Keep.al (krg _) _), fun _ _ => rfl⟩)
        · (obtain ⟨d5, d11⟩ := hd; subst d5; subst d11; clear hs; simp only [fillG, List.set_cons_zero, List.set_cons_succ]; refine want_y rfl ?_; go_wp2_with (first | fail); simp only [DoneG, fillG, List.set_cons_zero, List.set_cons_succ, relG, eqG, eqG1, eqG2, eqG3, gdG, gdG1, gnG, gnG1, List.getD_cons_zero, List.getD_cons_succ, List.getElem?_cons_succ, List.getElem?_cons_zero, Option.map_some, Option.getD_some, valsG, List.map_cons, List.map_nil, List.length_cons, List.length_nil]; exact ⟨_, rfl, (by first | with_reducible assumption | exact krg _ | exact Keep.al (krg _) _), fun _ _ => rfl⟩)
        · (obtain ⟨d5, d6, d12⟩ := hd; subst d5; subst d6; subst d12; clear hs; simp only [fillG, List.set_cons_zero, List.set_cons_succ]; refine want_y rfl ?_; go_wp2_with (first | fail); simp only [DoneG, fillG, List.set_cons_zero, List.set_cons_succ, relG, eqG, eqG1, eqG2, eqG3, gdG, gdG1, gnG, gnG1, List.getD_cons_zero, List.getD_cons_succ, List.getElem?_cons_succ, List.getElem?_cons_zero, Option.map_some, Option.getD_some, valsG, List.map_cons, List.map_nil, List.length_cons, List.length_nil]; exact ⟨_, rfl, (by first | with_reducible assumption | exact krg _ | exact Keep.al (krg _) _), fun _ _ => rfl⟩)
        · (obtain ⟨d5, d13⟩ := hd; subst d5; subst d13; clear hs; simp only [fillG, List.set_cons_zero, List.set_cons_succ]; refine want_n rfl ?_; go_wp2_with (first | fail); simp only [DoneG, fillG, List.set_cons_zero, List.set_cons_succ, relG, eqG, eqG1, eqG2, eqG3, gdG, gdG1, gnG, gnG1, List.getD_cons_zero, List.getD_cons_succ, List.getElem?_cons_succ, List.getElem?_cons_zero, Option.map_some, Option.getD_some, valsG, List.map_cons, List.map_nil, List.length_cons, List.length_nil]; exact ⟨_, rfl, (by first | with_reducible assumption | exact krg _ | exact Keep.al (krg _) _), fun _ _ => rfl⟩)
        · (have d14 := hd; clear hd; subst d14; clear hs; simp only [fillG, List.set_cons_zero, List.set_cons_succ]; refine want_n rfl ?_; go_wp2_with (first | fail); simp only [DoneG, fillG, List.set_cons_zero, List.set_cons_succ, relG, eqG, eqG1, eqG2, eqG3, gdG, gdG1, gnG, gnG1, List.getD_cons_zero, List.getD_cons_succ, List.getElem?_cons_succ, List.getElem?_cons_zero, Option.map_some, Option.getD_some, valsG, List.map_cons, List.map_nil, List.length_cons, List.length_nil]; exact ⟨_, rfl, (by first | with_reducible assumption | exact krg _ | exact Keep.al (krg _) _), fun _ _ => rfl⟩)
        · (have d15 := hd; clear hd; subst d15; clear hs; simp only [fillG, List.set_cons_zero, List.set_cons_succ]; refine want_f rfl ?_; refine hK _ _ ?_; simp only [DoneG, fillG, List.set_cons_zero, List.set_cons_succ, relG, eqG, eqG1, eqG2, eqG3, gdG, gdG1, gnG, gnG1, List.getD_cons_zero, List.getD_cons_succ, List.getElem?_cons_succ, List.getElem?_cons_zero, Option.map_some, Option.getD_some, valsG, List.map_cons, List.map_nil, List.length_cons, List.length_nil]; exact ⟨undef, rfl, krg _, fun _ _ => rfl⟩)
        · (obtain ⟨d15, d16⟩ := hd; subst d15; subst d16; clear hs; simp only [fillG, List.set_cons_zero, List.set_cons_succ]; refine want_f rfl ?_; refine hK _ _ ?_; simp only [DoneG, fillG, List.set_cons_zero, List.set_cons_succ, relG, eqG, eqG1, eqG2, eqG3, gdG, gdG1, gnG, gnG1, List.getD_cons_zero, List.getD_cons_succ, List.getElem?_cons_succ, List.getElem?_cons_zero, Option.map_some, Option.getD_some, valsG, List.map_cons, List.map_nil, List.length_cons, List.length_nil]; exact ⟨undef, rfl, krg _, fun _ _ => rfl⟩)
        · (obtain ⟨d15, d17⟩ := hd; subst d15; subst d17; clear hs; simp only [fillG, List.set_cons_zero, List.set_cons_succ]; refine want_f rfl ?_; refine hK _ _ ?_; simp only [DoneG, fillG, List.set_cons_zero, List.set_cons_succ, relG, eqG, eqG1, eqG2, eqG3, gdG, gdG1, gnG, gnG1, List.getD_cons_zero, List.getD_cons_succ, List.getElem?_cons_succ, List.getElem?_cons_zero, Option.map_some, Option.getD_some, valsG, List.map_cons, List.map_nil, List.length_cons, List.length_nil]; exact ⟨undef, rfl, krg _, fun _ _ => rfl⟩)
        · (obtain ⟨d15, d18⟩ := hd; subst d15; subst d18; clear hs; simp only [fillG, List.set_cons_zero, List.set_cons_succ]; have hKW := Keep.tr (Keep.dr (Keep.rf _)) (hE rfl); have c2 := Keep.cell hKW c2; have c3 := Keep.cell hKW c3; refine want_f rfl ?_; refine hK _ _ ?_; simp only [DoneG, fillG, List.set_cons_zero, List.set_cons_succ, relG, eqG, eqG1, eqG2, eqG3, gdG, gdG1, gnG, gnG1, List.getD_cons_zero, List.getD_cons_succ, List.getElem?_cons_succ, List.getElem?_cons_zero, Option.map_some, Option.getD_some, valsG, List.map_cons, List.map_nil, List.length_cons, List.length_nil]; exact ⟨undef, rfl, krg _, fun _ _ => rfl⟩)
        · (have d15 := hd; clear hd; subst d15; clear hs; simp only [fillG, List.set_cons_zero, List.set_cons_succ]; refine want_f rfl ?_; refine hK _ _ ?_; simp only [DoneG, fillG, List.set_cons_zero, List.set_cons_succ, relG, eqG, eqG1, eqG2, eqG3, gdG, gdG1, gnG, gnG1, List.getD_cons_zero, List.getD_cons_succ, List.getElem?_cons_succ, List.getElem?_cons_zero, Option.map_some, Option.getD_some, valsG, List.map_cons, List.map_nil, List.length_cons, List.length_nil]; exact ⟨undef, rfl, krg _, fun _ _ => rfl⟩)
        · (obtain ⟨d15, d19, d20⟩ := hd; subst d15; subst d19; subst d20; clear hs; simp only [fillG, List.set_cons_zero, List.set_cons_succ]; refine want_f rfl ?_; refine hK _ _ ?_; simp only [DoneG, fillG, List.set_cons_zero, List.set_cons_succ, relG, eqG, eqG1, eqG2, eqG3, gdG, gdG1, gnG, gnG1, List.getD_cons_zero, List.getD_cons_succ, List.getElem?_cons_succ, List.getElem?_cons_zero, Option.map_some, Option.getD_some, valsG, List.map_cons, List.map_nil, List.length_cons, List.length_nil]; exact ⟨undef, rfl, krg _, fun _ _ => rfl⟩)
        · (obtain ⟨d15, d21⟩ := hd; subst d15; subst d21; clear hs; simp only [fillG, List.set_cons_zero, List.set_cons_succ]; have hKW := Keep.tr (Keep.dr (Keep.rf _)) (hE rfl); have c2 := Keep.cell hKW c2; have c3 := Keep.cell hKW c3; refine want_f rfl ?_; refine hK _ _ ?_; simp only [DoneG, fillG, List.set_cons_zero, List.set_cons_succ, relG, eqG, eqG1, eqG2, eqG3, gdG, gdG1, gnG, gnG1, List.getD_cons_zero, List.getD_cons_succ, List.getElem?_cons_succ, List.getElem?_cons_zero, Option.map_some, Option.getD_some, valsG, List.map_cons, List.map_nil, List.length_cons, List.length_nil]; exact ⟨undef, rfl, krg _, fun _ _ => rfl⟩)
        · (have d15 := hd; clear hd; subst d15; clear hs; simp only [fillG, List.set_cons_zero, List.set_cons_succ]; have hKW := Keep.tr (Keep.dr (Keep.rf _)) (hE rfl); have c2 := Keep.cell hKW c2; have c3 := Keep.cell hKW c3; refine want_f rfl ?_; refine hK _ _ ?_; simp only [DoneG, fillG, List.set_cons_zero, List.set_cons_succ, relG, eqG, eqG1, eqG2, eqG3, gdG, gdG1, gnG, gnG1, List.getD_cons_zero, List.getD_cons_succ, List.getElem?_cons_succ, List.getElem?_cons_zero, Option.map_some, Option.getD_some, valsG, List.map_cons, List.map_nil, List.length_cons, List.length_nil]; exact ⟨undef, rfl, krg _, fun _ _ => rfl⟩)
        · (obtain ⟨d15, d22, d23⟩ := hd; subst d15; subst d22; subst d23; clear hs; simp only [fillG, List.set_cons_zero, List.set_cons_succ]; have hKW := Keep.tr (Keep.dr (Keep.rf _)) (hE rfl); have c2 := Keep.cell hKW c2; have c3 := Keep.cell hKW c3; refine want_f rfl ?_; refine hK _ _ ?_; simp only [DoneG, fillG, List.set_cons_zero, List.set_cons_succ, relG, eqG, eqG1, eqG2, eqG3, gdG, gdG1, gnG, gnG1, List.getD_cons_zero, List.getD_cons_succ, List.getElem?_cons_succ, List.getElem?_cons_zero, Option.map_some, Option.getD_some, valsG, List.map_cons, List.map_nil, List.length_cons, List.length_nil]; exact ⟨undef, rfl, krg _, fun _ _ => rfl⟩)
        · (obtain ⟨d15, d24⟩ := hd; subst d15; subst d24; clear hs; simp only [fillG, List.set_cons_zero, List.set_cons_succ]; refine want_f rfl ?_; refine hK _ _ ?_; simp only [DoneG, fillG, List.set_cons_zero, List.set_cons_succ, relG, eqG, eqG1, eqG2, eqG3, gdG, gdG1, gnG, gnG1, List.getD_cons_zero, List.getD_cons_succ, List.getElem?_cons_succ, List.getElem?_cons_zero, Option.map_some, Option.getD_some, valsG, List.map_cons, List.map_nil, List.length_cons, List.length_nil]; exact ⟨undef, rfl, krg _, fun _ _ => rfl⟩)
        · (obtain ⟨d15, d25⟩ := hd; subst d15; subst d25; clear hs; simp only [fillG, List.set_cons_zero, List.set_cons_succ]; refine want_n rfl ?_; go_wp2_with (first | fail); simp only [DoneG, fillG, List.set_cons_zero, List.set_cons_succ, relG, eqG, eqG1, eqG2, eqG3, gdG, gdG1, gnG, gnG1, List.getD_cons_zero, List.getD_cons_succ, List.getElem?_cons_succ, List.getElem?_cons_zero, Option.map_some, Option.getD_some, valsG, List.map_cons, List.map_nil, List.length_cons, List.length_nil]; exact ⟨_, rfl, (by first | with_reducible assumption | exact krg _ | exact Keep.al (krg _) _), fun _ _ => rfl⟩)
      (intro us W h9 hW hE hA; obtain ⟨u0, u1, u2, u3, u4, u5, u6, u7, u8, u9, u10, u11, u12, u13, u14, u15, u16, u17, u18, u19, u20, u21, u22, u23, u24, u25, u26, rfl⟩ := rog 27 h9 rfl; clear h9; simp only [AllG, AtG, and_true, relG, eqG, eqG1, eqG2, eqG3, gdG, gdG1, gnG, gnG1, List.getD_cons_zero, List.getD_cons_succ, List.getElem?_cons_succ, List.getElem?_cons_zero, Option.map_some, Option.getD_some, valsG, List.map_cons, List.map_nil, List.length_cons, List.length_nil] at hA; have d26 := hA; clear hA; subst d26; simp only [fillG, List.set_cons_zero, List.set_cons_succ]; have hKW := Keep.tr (Keep.dr (Keep.rf _)) hW; clear hW hE)
      have hM4 := HM3.out.keep hKW
      have HF := hide (rvFail 2 hM4)
      have hR4 := (hKW.frm fun _ => False).heap (fun h => h) HR3.out
      have HR4 := hide hR4
      have HK4 := hide hKW
      clear hR4 hKW hM4
      go_wp2_with fail
      refine HF.out.mono ?_
      rintro e w5 ⟨rfl, hm5, hw5⟩
      rw [failE_0] at hm5
      have HNR4 := hide HNR3.out
      have hR5 := hw5.heap HNR3.out HR4.out
      have HNR5 := hide (hw5.out (Nat.lt_of_lt_of_le HRL3.out HK4.out.size) HNR3.out)
      have r0 := top_cells hR5 0
      have r1 := top_cells hR5 1
      have f0 := top_free hR5 0
      have f1 := top_free hR5 1
      simp only [List.getElem?_toArray, List.getElem?_cons_succ, List.getElem?_cons_zero] at r0 r1
      have HR5 := hide hR5
      have HM5 := hide hm5
      have HW5 := hide ((HW3.out.tr (RWent.of_keep HK4.out)).tr hw5)
      clear hR5 hm5 hw5 HF
      go_wp2_with fail
      refine bodyPost_ret_by (results_cell_row rfl _ _ (w.heap.size + 1) 59 _ (0, 0) _ rfl (heap_set2R HR5.out _ _) Tryz.underlying59 rfl ?_) rfl ?_
      · kernel_rfl
      · rw [HX2.out]
        exact ⟨(false, 0), s1, 2, rfl, (by decide : (Lit.int .i64 0).wf = true), ⟨Z, _, _, its, tys, ⟨_, HM5.out.far (frm_set2R _ _ _ _) HNR5.out H0R.out⟩, HW5.out.far (by omega) (frm_set2R _ _ _ _)⟩, .inr ⟨.inl rfl, rfl⟩⟩
    · obtain ⟨t', ht'⟩ : ∃ t', s1.ty[i]? = some t' := ⟨_, List.getElem?_eq_getElem (by omega)⟩
      obtain ⟨hil, g, c', d', o', n', A', m', c2', etv0, hty, x0, x1, x2⟩ := HM3.out.ty_at ht'
      have etv : A9 = some ⟨g, 0, none⟩ := by injection etv0
      clear etv0
      subst etv
      have hili : (i : Int) < (tys.length : Int) := by omega
      have hln1 : i < tys.length := by omega
      have hln2 : decide (tys.length ≤ i) = false := decide_eq_false (by omega)
      have hln3 : decide (i < tys.length) = true := decide_eq_true (by omega)
      have hle1 : decide ((tys.length : Int) ≤ (i : Int)) = false := decide_eq_false (by omega)
      have hle2 : decide ((i : Int) ≥ (tys.length : Int)) = false := decide_eq_false (by omega)
      have hle4 : ((tys.length : Int) ≤ (i : Int)) = False := eq_false (by omega)
      have hle5 : ((i : Int) ≥ (tys.length : Int)) = False := eq_false (by omega)
      have HTY := hide hty
      have HX1 := hide (show ∀ t, Em.refV t (i + 1) s1 = if Em.eqT t' t = true then .ok (false, (i : Int)) s1 else .err 2 from fun t => by
        unfold Em.refV
        rw [Nat.add_sub_cancel, ht'])
      obtain ⟨bb, HE⟩ : ∃ bb, Hid (Em.eqT t' (.mk o n ks) = bb) := ⟨_, hide rfl⟩
      clear hl1 hl2 hl3 hl4 ht' hty
      go_wp2_with fail
      apply region_all (by kernel_rfl) Keep Keep krg ktg krg ktg (fun _ _ h => h) [some 36, some 37, some 38, some 39, some 40, some 41, some 42, some 43, some 44, some 45, some 46, some 47, some 48, some 49, some 50, some 51, some 52, some 53, some 54, some 55, some 56, some 57, some 58, some 59, some 60, some 61, some 62] [eqG _ , eqG _ , eqG _ , eqG _ , eqG _ , eqG _ , eqG _ , eqG _ , eqG _ , eqG _ , eqG _ , eqG _ , eqG _ , eqG _ , eqG _ , eqG _ , eqG _ , eqG _ , eqG _ , eqG _ , eqG _ , eqG _ , eqG _ , eqG _ , fun us _ v => v = .bool bb, eqG _ , eqG _ ] [⟨[], [], true, false, false⟩, ⟨[0], [], true, false, false⟩, ⟨[1], [], true, false, false⟩, ⟨[2], [], true, false, false⟩, ⟨[3], [], true, false, false⟩, ⟨[4], [], true, false, false⟩, ⟨[5], [], true, false, false⟩, ⟨[5], [], true, false, false⟩, ⟨[5, 7], [], true, false, false⟩, ⟨[5, 8], [], true, false, false⟩, ⟨[5, 9], [], true, false, false⟩, ⟨[5, 10], [], true, false, false⟩, ⟨[5, 11], [], true, false, false⟩, ⟨[5, 6, 12], [], true, false, false⟩, ⟨[5, 13], [], true, false, false⟩, ⟨[14], [], true, false, false⟩, ⟨[15], [], true, false, false⟩, ⟨[15, 16], [], true, false, false⟩, ⟨[15, 17], [], true, false, false⟩, ⟨[15, 18], [], true, false, false⟩, ⟨[15], [], true, false, false⟩, ⟨[15, 19, 20], [], true, false, false⟩, ⟨[15, 21], [], true, false, false⟩, ⟨[15], [], true, false, false⟩, ⟨[15, 22, 23], [], true, false, false⟩, ⟨[15, 24], [], true, false, false⟩, ⟨[15, 25], [], true, false, false⟩] [26] (by kernel_rfl) (by kernel_rfl) 
      · refine ⟨?_, ?_, ?_, ?_, ?_, ?_, ?_, ?_, ?_, ?_, ?_, ?_, ?_, ?_, ?_, ?_, ?_, ?_, ?_, ?_, ?_, ?_, ?_, ?_, ?_, ?_, ?_, trivial⟩ <;> (intro us W h9 hW hE hd hs K hK; obtain ⟨u0, u1, u2, u3, u4, u5, u6, u7, u8, u9, u10, u11, u12, u13, u14, u15, u16, u17, u18, u19, u20, u21, u22, u23, u24, u25, u26, rfl⟩ := rog 27 h9 rfl; clear h9; try simp only [DepG, AtG, and_true, relG, eqG, eqG1, eqG2, eqG3, gdG, gdG1, gnG, gnG1, List.getD_cons_zero, List.getD_cons_succ, List.getElem?_cons_succ, List.getElem?_cons_zero, Option.map_some, Option.getD_some, valsG, List.map_cons, List.map_nil, List.length_cons, List.length_nil] at hd)
        · ((try clear hd); clear hs; simp only [fillG, List.set_cons_zero, List.set_cons_succ]; refine want_n rfl ?_; go_wp2_with (first | fail); simp only [DoneG, fillG, List.set_cons_zero, List.set_cons_succ, relG, eqG, eqG1, eqG2, eqG3, gdG, gdG1, gnG, gnG1, List.getD_cons_zero, List.getD_cons_succ, List.getElem?_cons_succ, List.getElem?_cons_zero, Option.map_some, Option.getD_some, valsG, List.map_cons, List.map_nil, List.length_cons, List.length_nil]; exact ⟨_, rfl, (by first | with_reducible assumption | exact krg _ | exact Keep.al (krg _) _), fun _ _ => rfl⟩)
        · (have d0 := hd; clear hd; subst d0; clear hs; simp only [fillG, List.set_cons_zero, List.set_cons_succ]; refine want_n rfl ?_; go_wp2_with (first | fail); simp only [DoneG, fillG, List.set_cons_zero, List.set_cons_succ, relG, eqG, eqG1, eqG2, eqG3, gdG, gdG1, gnG, gnG1, List.getD_cons_zero, List.getD_cons_succ, List.getElem?_cons_succ, List.getElem?_cons_zero, Option.map_some, Option.getD_some, valsG, List.map_cons, List.map_nil, List.length_cons, List.length_nil]; exact ⟨_, rfl, (by first | with_reducible assumption | exact krg _ | exact Keep.al (krg _) _), fun _ _ => rfl⟩)
        · (have d1 := hd; clear hd; subst d1; clear hs; simp only [fillG, List.set_cons_zero, List.set_cons_succ]; refine want_n rfl ?_; go_wp2_with (first | fail); simp only [DoneG, fillG, List.set_cons_zero, List.set_cons_succ, relG, eqG, eqG1, eqG2, eqG3, gdG, gdG1, gnG, gnG1, List.getD_cons_zero, List.getD_cons_succ, List.getElem?_cons_succ, List.getElem?_cons_zero, Option.map_some, Option.getD_some, valsG, List.map_cons, List.map_nil, List.length_cons, List.length_nil]; exact ⟨_, rfl, (by first | with_reducible assumption | exact krg _ | exact Keep.al (krg _) _), fun _ _ => rfl⟩)
        · (have d2 := hd; clear hd; subst d2; clear hs; simp only [fillG, List.set_cons_zero, List.set_cons_succ]; have hKW := Keep.tr (Keep.dr (Keep.rf _)) (hE rfl); have c2 := Keep.cell hKW c2; have c3 := Keep.cell hKW c3; have b0 := Keep.cell hKW b0; have b1 := Keep.cell hKW b1; have b2 := Keep.cell hKW b2; have x0 := Keep.cell hKW x0; have x1 := Keep.cell hKW x1; have x2 := Keep.cell hKW x2; refine want_n rfl ?_; go_wp2_with (first | fail); simp only [DoneG, fillG, List.set_cons_zero, List.set_cons_succ, relG, eqG, eqG1, eqG2, eqG3, gdG, gdG1, gnG, gnG1, List.getD_cons_zero, List.getD_cons_succ, List.getElem?_cons_succ, List.getElem?_cons_zero, Option.map_some, Option.getD_some, valsG, List.map_cons, List.map_nil, List.length_cons, List.length_nil]; exact ⟨_, rfl, (by first | with_reducible assumption | exact krg _ | exact Keep.al (krg _) _), fun _ _ => rfl⟩)
        · (have d3 := hd; clear hd; subst d3; clear hs; simp only [fillG, List.set_cons_zero, List.set_cons_succ]; refine want_n rfl ?_; go_wp2_with (first | fail); simp only [DoneG, fillG, List.set_cons_zero, List.set_cons_succ, relG, eqG, eqG1, eqG2, eqG3, gdG, gdG1, gnG, gnG1, List.getD_cons_zero, List.getD_cons_succ, List.getElem?_cons_succ, List.getElem?_cons_zero, Option.map_some, Option.getD_some, valsG, List.map_cons, List.map_nil, List.length_cons, List.length_nil]; exact ⟨_, rfl, (by first | with_reducible assumption | exact krg _ | exact Keep.al (krg _) _), fun _ _ => rfl⟩)
        · (have d4 := hd; clear hd; subst d4; clear hs; simp only [fillG, List.set_cons_zero, List.set_cons_succ]; refine want_n rfl ?_; go_wp2_with (first | fail); simp only [DoneG, fillG, List.set_cons_zero, List.set_cons_succ, relG, eqG, eqG1, eqG2, eqG3, gdG, gdG1, gnG, gnG1, List.getD_cons_zero, List.getD_cons_succ, List.getElem?_cons_succ, List.getElem?_cons_zero, Option.map_some, Option.getD_some, valsG, List.map_cons, List.map_nil, List.length_cons, List.length_nil]; exact ⟨_, rfl, (by first | with_reducible assumption | exact krg _ | exact Keep.al (krg _) _), fun _ _ => rfl⟩)
        · (have d5 := hd; clear hd; subst d5; clear hs; simp only [fillG, List.set_cons_zero, List.set_cons_succ]; refine want_y rfl ?_; go_wp2_with (first | fail); simp only [DoneG, fillG, List.set_cons_zero, List.set_cons_succ, relG, eqG, eqG1, eqG2, eqG3, gdG, gdG1, gnG, gnG1, List.getD_cons_zero, List.getD_cons_succ, List.getElem?_cons_succ, List.getElem?_cons_zero, Option.map_some, Option.getD_some, valsG, List.map_cons, List.map_nil, List.length_cons, List.length_nil]; exact ⟨_, rfl, (by first | with_reducible assumption | exact krg _ | exact Keep.al (krg _) _), fun _ _ => rfl⟩)
        · (have d5 := hd; clear hd; subst d5; clear hs; simp only [fillG, List.set_cons_zero, List.set_cons_succ]; refine want_y rfl ?_; go_wp2_with (first | fail); simp only [DoneG, fillG, List.set_cons_zero, List.set_cons_succ, relG, eqG, eqG1, eqG2, eqG3, gdG, gdG1, gnG, gnG1, List.getD_cons_zero, List.getD_cons_succ, List.getElem?_cons_succ, List.getElem?_cons_zero, Option.map_some, Option.getD_some, valsG, List.map_cons, List.map_nil, List.length_cons, List.length_nil]; exact ⟨_, rfl, (by first | with_reducible assumption | exact krg _ | exact Keep.al (krg _) _), fun _ _ => rfl⟩)
        · (obtain ⟨d5, d7⟩ := hd; subst d5; subst d7; clear hs; simp only [fillG, List.set_cons_zero, List.set_cons_succ]; refine want_y rfl ?_; go_wp2_with (first | fail); simp only [DoneG, fillG, List.set_cons_zero, List.set_cons_succ, relG, eqG, eqG1, eqG2, eqG3, gdG, gdG1, gnG, gnG1, List.getD_cons_zero, List.getD_cons_succ, List.getElem?_cons_succ, List.getElem?_cons_zero, Option.map_some, Option.getD_some, valsG, List.map_cons, List.map_nil, List.length_cons, List.length_nil]; exact ⟨_, rfl, (by first | with_reducible assumption | exact krg _ | exact Keep.al (krg _) _), fun _ _ => rfl⟩)
        · (obtain ⟨d5, d8⟩ := hd; subst d5; subst d8; clear hs; simp only [fillG, List.set_cons_zero, List.set_cons_succ]; refine want_y rfl ?_; go_wp2_with (first | fail); simp only [DoneG, fillG, List.set_cons_zero, List.set_cons_succ, relG, eqG, eqG1, eqG2, eqG3, gdG, gdG1, gnG, gnG1, List.getD_cons_zero, List.getD_cons_succ, List.getElem?_cons_succ, List.getElem?_cons_zero, Option.map_some, Option.getD_some, valsG, List.map_cons, List.map_nil, List.length_cons, List.length_nil]; exact ⟨_, rfl, (by first | with_reducible assumption | exact krg _ | exact Keep.al (krg _) _), fun _ _ => rfl⟩)
        · (obtain ⟨d5, d9⟩ := hd; subst d5; subst d9; clear hs; simp only [fillG, List.set_cons_zero, List.set_cons_succ]; have hKW := Keep.tr (Keep.dr (Keep.rf _)) (hE rfl); have c2 := Keep.cell hKW c2; have c3 := Keep.cell hKW c3; have b0 := Keep.cell hKW b0; have b1 := Keep.cell hKW b1; have b2 := Keep.cell hKW b2; have x0 := Keep.cell hKW x0; have x1 := Keep.cell hKW x1; have x2 := Keep.cell hKW x2; refine want_y rfl ?_; go_wp2_with (first | fail); simp only [DoneG, fillG, List.set_cons_zero, List.set_cons_succ, relG, eqG, eqG1, eqG2, eqG3, gdG, gdG1, gnG, gnG1, List.getD_cons_zero, List.getD_cons_succ, List.getElem?_cons_succ, List.getElem?_cons_zero, Option.map_some, Option.getD_some, valsG, List.map_cons, List.map_nil, List.length_cons, List.length_nil]; exact ⟨_, rfl, (by first | with_reducible assumption | exact krg _ | exact Keep.al (krg _) _), fun _ _ => rfl⟩)
        · (obtain ⟨d5, d10⟩ := hd; subst d5; subst d10; clear hs; simp only [fillG, List.set_cons_zero, List.set_cons_succ]; have hKW := Keep.tr (Keep.dr (Keep.rf _)) (hE rfl); have c2 := Keep.cell hKW c2; have c3 := Keep.cell hKW c3; have b0 := Keep.cell hKW b0; have b1 := Keep.cell hKW b1; have b2 := Keep.cell hKW b2; have x0 := Keep.cell hKW x0; have x1 := Keep.cell hKW x1; have x2 := Keep.cell hKW x2; refine want_y rfl ?_; go_wp2_with (first | fail); simp only [DoneG, fillG, List.set_cons_zero, List.set_cons_succ, relG, eqG, eqG1, eqG2, eqG3, gdG, gdG1, gnG, gnG1, List.getD_cons_zero, List.getD_cons_succ, List.getElem?_cons_succ, List.getElem?_cons_zero, Option.map_some, Option.getD_some, valsG, List.map_cons, List.map_nil, List.length_cons, List.length_nil]; exact ⟨_, rfl, (by first | with_reducible assumption | exact krg _ | exact Keep.al (krg _) _), fun _ _ => rfl⟩)
        · (obtain ⟨d5, d11⟩ := hd; subst d5; subst d11; clear hs; simp only [fillG, List.set_cons_zero, List.set_cons_succ]; refine want_y rfl ?_; go_wp2_with (first | fail); simp only [DoneG, fillG, List.set_cons_zero, List.set_cons_succ, relG, eqG, eqG1, eqG2, eqG3, gdG, gdG1, gnG, gnG1, List.getD_cons_zero, List.getD_cons_succ, List.getElem?_cons_succ, List.getElem?_cons_zero, Option.map_some, Option.getD_some, valsG, List.map_cons, List.map_nil, List.length_cons, List.length_nil]; exact ⟨_, rfl, (by first | with_reducible assumption | exact krg _ | exact Keep.al (krg _) _), fun _ _ => rfl⟩)
        · (obtain ⟨d5, d6, d12⟩ := hd; subst d5; subst d6; subst d12; clear hs; simp only [fillG, List.set_cons_zero, List.set_cons_succ]; refine want_y rfl ?_; go_wp2_with (first | fail); simp only [DoneG, fillG, List.set_cons_zero, List.set_cons_succ, relG, eqG, eqG1, eqG2, eqG3, gdG, gdG1, gnG, gnG1, List.getD_cons_zero, List.getD_cons_succ, List.getElem?_cons_succ, List.getElem?_cons_zero, Option.map_some, Option.getD_some, valsG, List.map_cons, List.map_nil, List.length_cons, List.length_nil]; exact ⟨_, rfl, (by first | with_reducible assumption | exact krg _ | exact Keep.al (krg _) _), fun _ _ => rfl⟩)
        · (obtain ⟨d5, d13⟩ := hd; subst d5; subst d13; clear hs; simp only [fillG, List.set_cons_zero, List.set_cons_succ]; refine want_n rfl ?_; go_wp2_with (first | fail); simp only [DoneG, fillG, List.set_cons_zero, List.set_cons_succ, relG, eqG, eqG1, eqG2, eqG3, gdG, gdG1, gnG, gnG1, List.getD_cons_zero, List.getD_cons_succ, List.getElem?_cons_succ, List.getElem?_cons_zero, Option.map_some, Option.getD_some, valsG, List.map_cons, List.map_nil, List.length_cons, List.length_nil]; exact ⟨_, rfl, (by first | with_reducible assumption | exact krg _ | exact Keep.al (krg _) _), fun _ _ => rfl⟩)
        · (have d14 := hd; clear hd; subst d14; clear hs; simp only [fillG, List.set_cons_zero, List.set_cons_succ]; refine want_n rfl ?_; go_wp2_with (first | fail); simp only [DoneG, fillG, List.set_cons_zero, List.set_cons_succ, relG, eqG, eqG1, eqG2, eqG3, gdG, gdG1, gnG, gnG1, List.getD_cons_zero, List.getD_cons_succ, List.getElem?_cons_succ, List.getElem?_cons_zero, Option.map_some, Option.getD_some, valsG, List.map_cons, List.map_nil, List.length_cons, List.length_nil]; exact ⟨_, rfl, (by first | with_reducible assumption | exact krg _ | exact Keep.al (krg _) _), fun _ _ => rfl⟩)
        · (have d15 := hd; clear hd; subst d15; clear hs; simp only [fillG, List.set_cons_zero, List.set_cons_succ]; refine want_y rfl ?_; go_wp2_with (first | fail); simp only [DoneG, fillG, List.set_cons_zero, List.set_cons_succ, relG, eqG, eqG1, eqG2, eqG3, gdG, gdG1, gnG, gnG1, List.getD_cons_zero, List.getD_cons_succ, List.getElem?_cons_succ, List.getElem?_cons_zero, Option.map_some, Option.getD_some, valsG, List.map_cons, List.map_nil, List.length_cons, List.length_nil]; exact ⟨_, rfl, (by first | with_reducible assumption | exact krg _ | exact Keep.al (krg _) _), fun _ _ => rfl⟩)
        · (obtain ⟨d15, d16⟩ := hd; subst d15; subst d16; clear hs; simp only [fillG, List.set_cons_zero, List.set_cons_succ]; refine want_y rfl ?_; go_wp2_with (first | fail); simp only [DoneG, fillG, List.set_cons_zero, List.set_cons_succ, relG, eqG, eqG1, eqG2, eqG3, gdG, gdG1, gnG, gnG1, List.getD_cons_zero, List.getD_cons_succ, List.getElem?_cons_succ, List.getElem?_cons_zero, Option.map_some, Option.getD_some, valsG, List.map_cons, List.map_nil, List.length_cons, List.length_nil]; exact ⟨_, rfl, (by first | with_reducible assumption | exact krg _ | exact Keep.al (krg _) _), fun _ _ => rfl⟩)
        · (obtain ⟨d15, d17⟩ := hd; subst d15; subst d17; clear hs; simp only [fillG, List.set_cons_zero, List.set_cons_succ]; refine want_y rfl ?_; go_wp2_with (first | fail); simp only [DoneG, fillG, List.set_cons_zero, List.set_cons_succ, relG, eqG, eqG1, eqG2, eqG3, gdG, gdG1, gnG, gnG1, List.getD_cons_zero, List.getD_cons_succ, List.getElem?_cons_succ, List.getElem?_cons_zero, Option.map_some, Option.getD_some, valsG, List.map_cons, List.map_nil, List.length_cons, List.length_nil]; exact ⟨_, rfl, (by first | with_reducible assumption | exact krg _ | exact Keep.al (krg _) _), fun _ _ => rfl⟩)
        · (obtain ⟨d15, d18⟩ := hd; subst d15; subst d18; clear hs; simp only [fillG, List.set_cons_zero, List.set_cons_succ]; have hKW := Keep.tr (Keep.dr (Keep.rf _)) (hE rfl); have c2 := Keep.cell hKW c2; have c3 := Keep.cell hKW c3; have b0 := Keep.cell hKW b0; have b1 := Keep.cell hKW b1; have b2 := Keep.cell hKW b2; have x0 := Keep.cell hKW x0; have x1 := Keep.cell hKW x1; have x2 := Keep.cell hKW x2; refine want_y rfl ?_; go_wp2_with (first | fail); simp only [DoneG, fillG, List.set_cons_zero, List.set_cons_succ, relG, eqG, eqG1, eqG2, eqG3, gdG, gdG1, gnG, gnG1, List.getD_cons_zero, List.getD_cons_succ, List.getElem?_cons_succ, List.getElem?_cons_zero, Option.map_some, Option.getD_some, valsG, List.map_cons, List.map_nil, List.length_cons, List.length_nil]; exact ⟨_, rfl, (by first | with_reducible assumption | exact krg _ | exact Keep.al (krg _) _), fun _ _ => rfl⟩)
        · (have d15 := hd; clear hd; subst d15; clear hs; simp only [fillG, List.set_cons_zero, List.set_cons_succ]; refine want_y rfl ?_; go_wp2_with (first | fail); simp only [DoneG, fillG, List.set_cons_zero, List.set_cons_succ, relG, eqG, eqG1, eqG2, eqG3, gdG, gdG1, gnG, gnG1, List.getD_cons_zero, List.getD_cons_succ, List.getElem?_cons_succ, List.getElem?_cons_zero, Option.map_some, Option.getD_some, valsG, List.map_cons, List.map_nil, List.length_cons, List.length_nil]; exact ⟨_, rfl, (by first | with_reducible assumption | exact krg _ | exact Keep.al (krg _) _), fun _ _ => rfl⟩)
        · (obtain ⟨d15, d19, d20⟩ := hd; subst d15; subst d19; subst d20; clear hs; simp only [fillG, List.set_cons_zero, List.set_cons_succ]; refine want_y rfl ?_; go_wp2_with (first | fail); simp only [DoneG, fillG, List.set_cons_zero, List.set_cons_succ, relG, eqG, eqG1, eqG2, eqG3, gdG, gdG1, gnG, gnG1, List.getD_cons_zero, List.getD_cons_succ, List.getElem?_cons_succ, List.getElem?_cons_zero, Option.map_some, Option.getD_some, valsG, List.map_cons, List.map_nil, List.length_cons, List.length_nil]; exact ⟨_, rfl, (by first | with_reducible assumption | exact krg _ | exact Keep.al (krg _) _), fun _ _ => rfl⟩)
        · (obtain ⟨d15, d21⟩ := hd; subst d15; subst d21; clear hs; simp only [fillG, List.set_cons_zero, List.set_cons_succ]; have hKW := Keep.tr (Keep.dr (Keep.rf _)) (hE rfl); have c2 := Keep.cell hKW c2; have c3 := Keep.cell hKW c3; have b0 := Keep.cell hKW b0; have b1 := Keep.cell hKW b1; have b2 := Keep.cell hKW b2; have x0 := Keep.cell hKW x0; have x1 := Keep.cell hKW x1; have x2 := Keep.cell hKW x2; refine want_y rfl ?_; go_wp2_with (first | fail); simp only [DoneG, fillG, List.set_cons_zero, List.set_cons_succ, relG, eqG, eqG1, eqG2, eqG3, gdG, gdG1, gnG, gnG1, List.getD_cons_zero, List.getD_cons_succ, List.getElem?_cons_succ, List.getElem?_cons_zero, Option.map_some, Option.getD_some, valsG, List.map_cons, List.map_nil, List.length_cons, List.length_nil]; exact ⟨_, rfl, (by first | with_reducible assumption | exact krg _ | exact Keep.al (krg _) _), fun _ _ => rfl⟩)
        · (have d15 := hd; clear hd; subst d15; clear hs; simp only [fillG, List.set_cons_zero, List.set_cons_succ]; have hKW := Keep.tr (Keep.dr (Keep.rf _)) (hE rfl); have c2 := Keep.cell hKW c2; have c3 := Keep.cell hKW c3; have b0 := Keep.cell hKW b0; have b1 := Keep.cell hKW b1; have b2 := Keep.cell hKW b2; have x0 := Keep.cell hKW x0; have x1 := Keep.cell hKW x1; have x2 := Keep.cell hKW x2; refine want_y rfl ?_; go_wp2_with (first | fail); simp only [DoneG, fillG, List.set_cons_zero, List.set_cons_succ, relG, eqG, eqG1, eqG2, eqG3, gdG, gdG1, gnG, gnG1, List.getD_cons_zero, List.getD_cons_succ, List.getElem?_cons_succ, List.getElem?_cons_zero, Option.map_some, Option.getD_some, valsG, List.map_cons, List.map_nil, List.length_cons, List.length_nil]; exact ⟨_, rfl, (by first | with_reducible assumption | exact krg _ | exact Keep.al (krg _) _), fun _ _ => rfl⟩)
        · (obtain ⟨d15, d22, d23⟩ := hd; subst d15; subst d22; subst d23; clear hs; simp only [fillG, List.set_cons_zero, List.set_cons_succ]; have hKW := Keep.tr (Keep.dr (Keep.rf _)) (hE rfl); have c2 := Keep.cell hKW c2; have c3 := Keep.cell hKW c3; have b0 := Keep.cell hKW b0; have b1 := Keep.cell hKW b1; have b2 := Keep.cell hKW b2; have x0 := Keep.cell hKW x0; have x1 := Keep.cell hKW x1; have x2 := Keep.cell hKW x2; refine want_y rfl ?_; go_wp2_with (first | (go_at_call 60; refine (refSameT _ _ _ _ _ ⟨_, _, rfl, HTY.out.keep hKW⟩ ⟨_, _, rfl, HT3.out.ty.keep hKW⟩).mono ?_; rintro e w9 ⟨rfl, k9⟩; rw [HE.out]) | fail); simp only [DoneG, fillG, List.set_cons_zero, List.set_cons_succ, relG, eqG, eqG1, eqG2, eqG3, gdG, gdG1, gnG, gnG1, List.getD_cons_zero, List.getD_cons_succ, List.getElem?_cons_succ, List.getElem?_cons_zero, Option.map_some, Option.getD_some, valsG, List.map_cons, List.map_nil, List.length_cons, List.length_nil]; exact ⟨_, rfl, (by first | with_reducible assumption | exact krg _ | exact Keep.al (krg _) _), fun W9 hk9 => rfl⟩)
        · (obtain ⟨d15, d24⟩ := hd; subst d15; subst d24; clear hs; simp only [fillG, List.set_cons_zero, List.set_cons_succ]; refine want_y rfl ?_; go_wp2_with (first | fail); simp only [DoneG, fillG, List.set_cons_zero, List.set_cons_succ, relG, eqG, eqG1, eqG2, eqG3, gdG, gdG1, gnG, gnG1, List.getD_cons_zero, List.getD_cons_succ, List.getElem?_cons_succ, List.getElem?_cons_zero, Option.map_some, Option.getD_some, valsG, List.map_cons, List.map_nil, List.length_cons, List.length_nil]; exact ⟨_, rfl, (by first | with_reducible assumption | exact krg _ | exact Keep.al (krg _) _), fun _ _ => rfl⟩)
        · (obtain ⟨d15, d25⟩ := hd; subst d15; subst d25; clear hs; simp only [fillG, List.set_cons_zero, List.set_cons_succ]; refine want_n rfl ?_; go_wp2_with (first | fail); simp only [DoneG, fillG, List.set_cons_zero, List.set_cons_succ, relG, eqG, eqG1, eqG2, eqG3, gdG, gdG1, gnG, gnG1, List.getD_cons_zero, List.getD_cons_succ, List.getElem?_cons_succ, List.getElem?_cons_zero, Option.map_some, Option.getD_some, valsG, List.map_cons, List.map_nil, List.length_cons, List.length_nil]; exact ⟨_, rfl, (by first | with_reducible assumption | exact krg _ | exact Keep.al (krg _) _), fun _ _ => rfl⟩)
      (intro us W h9 hW hE hA; obtain ⟨u0, u1, u2, u3, u4, u5, u6, u7, u8, u9, u10, u11, u12, u13, u14, u15, u16, u17, u18, u19, u20, u21, u22, u23, u24, u25, u26, rfl⟩ := rog 27 h9 rfl; clear h9; simp only [AllG, AtG, and_true, relG, eqG, eqG1, eqG2, eqG3, gdG, gdG1, gnG, gnG1, List.getD_cons_zero, List.getD_cons_succ, List.getElem?_cons_succ, List.getElem?_cons_zero, Option.map_some, Option.getD_some, valsG, List.map_cons, List.map_nil, List.length_cons, List.length_nil] at hA; have d26 := hA; clear hA; subst d26; simp only [fillG, List.set_cons_zero, List.set_cons_succ]; have hKW := Keep.tr (Keep.dr (Keep.rf _)) hW; clear hW hE)
      have hM4 := HM3.out.keep hKW
      have HF := hide (rvFail 2 hM4)
      have hR4 := (hKW.frm fun _ => False).heap (fun h => h) HR3.out
      have r0 := top_cells hR4 0
      have r1 := top_cells hR4 1
      have f0 := top_free hR4 0
      have f1 := top_free hR4 1
      simp only [List.getElem?_toArray, List.getElem?_cons_succ, List.getElem?_cons_zero] at r0 r1
      have HR4 := hide hR4
      have HK4 := hide hKW
      have HM4 := hide hM4
      clear hR4 hKW hM4
      cases bb
      · go_wp2_with fail
        refine HF.out.mono ?_
        rintro e w5 ⟨rfl, hm5, hw5⟩
        rw [failE_0] at hm5
        have hR5 := hw5.heap HNR3.out HR4.out
        have HNR5 := hide (hw5.out (Nat.lt_of_lt_of_le HRL3.out HK4.out.size) HNR3.out)
        have r0 := top_cells hR5 0
        have r1 := top_cells hR5 1
        have f0 := top_free hR5 0
        have f1 := top_free hR5 1
        simp only [List.getElem?_toArray, List.getElem?_cons_succ, List.getElem?_cons_zero] at r0 r1
        have HR5 := hide hR5
        have HM5 := hide hm5
        have HW5 := hide ((HW3.out.tr (RWent.of_keep HK4.out)).tr hw5)
        clear hR5 hm5 hw5 HF
        go_wp2_with fail
        refine bodyPost_ret_by (results_cell_row rfl _ _ (w.heap.size + 1) 59 _ (0, 0) _ rfl (heap_set2R HR5.out _ _) Tryz.underlying59 rfl ?_) rfl ?_
        · kernel_rfl
        · rw [HX1.out, HE.out, if_neg (by decide)]
          exact ⟨(false, 0), s1, 2, rfl, (by decide : (Lit.int .i64 0).wf = true), ⟨Z, _, _, its, tys, ⟨_, HM5.out.far (frm_set2R _ _ _ _) HNR5.out H0R.out⟩, HW5.out.far (by omega) (frm_set2R _ _ _ _)⟩, .inr ⟨.inl rfl, rfl⟩⟩
      · go_wp2_with fail
        refine bodyPost_ret_by (results_cell_row rfl _ _ (w.heap.size + 1) 59 _ (0, 0) _ rfl (heap_set2R HR4.out _ _) Tryz.underlying59 rfl ?_) rfl ?_
        · kernel_rfl
        · rw [HX1.out, HE.out, if_pos rfl]
          exact ⟨(false, (i : Int)), s1, 0, rfl, imm_wf (by omega) (by omega), ⟨Z, _, _, its, tys, ⟨_, HM4.out.far (frm_set2R _ _ _ _) HNR3.out H0R.out⟩, (HW3.out.tr (RWent.of_keep HK4.out)).far (by omega) (frm_set2R _ _ _ _)⟩, .inl ⟨rfl, rfl⟩⟩
end
end Go.Proofs.YtoehaijmkmdggaaGreat
