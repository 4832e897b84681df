/- Walks: the reader of the reference: a block that comes the first time (with fields). -/
import Derived.Test.YtoehaijmkmdggaaGreatGRvX
set_option linter.unusedSimpArgs false
set_option linter.unusedVariables false
namespace Go.Proofs.YtoehaijmkmdggaaGreat
open Go.RowKit
open Em (Ty)
set_option linter.unusedVariables false
set_option linter.unusedSimpArgs false
set_option maxRecDepth 100000
section
variable {B f : Nat} {Z : Nat → Prop} {w0 w : World} {p : Nat} {bv lv tv : Value} {its : List (Em.Blk × Value)} {tys : List (Ty × List Value)} {s s1 : Em.Rd}
set_option maxHeartbeats 8000000 in
theorem rvNode_kidsM (t : Ty) (d : Nat) (cs : List Value) (h : RdM 91 B Z w0 w p bv lv tv [.int .i64 0] its tys s) (ht : TyI (fun k => k < w0.heap.size ∨ Z k) d w cs t) (hok : Em.okS t = true) (hp : ¬ Em.isPl t.op) (hop : ¬ t.op = Em.wList ∧ ¬ t.op = Em.wString) (hnum : Em.numP s = .ok 0 s1) (hlt : its.length < 2000) (hf : 2000 - its.length < f + 1) (ih : NodeX B w0 p f) :
    Calls Tryz.prog 36 #[.pointer (some ⟨p, 0, none⟩), .agg cs.toArray] w (ValX 91 B Z w0 w p lv tv its (Em.blkP (Em.valP f) t s1)) := by
  cases d with
  | zero => exact ht.elim
  | succ d =>
    have HT0 := hide ht
    have HOK := hide hok
    have HP := hide hp
    obtain ⟨v, rfl, hn, hs, hin⟩ := ht
    obtain ⟨A, c, rfl, _⟩ := id hs
    obtain ⟨o, n, ks⟩ := t
    simp only [Em.Ty.op, Em.Ty.n, Em.Ty.kids] at *
    have hnl : ¬ o = [108, 105, 115, 116] := hop.1
    have hns : ¬ o = [115, 116, 114, 105, 110, 103] := hop.2
    have ka : Keep w ((w.alloc (.cells #[.string (str o), .int .i64 n, .slice A ks.length c] 25)).alloc (.cells #[.bool false, .int .i64 0] 59)) := (by repeat (first | exact Keep.rf _ | assumption | apply Keep.al | apply Keep.dr | apply Keep.dn))
    have hB := (Keep.frm (Keep.al (Keep.rf (w.alloc (.cells #[.string (str o), .int .i64 n, .slice A ks.length c] 25))) (.cells #[.bool false, .int .i64 0] 59)) (fun _ => False)).heap (fun h => h) (heap_alloc_new w (.cells #[.string (str o), .int .i64 n, .slice A ks.length c] 25))
    have hR := new_second w (.cells #[.string (str o), .int .i64 n, .slice A ks.length c] 25) (.cells #[.bool false, .int .i64 0] 59)
    have hnr : ¬ HasR Z p lv tv its (w.heap.size + 1) := fun e => by have := (h.lt _ e).2; omega
    have hnb : ¬ HasR Z p lv tv its w.heap.size := fun e => by have := (h.lt _ e).2; omega
    have HRL := hide (show w.heap.size + 1 < ((w.alloc (.cells #[.string (str o), .int .i64 n, .slice A ks.length c] 25)).alloc (.cells #[.bool false, .int .i64 0] 59)).heap.size from by simp)
    have h0r : w0.heap.size ≤ w.heap.size + 1 := by have := h.k0.size; omega
    have H0R := hide h0r
    have hM1 := h.keep ka
    have HT1 := hide (HT0.out.keep ka)
    have HPL := hide (refPlain22 HT1.out.ty HOK.out)
    have HM1 := hide hM1
    have b0 := top_cells hB 0
    have b1 := top_cells hB 1
    have b2 := top_cells hB 2
    have c3 := top_cells hM1.top 3
    simp only [List.getElem?_toArray, List.getElem?_cons_succ, List.getElem?_cons_zero] at b0 b1 b2 c3
    have HR := hide hR
    have HB := hide hB
    have KA := hide ka
    have HNR := hide hnr
    have HNB := hide hnb
    have hlim := h.lim
    have hO := opB o
    clear hR ka h hB hs hin hn hM1 HT0 hp hok hnr hnb h0r
    go_enter Tryz.func36, Tryz.ntmps36
    go_wp2_with fail
    generalize World.alloc (World.alloc w _) _ = w1 at *
    refine HPL.out.mono ?_
    rintro e w2 ⟨rfl, k2⟩
    clear HPL
    have hpd : decide (Em.isPl (Ty.op (.mk o n ks))) = false := decide_eq_false HP.out
    rw [hpd]
    clear hpd
    have HM2 := hide (HM1.out.keep k2)
    have hB2 := (k2.frm fun _ => False).heap (fun h => h) HB.out
    have HR2 := hide ((k2.frm fun _ => False).heap (fun h => h) HR.out)
    have HT2 := hide (HT1.out.keep k2)
    have KA2 := hide (Keep.tr KA.out k2)
    have HRL2 := hide (Nat.lt_of_lt_of_le HRL.out k2.size)
    have HN := hide (rvNumber HM2.out)
    have HB2 := hide hB2
    clear hB2 k2 b0 b1 b2 c3 HT1 HB HR KA
    go_wp2_with fail
    refine HN.out.mono ?_
    rintro e w3 ⟨v, s3, cE, rfl, hv, ⟨bv3, hm3⟩, hw3, hend⟩
    clear HN
    have hB3 := hw3.heap HNB.out HB2.out
    have hR3 := hw3.heap HNR.out HR2.out
    have HNR3 := hide (hw3.out HRL2.out HNR.out)
    have HNB3 := hide (hw3.out (Nat.lt_trans (Nat.lt_succ_self _) HRL2.out) HNB.out)
    have HT3 := hide (hw3.ty HM2.out HT2.out)
    have b0 := top_cells hB3 0
    have b1 := top_cells hB3 1
    have b2 := top_cells hB3 2
    have r0 := top_cells hR3 0
    have r1 := top_cells hR3 1
    have f0 := top_free hR3 0
    have f1 := top_free hR3 1
    have c1 := top_cells hm3.top 1
    have c2 := top_cells hm3.top 2
    have c3 := top_cells hm3.top 3
    simp only [List.getElem?_toArray, List.getElem?_cons_succ, List.getElem?_cons_zero] at b0 b1 b2 r0 r1 c1 c2 c3
    have HB3 := hide hB3
    have HR3 := hide hR3
    have HM3 := hide hm3
    have HW3 := hide ((RWent.of_keep KA2.out).tr hw3)
    have HRL3 := hide (Nat.lt_of_lt_of_le HRL2.out hw3.frm.size)
    clear hB3 hR3 hm3 hw3
    clear HB2 HR2 HM2 HT2 KA2 HRL2 HNR HNB HM1 HRL
    obtain ⟨rfl, e3⟩ : cE = 0 ∧ Em.numP s = .ok v s3 := by
      rcases hend with h | ⟨_, _, e⟩
      · exact h
      · rw [hnum] at e; cases e
    rw [hnum] at e3
    cases e3
    clear hend
    have hlt2 : tys.length < 2000 := by have := HM3.out.len; omega
    have hlti : ¬ (tys.length : Int) ≥ 2000 := by omega
    have hlen := HM3.out.len
    have HLEN := hide hlen
    have HL20 := hide (show its.length < 2000 from hlt)
    have HF := hide hf
    clear hf
    obtain ⟨A9, c9, rfl⟩ := own_slice HM3.out.tow
    obtain ⟨A0, c0, rfl⟩ := own_slice HM3.out.row
    have hsz3 : w.heap.size + 2 ≤ w3.heap.size := by have := HRL3.out; omega
    have HBW := hide (show B ≤ w3.heap.size from by have := HM3.out.ltO p (.inl rfl); omega)
    have HP3 := hide (HM3.out.lt p (.inl (.inl rfl))).2
    have HTAG := hide (fun W (k : Keep w3 W) => refTag22 (HT3.out.ty.keep k) HOK.out HP.out)
    have X0 := hide b0
    have X1 := hide b1
    have X2 := hide b2
    clear hlen hlt
    go_wp2_with fail
    go_cut [] (fun W => ∃ v4, TPush w3 p B bv3 (.slice A0 its.length c0) (.slice A9 tys.length c9) [.int .i64 0] 91 ((tys.map (·.2)).flatten ++ [.string (str o), .int .i64 n, .slice A ks.length c]) (tys.length + 1) v4 W)
    case first =>
      have hi1 : (tys.length : Int) < (tys.length : Int) + 1 := by omega
      have b0' := fun o => Keep.cell (Keep.al (Keep.rf w3) o) b0
      have b1' := fun o => Keep.cell (Keep.al (Keep.rf w3) o) b1
      have b2' := fun o => Keep.cell (Keep.al (Keep.rf w3) o) b2
      have c2' := fun o => Keep.cell (Keep.al (Keep.rf w3) o) c2
      go_region_law (refine step_app rfl (.tmp 98) (.tmp 101) 23 rfl B 25 _ 3 48 Tryz.underlying23 infoTyR rfl (by omega) _ tys.length _ (by rfl) (own_keep HM3.out.tow (by repeat (first | exact Keep.rf _ | assumption | apply Keep.al | apply Keep.dr | apply Keep.dn))) _ 1 _ (by rfl) (src3 (heap_alloc_new _ _)) (fun u hu => by simp at hu; rcases hu with rfl | rfl | rfl <;> rfl) (by simp only [maxLen]; omega) (by omega) (Nat.le_trans HBW.out (Below.size (by repeat (first | exact Keep.rf _ | assumption | apply Keep.al | apply Keep.dr | apply Keep.dn)))) ?_; intro v4 w4 ha4; obtain ⟨g4, c4, e4⟩ := own_at1 ha4.1; subst e4; have HA4 := hide ha4; obtain ⟨⟨q2, q2f⟩, ⟨y0, y0f⟩, ⟨y1, y1f⟩, ⟨y2, y2f⟩, q6, q7, -⟩ := push_facts HM3.out (by repeat (first | exact Keep.rf _ | assumption | apply Keep.al | apply Keep.dr | apply Keep.dn)) ha4; clear ha4)
      all_goals
        first
          | (simp only [Exit.then]; go_meet)
          | (go_wp2_with fail; go_meet)
        exact ⟨_, TPush.mk HM3.out (by repeat (first | exact Keep.rf _ | assumption | apply Keep.al | apply Keep.dr | apply Keep.dn)) HA4.out rfl (by first | exact .inl rfl | exact .inr rfl)⟩
    case rest =>
      rename World => w6
      obtain ⟨v4, h4⟩ := hcut
      have hx6 : ∀ {k : Nat} {o : Obj}, ¬ k = p → ¬ (Value.slice A9 tys.length c9).ownBlock = some k → w3.heap[k]? = some o → w6.heap[k]? = some o := fun h1 h2 h => h4.1.heap (fun e => e.elim h1 h2) h
      have hB6 := hx6 (fun e => HNB3.out (.inl (.inl e))) (fun e => HNB3.out (.inl (.inr (.inr (.inl e))))) HB3.out
      have hs36 := h4.1.size
      have HT6 := hide (HT3.out.frm h4.1 fun k hk e => HM3.out.apart hk (e.elim .inl fun e => .inr (.inr (.inl e))))
      have HROW6 := hide (h4.1.own HM3.out.row fun k e e2 => e2.elim (HM3.out.d1 k e).1 (HM3.out.d1 k e).2)
      have HTAG6 := hide (fun W (k : Keep w6 W) => refTag22 ((HT6.out.ty).keep k) HOK.out HP.out)
      have HLP := hide (fun k (e : (Value.slice A0 its.length c0).ownBlock = some k) => Nat.lt_of_lt_of_le (HM3.out.lt k (.inl (.inr (.inl e)))).2 hs36)
      have HBW6 := hide (Nat.le_trans HBW.out hs36)
      have e1 := top_cells h4.2.1 1
      have x0 := top_cells hB6 0
      have x1 := top_cells hB6 1
      have x2 := top_cells hB6 2
      simp only [List.getElem?_toArray, List.getElem?_cons_succ, List.getElem?_cons_zero] at e1 x0 x1 x2
      have HB6 := hide hB6
      have H4 := hide h4
      clear h4 hx6 hB6 HTAG c1 c2 c3 b0 b1 b2 r0 r1 f0 f1 hlti
      go_wp2_with fail
      apply region_last 12 _ (by kernel_rfl) Keep (Frm (fun k => (Value.slice A0 its.length c0).ownBlock = some k)) krg ktg (Frm.rf _) (fun _ _ _ => Frm.tr) (fun _ _ h => Keep.frm h _) [some 106, some 107, some 108, some 109, some 110, some 111, some 112, some 113, some 114, some 115, some 116, some 117, none] [eqG _ , eqG _ , eqG _ , eqG _ , eqG _ , eqG _ , fun us _ v => v = .int .i64 (Em.tagT o), fun us _ v => v = .agg #[.int .i64 (Em.tagT o), .string (str []), .slice none 0 0], fun us W v => OneN w6.heap.size (.int .i64 (Em.tagT o)) (.string (str [])) (.slice none 0 0) 72 W v, fun us W v => BPush w6 B (.slice A0 its.length c0) its (Em.tagT o) W v, eqG _ , eqG _ , fun _ _ _ => True] [⟨[], [], false, false, false⟩, ⟨[], [], true, false, false⟩, ⟨[1], [], true, false, false⟩, ⟨[2], [], true, false, false⟩, ⟨[3], [], true, false, false⟩, ⟨[], [], true, false, false⟩, ⟨[5], [], true, false, false⟩, ⟨[6], [], true, false, false⟩, ⟨[7], [], true, false, true⟩, ⟨[4, 8], [], true, true, true⟩, ⟨[0], [], false, false, false⟩, ⟨[10], [], false, false, false⟩, ⟨[9, 11], [], false, false, false⟩] [9, 11] (by kernel_rfl) (by kernel_rfl) (by kernel_rfl) rfl (by kernel_rfl)
      · refine ⟨?_, ?_, ?_, ?_, ?_, ?_, ?_, ?_, ?_, ?_, ?_, ?_, trivial⟩ <;> (intro us W h9 hW hE hd hs K hK; obtain ⟨u0, u1, u2, u3, u4, u5, u6, u7, u8, u9, u10, u11, u12, rfl⟩ := rog 13 h9 rfl; clear h9; try simp only [DepG, AtG, and_true, relG, eqG, eqG1, eqG2, eqG3, gdG, gdG1, gnG, gnG1, List.getD_cons_zero, List.getD_cons_succ, List.getElem?_cons_succ, List.getElem?_cons_zero, Option.map_some, Option.getD_some, valsG, List.map_cons, List.map_nil, List.length_cons, List.length_nil] at hd)
        · ((try clear hd); clear hs; simp only [fillG, List.set_cons_zero, List.set_cons_succ]; refine want_n rfl ?_; go_wp2_with (first | fail); simp only [DoneG, fillG, List.set_cons_zero, List.set_cons_succ, relG, eqG, eqG1, eqG2, eqG3, gdG, gdG1, gnG, gnG1, List.getD_cons_zero, List.getD_cons_succ, List.getElem?_cons_succ, List.getElem?_cons_zero, Option.map_some, Option.getD_some, valsG, List.map_cons, List.map_nil, List.length_cons, List.length_nil]; exact ⟨_, rfl, (by first | with_reducible assumption | exact krg _ | exact Keep.al (krg _) _), fun _ _ => rfl⟩)
        · ((try clear hd); clear hs; simp only [fillG, List.set_cons_zero, List.set_cons_succ]; refine want_n rfl ?_; go_wp2_with (first | fail); simp only [DoneG, fillG, List.set_cons_zero, List.set_cons_succ, relG, eqG, eqG1, eqG2, eqG3, gdG, gdG1, gnG, gnG1, List.getD_cons_zero, List.getD_cons_succ, List.getElem?_cons_succ, List.getElem?_cons_zero, Option.map_some, Option.getD_some, valsG, List.map_cons, List.map_nil, List.length_cons, List.length_nil]; exact ⟨_, rfl, (by first | with_reducible assumption | exact krg _ | exact Keep.al (krg _) _), fun _ _ => rfl⟩)
        · (have d1 := hd; clear hd; subst d1; clear hs; simp only [fillG, List.set_cons_zero, List.set_cons_succ]; refine want_n rfl ?_; go_wp2_with (first | fail); simp only [DoneG, fillG, List.set_cons_zero, List.set_cons_succ, relG, eqG, eqG1, eqG2, eqG3, gdG, gdG1, gnG, gnG1, List.getD_cons_zero, List.getD_cons_succ, List.getElem?_cons_succ, List.getElem?_cons_zero, Option.map_some, Option.getD_some, valsG, List.map_cons, List.map_nil, List.length_cons, List.length_nil]; exact ⟨_, rfl, (by first | with_reducible assumption | exact krg _ | exact Keep.al (krg _) _), fun _ _ => rfl⟩)
        · (have d2 := hd; clear hd; subst d2; clear hs; simp only [fillG, List.set_cons_zero, List.set_cons_succ]; refine want_n rfl ?_; go_wp2_with (first | fail); simp only [DoneG, fillG, List.set_cons_zero, List.set_cons_succ, relG, eqG, eqG1, eqG2, eqG3, gdG, gdG1, gnG, gnG1, List.getD_cons_zero, List.getD_cons_succ, List.getElem?_cons_succ, List.getElem?_cons_zero, Option.map_some, Option.getD_some, valsG, List.map_cons, List.map_nil, List.length_cons, List.length_nil]; exact ⟨_, rfl, (by first | with_reducible assumption | exact krg _ | exact Keep.al (krg _) _), fun _ _ => rfl⟩)
        · (have d3 := hd; clear hd; subst d3; clear hs; simp only [fillG, List.set_cons_zero, List.set_cons_succ]; have hKW := Keep.tr (Keep.dr (Keep.rf _)) (hE rfl); have e1 := Keep.cell hKW e1; have x0 := Keep.cell hKW x0; have x1 := Keep.cell hKW x1; have x2 := Keep.cell hKW x2; refine want_n rfl ?_; go_wp2_with (first | fail); simp only [DoneG, fillG, List.set_cons_zero, List.set_cons_succ, relG, eqG, eqG1, eqG2, eqG3, gdG, gdG1, gnG, gnG1, List.getD_cons_zero, List.getD_cons_succ, List.getElem?_cons_succ, List.getElem?_cons_zero, Option.map_some, Option.getD_some, valsG, List.map_cons, List.map_nil, List.length_cons, List.length_nil]; exact ⟨_, rfl, (by first | with_reducible assumption | exact krg _ | exact Keep.al (krg _) _), fun _ _ => rfl⟩)
        · ((try clear hd); clear hs; simp only [fillG, List.set_cons_zero, List.set_cons_succ]; have hKW := Keep.tr (Keep.dr (Keep.rf _)) (hE rfl); have e1 := Keep.cell hKW e1; have x0 := Keep.cell hKW x0; have x1 := Keep.cell hKW x1; have x2 := Keep.cell hKW x2; refine want_n rfl ?_; go_wp2_with (first | fail); simp only [DoneG, fillG, List.set_cons_zero, List.set_cons_succ, relG, eqG, eqG1, eqG2, eqG3, gdG, gdG1, gnG, gnG1, List.getD_cons_zero, List.getD_cons_succ, List.getElem?_cons_succ, List.getElem?_cons_zero, Option.map_some, Option.getD_some, valsG, List.map_cons, List.map_nil, List.length_cons, List.length_nil]; exact ⟨_, rfl, (by first | with_reducible assumption | exact krg _ | exact Keep.al (krg _) _), fun _ _ => rfl⟩)
        · (have d5 := hd; clear hd; subst d5; clear hs; simp only [fillG, List.set_cons_zero, List.set_cons_succ]; have hKW := Keep.tr (Keep.dr (Keep.rf _)) (hE rfl); have e1 := Keep.cell hKW e1; have x0 := Keep.cell hKW x0; have x1 := Keep.cell hKW x1; have x2 := Keep.cell hKW x2; refine want_n rfl ?_; go_wp2_with (first | (go_at_call 61; refine (HTAG6.out _ hKW).mono ?_; rintro e w' ⟨rfl, kT⟩) | fail); simp only [DoneG, fillG, List.set_cons_zero, List.set_cons_succ, relG, eqG, eqG1, eqG2, eqG3, gdG, gdG1, gnG, gnG1, List.getD_cons_zero, List.getD_cons_succ, List.getElem?_cons_succ, List.getElem?_cons_zero, Option.map_some, Option.getD_some, valsG, List.map_cons, List.map_nil, List.length_cons, List.length_nil]; exact ⟨_, rfl, (by first | with_reducible assumption | exact krg _ | exact Keep.al (krg _) _), fun W9 hk9 => rfl⟩)
        · (have d6 := hd; clear hd; subst d6; clear hs; simp only [fillG, List.set_cons_zero, List.set_cons_succ]; have hKW := Keep.tr (Keep.dr (Keep.rf _)) (hE rfl); have e1 := Keep.cell hKW e1; have x0 := Keep.cell hKW x0; have x1 := Keep.cell hKW x1; have x2 := Keep.cell hKW x2; refine want_n rfl ?_; go_wp2_with (first | fail); simp only [DoneG, fillG, List.set_cons_zero, List.set_cons_succ, relG, eqG, eqG1, eqG2, eqG3, gdG, gdG1, gnG, gnG1, List.getD_cons_zero, List.getD_cons_succ, List.getElem?_cons_succ, List.getElem?_cons_zero, Option.map_some, Option.getD_some, valsG, List.map_cons, List.map_nil, List.length_cons, List.length_nil]; exact ⟨_, rfl, (by first | with_reducible assumption | exact krg _ | exact Keep.al (krg _) _), fun _ _ => rfl⟩)
        · (have d7 := hd; clear hd; subst d7; clear hs; simp only [fillG, List.set_cons_zero, List.set_cons_succ]; have hKW := Keep.tr (Keep.dr (Keep.rf _)) (hE rfl); have e1 := Keep.cell hKW e1; have x0 := Keep.cell hKW x0; have x1 := Keep.cell hKW x1; have x2 := Keep.cell hKW x2; refine want_n rfl ?_; go_wp2_with (first | fail); simp only [DoneG, fillG, List.set_cons_zero, List.set_cons_succ, relG, eqG, eqG1, eqG2, eqG3, gdG, gdG1, gnG, gnG1, List.getD_cons_zero, List.getD_cons_succ, List.getElem?_cons_succ, List.getElem?_cons_zero, Option.map_some, Option.getD_some, valsG, List.map_cons, List.map_nil, List.length_cons, List.length_nil]; exact ⟨_, rfl, (by first | with_reducible assumption | exact krg _ | exact Keep.al (krg _) _), fun W9 hk9 => OneN.frm ⟨_, hW.size, rfl, heap_alloc_new _ _⟩ (hk9.frm fun k => (Value.slice A0 its.length c0).ownBlock = some k) HLP.out⟩)
        · (obtain ⟨d4, d8⟩ := hd; subst d4; clear hs; simp only [fillG, List.set_cons_zero, List.set_cons_succ]; have hKW := Keep.tr (Keep.dr (Keep.rf _)) (hE rfl); have e1 := Keep.cell hKW e1; have x0 := Keep.cell hKW x0; have x1 := Keep.cell hKW x1; have x2 := Keep.cell hKW x2; refine want_n rfl ?_; refine wp_app (.tmp 110) (.tmp 114) 60 rfl B 72 _ 3 48 Tryz.underlying60 infoBlk rfl (by omega) _ its.length _ rfl (own_keep HROW6.out hKW) _ 1 _ rfl (OneN.src d8) (fun u hu => by simp at hu; rcases hu with rfl | rfl | rfl <;> rfl) (by simp only [maxLen]; omega) (by omega) (Nat.le_trans HBW6.out hW.size) ?_; intro v9 w9 ha9; have hrel9 : Frm (fun k => (Value.slice A0 its.length c0).ownBlock = some k) W w9 := Frm.of_grown ha9.2.1 fun _ e => e; refine hK _ _ ?_; simp only [DoneG, fillG, List.set_cons_zero, List.set_cons_succ, relG, eqG, eqG1, eqG2, eqG3, gdG, gdG1, gnG, gnG1, List.getD_cons_zero, List.getD_cons_succ, List.getElem?_cons_succ, List.getElem?_cons_zero, Option.map_some, Option.getD_some, valsG, List.map_cons, List.map_nil, List.length_cons, List.length_nil]; exact ⟨_, rfl, (by first | with_reducible assumption | exact trivial), fun W9 hk9 => (BPush.mk hKW ha9).keep hk9⟩)
        · (have d0 := hd; clear hd; subst d0; clear hs; simp only [fillG, List.set_cons_zero, List.set_cons_succ]; refine want_n rfl ?_; go_wp2_with (first | fail); simp only [DoneG, fillG, List.set_cons_zero, List.set_cons_succ, relG, eqG, eqG1, eqG2, eqG3, gdG, gdG1, gnG, gnG1, List.getD_cons_zero, List.getD_cons_succ, List.getElem?_cons_succ, List.getElem?_cons_zero, Option.map_some, Option.getD_some, valsG, List.map_cons, List.map_nil, List.length_cons, List.length_nil]; exact ⟨_, rfl, (by first | with_reducible assumption | exact krg _ | exact Keep.al (krg _) _), fun _ _ => rfl⟩)
        · (have d10 := hd; clear hd; subst d10; clear hs; simp only [fillG, List.set_cons_zero, List.set_cons_succ]; refine want_n rfl ?_; go_wp2_with (first | fail); simp only [DoneG, fillG, List.set_cons_zero, List.set_cons_succ, relG, eqG, eqG1, eqG2, eqG3, gdG, gdG1, gnG, gnG1, List.getD_cons_zero, List.getD_cons_succ, List.getElem?_cons_succ, List.getElem?_cons_zero, Option.map_some, Option.getD_some, valsG, List.map_cons, List.map_nil, List.length_cons, List.length_nil]; exact ⟨_, rfl, (by first | with_reducible assumption | exact krg _ | exact Keep.al (krg _) _), fun _ _ => rfl⟩)
      (intro us W7 h9 hW hE hA hl9; obtain ⟨u0, u1, u2, u3, u4, u5, u6, u7, u8, u9, u10, u11, u12, rfl⟩ := rog 13 h9 rfl; clear h9; clear hl9; simp only [AllG, AtG, and_true, relG, eqG, eqG1, eqG2, eqG3, gdG, gdG1, gnG, gnG1, List.getD_cons_zero, List.getD_cons_succ, List.getElem?_cons_succ, List.getElem?_cons_zero, Option.map_some, Option.getD_some, valsG, List.map_cons, List.map_nil, List.length_cons, List.length_nil] at hA; obtain ⟨d9, d11⟩ := hA; subst d11; simp only [fillG, List.set_cons_zero, List.set_cons_succ]; refine want_n rfl ?_)
      obtain ⟨hdP, hwP⟩ := TPush.done (ty := .mk o n ks) HM3.out (tagT_wf _) ⟨_, HT3.out⟩ HL20.out H4.out d9
      obtain ⟨Af, nf, cf, ef⟩ : ∃ A n c, u9 = Value.slice A n c := by
        obtain ⟨A, c, e⟩ := own_slice hdP.row
        exact ⟨_, _, _, e⟩
      subst ef
      have FL : Frm (fun k => (Value.slice A0 its.length c0).ownBlock = some k) w6 W7 := ((Keep.dr (Keep.rf _)).frm _).tr hW
      have htp := FL.heap (fun e => (HM3.out.d1 p e).1 rfl) H4.out.2.1
      have tpc := top_cells htp 1
      have tpf := top_free htp 1
      simp only [List.getElem?_toArray, List.getElem?_cons_succ, List.getElem?_cons_zero] at tpc
      have hsz6 := hwP.frm.size
      have HR8 := hide (hwP.heap HNR3.out HR3.out)
      have HB8 := hide (hwP.heap HNB3.out HB3.out)
      have HNR8 := hide (hwP.out HRL3.out HNR3.out)
      have HNB8 := hide (hwP.out (Nat.lt_trans (Nat.lt_succ_self _) HRL3.out) HNB3.out)
      have HT8 := hide (hwP.ty HM3.out HT3.out)
      have HD8 := hide hdP
      have HWP := hide (HW3.out.tr hwP)
      have x0 := top_cells HB8.out 0
      have x1 := top_cells HB8.out 1
      have x2 := top_cells HB8.out 2
      simp only [List.getElem?_toArray, List.getElem?_cons_succ, List.getElem?_cons_zero] at x0 x1 x2
      have hbl6 : s1.bl.length = its.length := by rw [HM3.out.bl]; simp
      have hsz8 : w.heap.size + 2 ≤ (W7.setCell ⟨p, 1, none⟩ (.slice Af nf cf)).heap.size := by omega
      have HW8 := hide hsz8
      clear d9 htp hW hE e1 hdP hwP FL hsz6 hs36 hsz8
      have hbl7 : s1.bl.length = tys.length := by have := HLEN.out; omega
      have HXA := hide (show ∀ oo, Em.kidsA (Em.valP f) [] (Em.kidsT (.mk o n ks)) (s1.push (.mk o n ks)) = oo → Em.blkP (Em.valP f) (.mk o n ks) s1 = match oo with
        | .err c => .err c
        | .ok l s' => .ok (false, (tys.length : Int)) ⟨s'.b, s'.bl.modify tys.length fun b => b.kids! l, s'.ty⟩ from fun oo e => by
          unfold Em.blkP
          rw [if_neg (by have := HL20.out; omega), if_neg (show ¬ Ty.op (.mk o n ks) = Em.wString from hns), e, hbl7]
          cases oo <;> rfl)
      have HKS := hide (Em.okS_kidsT HOK.out)
      have hlenk : (Em.kidsT (.mk o n ks)).length ≤ 2 := kidsT_len HOK.out
      have HKX := hide (refKids22 HT8.out HOK.out HP.out hns)
      generalize Em.blkP (Em.valP f) (.mk o n ks) s1 = res at *
      clear hbl6 hbl7
      go_wp2_with fail
      clear tpc tpf
      generalize World.setCell W7 _ _ = W8 at *
      refine HKX.out.mono ?_
      rintro e w9 ⟨vk, dk, rfl, hs9, hi9, k9⟩
      obtain ⟨A8, c8, rfl, _⟩ := id hs9
      generalize Em.kidsT (.mk o n ks) = kt at *
      obtain ⟨Z3, hZ3⟩ : ∃ Z3 : Nat → Prop, ∀ k, Z3 k ↔ (Z k ∨ (W8.heap.size ≤ k ∧ k < w9.heap.size)) := ⟨_, fun k => Iff.rfl⟩
      have hs89 := k9.size
      have h08 := HD8.out.k0.size
      have hM9 := (HD8.out.keep k9).moreZ (Z' := Z3) (fun k h => (hZ3 k).2 (.inl h)) fun k h => by
        rcases (hZ3 k).1 h with hk | ⟨g1, g2⟩
        · exact .inl hk
        · refine .inr ⟨by omega, g2, fun e => ?_⟩
          have := (HD8.out.ltO k e).2
          omega
      have HWP9 := hide (HWP.out.tr (RWent.more (Z' := Z3) k9 (fun k h => (hZ3 k).2 (.inl h)) fun k h => ((hZ3 k).1 h).imp id fun h => h.1))
      have HS9 := hide (hs9.mono (K' := TyI (fun k => k < w0.heap.size ∨ Z3 k) dk) fun cs x h => h.mono fun k h => by
        rcases h with (h | h) | h
        · exact .inl h
        · exact .inr ((hZ3 k).2 (.inl h))
        · exact .inr ((hZ3 k).2 (.inr h)))
      have HI9 := hide (show InX (fun k => k < w0.heap.size ∨ Z3 k) (.slice A8 kt.length c8) from fun ad n c e hn => by
        rcases hi9 ad n c e hn with (h | h) | h
        · exact .inl h
        · exact .inr ((hZ3 _).2 (.inl h))
        · exact .inr ((hZ3 _).2 (.inr h)))
      have HR9 := hide ((k9.frm fun _ => False).heap (fun h => h) HR8.out)
      have HNR9 := hide (show ¬ HasR Z3 p (.slice Af nf cf) v4 (its ++ [(⟨Em.tagT o, [], []⟩, .slice none 0 0)]) (w.heap.size + 1) from fun e => by
        rcases e with e | e
        · exact HNR8.out (.inl e)
        · rcases (hZ3 _).1 e with e | e
          · exact HNR8.out (.inr e)
          · have := HW8.out; omega)
      have hsz9w : w.heap.size + 2 ≤ w9.heap.size := by have := HW8.out; omega
      have h09 : w0.heap.size ≤ w9.heap.size := by omega
      have hB9 : B ≤ w9.heap.size := by have := HD8.out.ltO p (.inl rfl); omega
      have HM9 := hide hM9
      have hii : tys.length < its.length + 1 := by have := HLEN.out; omega
      clear hM9 hs9 hi9 k9 hZ3 hs89 h08 HKX x0 x1 x2
      go_wp2_with fail
      go_loopw [9, 10] (fun v i W => ∃ (j : Nat) (xs : List (Bool × Int)) (sx : Em.Rd) (cE : Int), j ≤ kt.length ∧ i = .int .i64 (j : Int) ∧ xs.length = j ∧ ((cE = 0 ∧ Em.kidsA (Em.valP f) [] kt (s1.push (.mk o n ks)) = Em.kidsA (Em.valP f) xs (kt.drop j) sx) ∨ ((cE = 2 ∨ cE = 7) ∧ Em.kidsA (Em.valP f) [] kt (s1.push (.mk o n ks)) = .err cE)) ∧ KidR 91 B Z3 w0 w9 p (.slice Af nf cf) v4 [.int .i64 cE] (its ++ [(⟨Em.tagT o, [], []⟩, .slice none 0 0)]) xs sx v W) (fun _ i _ => kt.length - (intOf i).toNat)
      case atStart => exact ⟨0, [], s1.push (.mk o n ks), 0, Nat.zero_le _, rfl, rfl, .inl ⟨rfl, rfl⟩, Z3, _, _, _, _, _, HM9.out, RWent.rf, own_nilR _ _, by simp [Value.ownBlock], by simp⟩
      case round =>
        obtain ⟨j, xs, sx, cE, hj, rfl, hxl, hst, Z1, bv1, lv1, tv1, its1, tys1, hd1, hw1, ho1, hn1, hwf1⟩ := hrel
        obtain ⟨A1, c1, rfl⟩ := own_slice ho1
        have HXL := hide hxl
        have HST := hide hst
        have HD1x := hide hd1
        have HWr := hide hw1
        have HO1 := hide ho1
        have HN1 := hide hn1
        have HWF1 := hide hwf1
        have HR1 := hide (hw1.heap HNR9.out HR9.out)
        have HNR1 := hide (hw1.out (Array.getElem?_eq_some_iff.1 HR9.out).1 HNR9.out)
        have HSL := hide (HS9.out.frmI HI9.out hw1.frm (fun k hk e => HM9.out.apart hk (sub_own e)) fun cs x h => h.frm hw1.frm fun k hk e => HM9.out.apart hk (sub_own e))
        have hszw : w9.heap.size ≤ wr.heap.size := hw1.frm.size
        have hlt1 : its.length + 1 ≤ its1.length := by have := hw1.len; simpa using this
        have hxb : xs.length ≤ 2 := by omega
        clear hd1 hw1 ho1 hn1 hwf1 hst hxl
        by_cases hlt : j < kt.length
        · have hlti : (j : Int) < (kt.length : Int) := by omega
          obtain ⟨A8', c8', e8, _, _, hr8⟩ := id HSL.out
          cases e8
          obtain ⟨ad, rfl, hcell⟩ := hr8 (by omega)
          obtain ⟨cs, hcs, hcl, hkt⟩ := hcell j hlt
          have HKT := hide (hkt.mono fun k hk => hk.imp id (HWr.out.zs k))
          have HOKk := hide (HKS.out _ (List.getElem_mem hlt))
          have HKD := hide (kidsA_drop (Em.valP f) xs kt j sx hlt)
          generalize kt[j] = k at *
          cases dk with
          | zero => exact hkt.elim
          | succ dk =>
            obtain ⟨kv, rfl, kn, kS, _⟩ := hkt
            obtain ⟨kA, kc, rfl, _⟩ := kS
            have q0 := hcl 0 _ rfl
            rw [Nat.add_zero] at q0
            have q1 := cell_off (hcl 1 _ rfl)
            have q2 := cell_off (hcl 2 _ rfl)
            clear hcell hcl hr8
            rcases HST.out with ⟨rfl, hka⟩ | ⟨hcE, hka⟩
            · have HVAL := hide (ih _ _ _ _ _ _ _ _ _ _ _ HD1x.out HKT.out HOKk.out (by have := HF.out; have := HL20.out; omega))
              have HKA := hide hka
              clear hka
              go_wp2_with fail
              refine HVAL.out.mono ?_
              rintro e W2 ⟨x, s2, c2, rfl, hx9, ⟨Z2, lv2, tv2, its2, tys2, ⟨bv2, hd2⟩, hw2⟩, hend⟩
              have HX9 := hide hx9
              have HD2x := hide hd2
              have HW2 := hide hw2
              have HO2 := hide (hw2.own HO1.out HN1.out)
              have hs2 : wr.heap.size ≤ W2.heap.size := hw2.frm.size
              have HST2 := hide (show (c2 = 0 ∧ Em.kidsA (Em.valP f) [] kt (s1.push (.mk o n ks)) = Em.kidsA (Em.valP f) (xs ++ [x]) (kt.drop (j + 1)) s2) ∨ ((c2 = 2 ∨ c2 = 7) ∧ Em.kidsA (Em.valP f) [] kt (s1.push (.mk o n ks)) = .err c2) from by
                rcases hend with ⟨e1, e2⟩ | ⟨e1, e2⟩
                · exact .inl ⟨e1, by rw [HKA.out, HKD.out, e2]⟩
                · exact .inr ⟨e1, by rw [HKA.out, HKD.out, e2]⟩)
              obtain ⟨x1, x2⟩ := x
              clear hx9 hd2 hw2 q0 q1 q2 HVAL HKD HSL hend
              go_wp2_with (first
                | (at_builtin; go_loud (refine wpList_app rfl (.tmp 140) (.tmp 147) 70 rfl w9.heap.size 59 _ 2 16 Tryz.underlying70 infoRf rfl (by omega) _ xs.length _ rfl (own_keep HO2.out (by repeat (first | exact Keep.rf _ | assumption | apply Keep.al | apply Keep.dr | apply Keep.dn))) _ 1 (refCells (x1, x2)) rfl (src_new2 W2 _ _ _ rfl) (ref_one _) (by simp only [maxLen]; omega) (by omega) (by simp only [size_alloc]; omega) ?_); intro v3 w3' ha3; obtain ⟨A3, c3, e3⟩ := own_slice ha3.1; subst e3; have HA3 := hide ha3; clear ha3)
                | fail)
              have HKR := hide (KidR.push2 (x := (x1, x2)) HWr.out HN1.out HWF1.out HO1.out (Keep.rf _) HD2x.out HW2.out HX9.out (Keep.al (Keep.rf W2) _) h09 HA3.out)
              go_roundw
              case rel => exact ⟨j + 1, xs ++ [(x1, x2)], s2, c2, by omega, by go_num, by simp [HXL.out], HST2.out, HKR.out⟩
              case measure => simp [intOf]; omega
            · have HVAL := hide (rvNode_bad (by omega) _ _ _ HD1x.out HKT.out)
              have HKA := hide hka
              clear hka
              go_wp2_with fail
              refine HVAL.out.mono ?_
              rintro e W2 ⟨rfl, k2⟩
              have hs2 : wr.heap.size ≤ W2.heap.size := k2.size
              have HO2 := hide (own_keep HO1.out k2)
              have HD2x := hide (HD1x.out.keep k2)
              have HK2 := hide k2
              clear q0 q1 q2 HVAL HKD HSL k2
              go_wp2_with (first
                | (at_builtin; go_loud (refine wpList_app rfl (.tmp 140) (.tmp 147) 70 rfl w9.heap.size 59 _ 2 16 Tryz.underlying70 infoRf rfl (by omega) _ xs.length _ rfl (own_keep HO2.out (by repeat (first | exact Keep.rf _ | assumption | apply Keep.al | apply Keep.dr | apply Keep.dn))) _ 1 (refCells (false, 0)) rfl (src_new2 W2 _ _ _ rfl) (ref_one _) (by simp only [maxLen]; omega) (by omega) (by simp only [size_alloc]; omega) ?_); intro v3 w3' ha3; obtain ⟨A3, c3, e3⟩ := own_slice ha3.1; subst e3; have HA3 := hide ha3; clear ha3)
                | fail)
              have HKR := hide (KidR.push2 (x := (false, 0)) HWr.out HN1.out HWF1.out HO1.out (Keep.rf _) HD2x.out (RWent.of_keep HK2.out) (by decide : (Lit.int .i64 0).wf = true) (Keep.al (Keep.rf W2) _) h09 HA3.out)
              go_roundw
              case rel => exact ⟨j + 1, xs ++ [(false, 0)], sx, cE, by omega, by go_num, by simp [HXL.out], .inr ⟨hcE, HKA.out⟩, HKR.out⟩
              case measure => simp [intOf]; omega
        · have hjk : j = kt.length := by omega
          have HRES := hide (show (cE = 0 ∧ res = .ok (false, (tys.length : Int)) ⟨sx.b, sx.bl.modify tys.length fun b => b.kids! xs, sx.ty⟩) ∨ ((cE = 2 ∨ cE = 7) ∧ res = .err cE) from by
            rcases HST.out with ⟨e1, e2⟩ | ⟨e1, e2⟩
            · rw [List.drop_of_length_le (by omega)] at e2
              exact .inl ⟨e1, by rw [HXA.out _ e2]; rfl⟩
            · exact .inr ⟨e1, by rw [HXA.out _ e2]⟩)
          have hlti : ¬ (j : Int) < (kt.length : Int) := by omega
          have hd1 := HD1x.out
          obtain ⟨g1, c1', rfl⟩ := hd1.at_ (i := tys.length) (by omega)
          have hi1 : tys.length < its1.length := by omega
          have hili2 : (tys.length : Int) < (its1.length : Int) := by omega
          have hit1 : its1[tys.length]? = some (its1[tys.length].1, its1[tys.length].2) := List.getElem?_eq_getElem hi1
          obtain ⟨e0, e1⟩ := row_at hd1.row hit1 2 _ rfl
          have p1 := top_cells hd1.top 1
          obtain ⟨hmK, hwK⟩ := hd1.setKids hit1 (own_lower HO1.out hB9) HWF1.out HN1.out HWr.out fun k e => (World.ownsRow.lt HO1.out k e).1
          have F9 : ¬ w.heap.size + 1 = g1 := fun e => HNR1.out (.inl (.inr (.inl (by rw [e]; rfl))))
          have hR9 := ((Frm.rf (· = g1) wr).st (p := ⟨g1, tys.length * 3 + 2, none⟩) (.inl rfl) (.slice A1 xs.length c1)).heap F9 HR1.out
          have HR9' := hide hR9
          have f0' := top_free HR1.out 0
          have f1' := top_free HR1.out 1
          have r0' := top_cells HR1.out 0
          have r1' := top_cells HR1.out 1
          have r0 := top_cells hR9 0
          have r1 := top_cells hR9 1
          have f0 := top_free hR9 0
          have f1 := top_free hR9 1
          simp only [List.getElem?_toArray, List.getElem?_cons_succ, List.getElem?_cons_zero] at r0 r1 r0' r1' p1
          have HNRK := hide (hwK.out (by omega) HNR9.out)
          have HMK := hide hmK
          have HWK := hide (HWP9.out.tr hwK)
          have hl20' := HL20.out
          have hln := HLEN.out
          have HLI := hide (show tys.length < 2000 from by omega)
          clear hmK hwK hd1 hR9 hjk hl20' hln
          go_wp2_with fail
          refine bodyPost_ret_by (results_cell_row rfl _ _ (w.heap.size + 1) 59 _ (0, 0) _ rfl (heap_set2R HR9'.out _ _) Tryz.underlying59 rfl ?_) rfl ?_
          · kernel_rfl
          · exact ⟨(false, (tys.length : Int)), _, cE, rfl, imm_wf (by omega) (by have := HLI.out; omega), ⟨_, _, _, _, _, ⟨_, HMK.out.far (frm_set2R _ _ _ _) HNRK.out H0R.out⟩, HWK.out.far (by omega) (frm_set2R _ _ _ _)⟩, HRES.out⟩
end
end Go.Proofs.YtoehaijmkmdggaaGreat
