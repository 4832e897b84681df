/- Walks: the reader of the reference: a block that comes the first time (a string). -/
import Derived.Test.YtoehaijmkmdggaaGreatGRvX
set_option linter.unusedSimpArgs false
set_option linter.unusedVariables false
namespace Go.Proofs.YtoehaijmkmdggaaGreat
open Go.RowKit
open Em (Ty)
set_option linter.unusedVariables false
set_option linter.unusedSimpArgs false
set_option maxRecDepth 100000
section
variable {B f : Nat} {Z : Nat → Prop} {w0 w : World} {p : Nat} {bv lv tv : Value} {its : List (Em.Blk × Value)} {tys : List (Ty × List Value)} {s s1 : Em.Rd}
set_option maxHeartbeats 8000000 in
theorem rvNode_str (t : Ty) (d : Nat) (cs : List Value) (h : RdM 91 B Z w0 w p bv lv tv [.int .i64 0] its tys s) (ht : TyI (fun k => k < w0.heap.size ∨ Z k) d w cs t) (hok : Em.okS t = true) (hp : ¬ Em.isPl t.op) (hop : t.op = Em.wString) (hnum : Em.numP s = .ok 0 s1) (hlt : its.length < 2000) (hf : 2000 - its.length < f + 1) :
    Calls Tryz.prog 36 #[.pointer (some ⟨p, 0, none⟩), .agg cs.toArray] w (ValX 91 B Z w0 w p lv tv its (Em.blkP (Em.valP f) t s1)) := by
  cases d with
  | zero => exact ht.elim
  | succ d =>
    have HT0 := hide ht
    have HOK := hide hok
    have HP := hide hp
    obtain ⟨v, rfl, hn, hs, hin⟩ := ht
    obtain ⟨A, c, rfl, _⟩ := id hs
    obtain ⟨o, n, ks⟩ := t
    simp only [Em.Ty.op, Em.Ty.n, Em.Ty.kids] at *
    obtain rfl : o = [115, 116, 114, 105, 110, 103] := hop
    have ka : Keep w ((w.alloc (.cells #[.string (str [115, 116, 114, 105, 110, 103]), .int .i64 n, .slice A ks.length c] 25)).alloc (.cells #[.bool false, .int .i64 0] 59)) := (by repeat (first | exact Keep.rf _ | assumption | apply Keep.al | apply Keep.dr | apply Keep.dn))
    have hB := (Keep.frm (Keep.al (Keep.rf (w.alloc (.cells #[.string (str [115, 116, 114, 105, 110, 103]), .int .i64 n, .slice A ks.length c] 25))) (.cells #[.bool false, .int .i64 0] 59)) (fun _ => False)).heap (fun h => h) (heap_alloc_new w (.cells #[.string (str [115, 116, 114, 105, 110, 103]), .int .i64 n, .slice A ks.length c] 25))
    have hR := new_second w (.cells #[.string (str [115, 116, 114, 105, 110, 103]), .int .i64 n, .slice A ks.length c] 25) (.cells #[.bool false, .int .i64 0] 59)
    have hnr : ¬ HasR Z p lv tv its (w.heap.size + 1) := fun e => by have := (h.lt _ e).2; omega
    have hnb : ¬ HasR Z p lv tv its w.heap.size := fun e => by have := (h.lt _ e).2; omega
    have HRL := hide (show w.heap.size + 1 < ((w.alloc (.cells #[.string (str [115, 116, 114, 105, 110, 103]), .int .i64 n, .slice A ks.length c] 25)).alloc (.cells #[.bool false, .int .i64 0] 59)).heap.size from by simp)
    have h0r : w0.heap.size ≤ w.heap.size + 1 := by have := h.k0.size; omega
    have H0R := hide h0r
    have hM1 := h.keep ka
    have HT1 := hide (HT0.out.keep ka)
    have HPL := hide (refPlain22 HT1.out.ty HOK.out)
    have HM1 := hide hM1
    have b0 := top_cells hB 0
    have b1 := top_cells hB 1
    have b2 := top_cells hB 2
    have c3 := top_cells hM1.top 3
    simp only [List.getElem?_toArray, List.getElem?_cons_succ, List.getElem?_cons_zero] at b0 b1 b2 c3
    have HR := hide hR
    have HB := hide hB
    have KA := hide ka
    have HNR := hide hnr
    have HNB := hide hnb
    have hlim := h.lim
    have hO := opB [115, 116, 114, 105, 110, 103]
    clear hR ka h hB hs hin hn hM1 HT0 hp hok hnr hnb h0r
    go_enter Tryz.func36, Tryz.ntmps36
    go_wp2_with fail
    generalize World.alloc (World.alloc w _) _ = w1 at *
    refine HPL.out.mono ?_
    rintro e w2 ⟨rfl, k2⟩
    clear HPL
    have hpd : decide (Em.isPl (Ty.op (.mk [115, 116, 114, 105, 110, 103] n ks))) = false := decide_eq_false HP.out
    rw [hpd]
    clear hpd
    have HM2 := hide (HM1.out.keep k2)
    have hB2 := (k2.frm fun _ => False).heap (fun h => h) HB.out
    have HR2 := hide ((k2.frm fun _ => False).heap (fun h => h) HR.out)
    have HT2 := hide (HT1.out.keep k2)
    have KA2 := hide (Keep.tr KA.out k2)
    have HRL2 := hide (Nat.lt_of_lt_of_le HRL.out k2.size)
    have HN := hide (rvNumber HM2.out)
    have HB2 := hide hB2
    clear hB2 k2 b0 b1 b2 c3 HT1 HB HR KA
    go_wp2_with fail
    refine HN.out.mono ?_
    rintro e w3 ⟨v, s3, cE, rfl, hv, ⟨bv3, hm3⟩, hw3, hend⟩
    clear HN
    have hB3 := hw3.heap HNB.out HB2.out
    have hR3 := hw3.heap HNR.out HR2.out
    have HNR3 := hide (hw3.out HRL2.out HNR.out)
    have HNB3 := hide (hw3.out (Nat.lt_trans (Nat.lt_succ_self _) HRL2.out) HNB.out)
    have HT3 := hide (hw3.ty HM2.out HT2.out)
    have b0 := top_cells hB3 0
    have b1 := top_cells hB3 1
    have b2 := top_cells hB3 2
    have r0 := top_cells hR3 0
    have r1 := top_cells hR3 1
    have f0 := top_free hR3 0
    have f1 := top_free hR3 1
    have c1 := top_cells hm3.top 1
    have c2 := top_cells hm3.top 2
    have c3 := top_cells hm3.top 3
    simp only [List.getElem?_toArray, List.getElem?_cons_succ, List.getElem?_cons_zero] at b0 b1 b2 r0 r1 c1 c2 c3
    have HB3 := hide hB3
    have HR3 := hide hR3
    have HM3 := hide hm3
    have HW3 := hide ((RWent.of_keep KA2.out).tr hw3)
    have HRL3 := hide (Nat.lt_of_lt_of_le HRL2.out hw3.frm.size)
    clear hB3 hR3 hm3 hw3
    clear HB2 HR2 HM2 HT2 KA2 HRL2 HNR HNB HM1 HRL
    obtain ⟨rfl, e3⟩ : cE = 0 ∧ Em.numP s = .ok v s3 := by
      rcases hend with h | ⟨_, _, e⟩
      · exact h
      · rw [hnum] at e; cases e
    rw [hnum] at e3
    cases e3
    clear hend
    have hlt2 : tys.length < 2000 := by have := HM3.out.len; omega
    have hlti : ¬ (tys.length : Int) ≥ 2000 := by omega
    have hlen := HM3.out.len
    have HLEN := hide hlen
    have HL20 := hide (show its.length < 2000 from hlt)
    have HF := hide hf
    clear hf
    obtain ⟨A9, c9, rfl⟩ := own_slice HM3.out.tow
    obtain ⟨A0, c0, rfl⟩ := own_slice HM3.out.row
    have hsz3 : w.heap.size + 2 ≤ w3.heap.size := by have := HRL3.out; omega
    have HBW := hide (show B ≤ w3.heap.size from by have := HM3.out.ltO p (.inl rfl); omega)
    have HP3 := hide (HM3.out.lt p (.inl (.inl rfl))).2
    have HTAG := hide (fun W (k : Keep w3 W) => refTag22 (HT3.out.ty.keep k) HOK.out HP.out)
    have X0 := hide b0
    have X1 := hide b1
    have X2 := hide b2
    clear hlen hlt
    go_wp2_with fail
    go_cut [] (fun W => ∃ v4, TPush w3 p B bv3 (.slice A0 its.length c0) (.slice A9 tys.length c9) [.int .i64 0] 91 ((tys.map (·.2)).flatten ++ [.string (str [115, 116, 114, 105, 110, 103]), .int .i64 n, .slice A ks.length c]) (tys.length + 1) v4 W)
    case first =>
      have hi1 : (tys.length : Int) < (tys.length : Int) + 1 := by omega
      have b0' := fun o => Keep.cell (Keep.al (Keep.rf w3) o) b0
      have b1' := fun o => Keep.cell (Keep.al (Keep.rf w3) o) b1
      have b2' := fun o => Keep.cell (Keep.al (Keep.rf w3) o) b2
      have c2' := fun o => Keep.cell (Keep.al (Keep.rf w3) o) c2
      go_region_law (refine step_app rfl (.tmp 98) (.tmp 101) 23 rfl B 25 _ 3 48 Tryz.underlying23 infoTyR rfl (by omega) _ tys.length _ (by rfl) (own_keep HM3.out.tow (by repeat (first | exact Keep.rf _ | assumption | apply Keep.al | apply Keep.dr | apply Keep.dn))) _ 1 _ (by rfl) (src3 (heap_alloc_new _ _)) (fun u hu => by simp at hu; rcases hu with rfl | rfl | rfl <;> rfl) (by simp only [maxLen]; omega) (by omega) (Nat.le_trans HBW.out (Below.size (by repeat (first | exact Keep.rf _ | assumption | apply Keep.al | apply Keep.dr | apply Keep.dn)))) ?_; intro v4 w4 ha4; obtain ⟨g4, c4, e4⟩ := own_at1 ha4.1; subst e4; have HA4 := hide ha4; obtain ⟨⟨q2, q2f⟩, ⟨y0, y0f⟩, ⟨y1, y1f⟩, ⟨y2, y2f⟩, q6, q7, -⟩ := push_facts HM3.out (by repeat (first | exact Keep.rf _ | assumption | apply Keep.al | apply Keep.dr | apply Keep.dn)) ha4; clear ha4)
      all_goals
        first
          | (simp only [Exit.then]; go_meet)
          | (go_wp2_with fail; go_meet)
        exact ⟨_, TPush.mk HM3.out (by repeat (first | exact Keep.rf _ | assumption | apply Keep.al | apply Keep.dr | apply Keep.dn)) HA4.out rfl (by first | exact .inl rfl | exact .inr rfl)⟩
    case rest =>
      rename World => w6
      obtain ⟨v4, h4⟩ := hcut
      have hx6 : ∀ {k : Nat} {o : Obj}, ¬ k = p → ¬ (Value.slice A9 tys.length c9).ownBlock = some k → w3.heap[k]? = some o → w6.heap[k]? = some o := fun h1 h2 h => h4.1.heap (fun e => e.elim h1 h2) h
      have hB6 := hx6 (fun e => HNB3.out (.inl (.inl e))) (fun e => HNB3.out (.inl (.inr (.inr (.inl e))))) HB3.out
      have hs36 := h4.1.size
      have HT6 := hide (HT3.out.frm h4.1 fun k hk e => HM3.out.apart hk (e.elim .inl fun e => .inr (.inr (.inl e))))
      have HROW6 := hide (h4.1.own HM3.out.row fun k e e2 => e2.elim (HM3.out.d1 k e).1 (HM3.out.d1 k e).2)
      have HTAG6 := hide (fun W (k : Keep w6 W) => refTag22 ((HT6.out.ty).keep k) HOK.out HP.out)
      have HLP := hide (fun k (e : (Value.slice A0 its.length c0).ownBlock = some k) => Nat.lt_of_lt_of_le (HM3.out.lt k (.inl (.inr (.inl e)))).2 hs36)
      have HBW6 := hide (Nat.le_trans HBW.out hs36)
      have e1 := top_cells h4.2.1 1
      have x0 := top_cells hB6 0
      have x1 := top_cells hB6 1
      have x2 := top_cells hB6 2
      simp only [List.getElem?_toArray, List.getElem?_cons_succ, List.getElem?_cons_zero] at e1 x0 x1 x2
      have HB6 := hide hB6
      have H4 := hide h4
      clear h4 hx6 hB6 HTAG c1 c2 c3 b0 b1 b2 r0 r1 f0 f1 hlti
      go_wp2_with fail
      apply region_last 12 _ (by kernel_rfl) Keep (Frm (fun k => (Value.slice A0 its.length c0).ownBlock = some k)) krg ktg (Frm.rf _) (fun _ _ _ => Frm.tr) (fun _ _ h => Keep.frm h _) [some 106, some 107, some 108, some 109, some 110, some 111, some 112, some 113, some 114, some 115, some 116, some 117, none] [eqG _ , eqG _ , eqG _ , eqG _ , eqG _ , eqG _ , fun us _ v => v = .int .i64 (Em.tagT [115, 116, 114, 105, 110, 103]), fun us _ v => v = .agg #[.int .i64 (Em.tagT [115, 116, 114, 105, 110, 103]), .string (str []), .slice none 0 0], fun us W v => OneN w6.heap.size (.int .i64 (Em.tagT [115, 116, 114, 105, 110, 103])) (.string (str [])) (.slice none 0 0) 72 W v, fun us W v => BPush w6 B (.slice A0 its.length c0) its (Em.tagT [115, 116, 114, 105, 110, 103]) W v, eqG _ , eqG _ , fun _ _ _ => True] [⟨[], [], false, false, false⟩, ⟨[], [], true, false, false⟩, ⟨[1], [], true, false, false⟩, ⟨[2], [], true, false, false⟩, ⟨[3], [], true, false, false⟩, ⟨[], [], true, false, false⟩, ⟨[5], [], true, false, false⟩, ⟨[6], [], true, false, false⟩, ⟨[7], [], true, false, true⟩, ⟨[4, 8], [], true, true, true⟩, ⟨[0], [], false, false, false⟩, ⟨[10], [], false, false, false⟩, ⟨[9, 11], [], false, false, false⟩] [9, 11] (by kernel_rfl) (by kernel_rfl) (by kernel_rfl) rfl (by kernel_rfl)
      · refine ⟨?_, ?_, ?_, ?_, ?_, ?_, ?_, ?_, ?_, ?_, ?_, ?_, trivial⟩ <;> (intro us W h9 hW hE hd hs K hK; obtain ⟨u0, u1, u2, u3, u4, u5, u6, u7, u8, u9, u10, u11, u12, rfl⟩ := rog 13 h9 rfl; clear h9; try simp only [DepG, AtG, and_true, relG, eqG, eqG1, eqG2, eqG3, gdG, gdG1, gnG, gnG1, List.getD_cons_zero, List.getD_cons_succ, List.getElem?_cons_succ, List.getElem?_cons_zero, Option.map_some, Option.getD_some, valsG, List.map_cons, List.map_nil, List.length_cons, List.length_nil] at hd)
        · ((try clear hd); clear hs; simp only [fillG, List.set_cons_zero, List.set_cons_succ]; refine want_n rfl ?_; go_wp2_with (first | fail); simp only [DoneG, fillG, List.set_cons_zero, List.set_cons_succ, relG, eqG, eqG1, eqG2, eqG3, gdG, gdG1, gnG, gnG1, List.getD_cons_zero, List.getD_cons_succ, List.getElem?_cons_succ, List.getElem?_cons_zero, Option.map_some, Option.getD_some, valsG, List.map_cons, List.map_nil, List.length_cons, List.length_nil]; exact ⟨_, rfl, (by first | with_reducible assumption | exact krg _ | exact Keep.al (krg _) _), fun _ _ => rfl⟩)
        · ((try clear hd); clear hs; simp only [fillG, List.set_cons_zero, List.set_cons_succ]; refine want_n rfl ?_; go_wp2_with (first | fail); simp only [DoneG, fillG, List.set_cons_zero, List.set_cons_succ, relG, eqG, eqG1, eqG2, eqG3, gdG, gdG1, gnG, gnG1, List.getD_cons_zero, List.getD_cons_succ, List.getElem?_cons_succ, List.getElem?_cons_zero, Option.map_some, Option.getD_some, valsG, List.map_cons, List.map_nil, List.length_cons, List.length_nil]; exact ⟨_, rfl, (by first | with_reducible assumption | exact krg _ | exact Keep.al (krg _) _), fun _ _ => rfl⟩)
        · (have d1 := hd; clear hd; subst d1; clear hs; simp only [fillG, List.set_cons_zero, List.set_cons_succ]; refine want_n rfl ?_; go_wp2_with (first | fail); simp only [DoneG, fillG, List.set_cons_zero, List.set_cons_succ, relG, eqG, eqG1, eqG2, eqG3, gdG, gdG1, gnG, gnG1, List.getD_cons_zero, List.getD_cons_succ, List.getElem?_cons_succ, List.getElem?_cons_zero, Option.map_some, Option.getD_some, valsG, List.map_cons, List.map_nil, List.length_cons, List.length_nil]; exact ⟨_, rfl, (by first | with_reducible assumption | exact krg _ | exact Keep.al (krg _) _), fun _ _ => rfl⟩)
        · (have d2 := hd; clear hd; subst d2; clear hs; simp only [fillG, List.set_cons_zero, List.set_cons_succ]; refine want_n rfl ?_; go_wp2_with (first | fail); simp only [DoneG, fillG, List.set_cons_zero, List.set_cons_succ, relG, eqG, eqG1, eqG2, eqG3, gdG, gdG1, gnG, gnG1, List.getD_cons_zero, List.getD_cons_succ, List.getElem?_cons_succ, List.getElem?_cons_zero, Option.map_some, Option.getD_some, valsG, List.map_cons, List.map_nil, List.length_cons, List.length_nil]; exact ⟨_, rfl, (by first | with_reducible assumption | exact krg _ | exact Keep.al (krg _) _), fun _ _ => rfl⟩)
        · (have d3 := hd; clear hd; subst d3; clear hs; simp only [fillG, List.set_cons_zero, List.set_cons_succ]; have hKW := Keep.tr (Keep.dr (Keep.rf _)) (hE rfl); have e1 := Keep.cell hKW e1; have x0 := Keep.cell hKW x0; have x1 := Keep.cell hKW x1; have x2 := Keep.cell hKW x2; refine want_n rfl ?_; go_wp2_with (first | fail); simp only [DoneG, fillG, List.set_cons_zero, List.set_cons_succ, relG, eqG, eqG1, eqG2, eqG3, gdG, gdG1, gnG, gnG1, List.getD_cons_zero, List.getD_cons_succ, List.getElem?_cons_succ, List.getElem?_cons_zero, Option.map_some, Option.getD_some, valsG, List.map_cons, List.map_nil, List.length_cons, List.length_nil]; exact ⟨_, rfl, (by first | with_reducible assumption | exact krg _ | exact Keep.al (krg _) _), fun _ _ => rfl⟩)
        · ((try clear hd); clear hs; simp only [fillG, List.set_cons_zero, List.set_cons_succ]; have hKW := Keep.tr (Keep.dr (Keep.rf _)) (hE rfl); have e1 := Keep.cell hKW e1; have x0 := Keep.cell hKW x0; have x1 := Keep.cell hKW x1; have x2 := Keep.cell hKW x2; refine want_n rfl ?_; go_wp2_with (first | fail); simp only [DoneG, fillG, List.set_cons_zero, List.set_cons_succ, relG, eqG, eqG1, eqG2, eqG3, gdG, gdG1, gnG, gnG1, List.getD_cons_zero, List.getD_cons_succ, List.getElem?_cons_succ, List.getElem?_cons_zero, Option.map_some, Option.getD_some, valsG, List.map_cons, List.map_nil, List.length_cons, List.length_nil]; exact ⟨_, rfl, (by first | with_reducible assumption | exact krg _ | exact Keep.al (krg _) _), fun _ _ => rfl⟩)
        · (have d5 := hd; clear hd; subst d5; clear hs; simp only [fillG, List.set_cons_zero, List.set_cons_succ]; have hKW := Keep.tr (Keep.dr (Keep.rf _)) (hE rfl); have e1 := Keep.cell hKW e1; have x0 := Keep.cell hKW x0; have x1 := Keep.cell hKW x1; have x2 := Keep.cell hKW x2; refine want_n rfl ?_; go_wp2_with (first | (go_at_call 61; refine (HTAG6.out _ hKW).mono ?_; rintro e w' ⟨rfl, kT⟩) | fail); simp only [DoneG, fillG, List.set_cons_zero, List.set_cons_succ, relG, eqG, eqG1, eqG2, eqG3, gdG, gdG1, gnG, gnG1, List.getD_cons_zero, List.getD_cons_succ, List.getElem?_cons_succ, List.getElem?_cons_zero, Option.map_some, Option.getD_some, valsG, List.map_cons, List.map_nil, List.length_cons, List.length_nil]; exact ⟨_, rfl, (by first | with_reducible assumption | exact krg _ | exact Keep.al (krg _) _), fun W9 hk9 => rfl⟩)
        · (have d6 := hd; clear hd; subst d6; clear hs; simp only [fillG, List.set_cons_zero, List.set_cons_succ]; have hKW := Keep.tr (Keep.dr (Keep.rf _)) (hE rfl); have e1 := Keep.cell hKW e1; have x0 := Keep.cell hKW x0; have x1 := Keep.cell hKW x1; have x2 := Keep.cell hKW x2; refine want_n rfl ?_; go_wp2_with (first | fail); simp only [DoneG, fillG, List.set_cons_zero, List.set_cons_succ, relG, eqG, eqG1, eqG2, eqG3, gdG, gdG1, gnG, gnG1, List.getD_cons_zero, List.getD_cons_succ, List.getElem?_cons_succ, List.getElem?_cons_zero, Option.map_some, Option.getD_some, valsG, List.map_cons, List.map_nil, List.length_cons, List.length_nil]; exact ⟨_, rfl, (by first | with_reducible assumption | exact krg _ | exact Keep.al (krg _) _), fun _ _ => rfl⟩)
        · (have d7 := hd; clear hd; subst d7; clear hs; simp only [fillG, List.set_cons_zero, List.set_cons_succ]; have hKW := Keep.tr (Keep.dr (Keep.rf _)) (hE rfl); have e1 := Keep.cell hKW e1; have x0 := Keep.cell hKW x0; have x1 := Keep.cell hKW x1; have x2 := Keep.cell hKW x2; refine want_n rfl ?_; go_wp2_with (first | fail); simp only [DoneG, fillG, List.set_cons_zero, List.set_cons_succ, relG, eqG, eqG1, eqG2, eqG3, gdG, gdG1, gnG, gnG1, List.getD_cons_zero, List.getD_cons_succ, List.getElem?_cons_succ, List.getElem?_cons_zero, Option.map_some, Option.getD_some, valsG, List.map_cons, List.map_nil, List.length_cons, List.length_nil]; exact ⟨_, rfl, (by first | with_reducible assumption | exact krg _ | exact Keep.al (krg _) _), fun W9 hk9 => OneN.frm ⟨_, hW.size, rfl, heap_alloc_new _ _⟩ (hk9.frm fun k => (Value.slice A0 its.length c0).ownBlock = some k) HLP.out⟩)
        · (obtain ⟨d4, d8⟩ := hd; subst d4; clear hs; simp only [fillG, List.set_cons_zero, List.set_cons_succ]; have hKW := Keep.tr (Keep.dr (Keep.rf _)) (hE rfl); have e1 := Keep.cell hKW e1; have x0 := Keep.cell hKW x0; have x1 := Keep.cell hKW x1; have x2 := Keep.cell hKW x2; refine want_n rfl ?_; refine wp_app (.tmp 110) (.tmp 114) 60 rfl B 72 _ 3 48 Tryz.underlying60 infoBlk rfl (by omega) _ its.length _ rfl (own_keep HROW6.out hKW) _ 1 _ rfl (OneN.src d8) (fun u hu => by simp at hu; rcases hu with rfl | rfl | rfl <;> rfl) (by simp only [maxLen]; omega) (by omega) (Nat.le_trans HBW6.out hW.size) ?_; intro v9 w9 ha9; have hrel9 : Frm (fun k => (Value.slice A0 its.length c0).ownBlock = some k) W w9 := Frm.of_grown ha9.2.1 fun _ e => e; refine hK _ _ ?_; simp only [DoneG, fillG, List.set_cons_zero, List.set_cons_succ, relG, eqG, eqG1, eqG2, eqG3, gdG, gdG1, gnG, gnG1, List.getD_cons_zero, List.getD_cons_succ, List.getElem?_cons_succ, List.getElem?_cons_zero, Option.map_some, Option.getD_some, valsG, List.map_cons, List.map_nil, List.length_cons, List.length_nil]; exact ⟨_, rfl, (by first | with_reducible assumption | exact trivial), fun W9 hk9 => (BPush.mk hKW ha9).keep hk9⟩)
        · (have d0 := hd; clear hd; subst d0; clear hs; simp only [fillG, List.set_cons_zero, List.set_cons_succ]; refine want_n rfl ?_; go_wp2_with (first | fail); simp only [DoneG, fillG, List.set_cons_zero, List.set_cons_succ, relG, eqG, eqG1, eqG2, eqG3, gdG, gdG1, gnG, gnG1, List.getD_cons_zero, List.getD_cons_succ, List.getElem?_cons_succ, List.getElem?_cons_zero, Option.map_some, Option.getD_some, valsG, List.map_cons, List.map_nil, List.length_cons, List.length_nil]; exact ⟨_, rfl, (by first | with_reducible assumption | exact krg _ | exact Keep.al (krg _) _), fun _ _ => rfl⟩)
        · (have d10 := hd; clear hd; subst d10; clear hs; simp only [fillG, List.set_cons_zero, List.set_cons_succ]; refine want_n rfl ?_; go_wp2_with (first | fail); simp only [DoneG, fillG, List.set_cons_zero, List.set_cons_succ, relG, eqG, eqG1, eqG2, eqG3, gdG, gdG1, gnG, gnG1, List.getD_cons_zero, List.getD_cons_succ, List.getElem?_cons_succ, List.getElem?_cons_zero, Option.map_some, Option.getD_some, valsG, List.map_cons, List.map_nil, List.length_cons, List.length_nil]; exact ⟨_, rfl, (by first | with_reducible assumption | exact krg _ | exact Keep.al (krg _) _), fun _ _ => rfl⟩)
      (intro us W7 h9 hW hE hA hl9; obtain ⟨u0, u1, u2, u3, u4, u5, u6, u7, u8, u9, u10, u11, u12, rfl⟩ := rog 13 h9 rfl; clear h9; clear hl9; simp only [AllG, AtG, and_true, relG, eqG, eqG1, eqG2, eqG3, gdG, gdG1, gnG, gnG1, List.getD_cons_zero, List.getD_cons_succ, List.getElem?_cons_succ, List.getElem?_cons_zero, Option.map_some, Option.getD_some, valsG, List.map_cons, List.map_nil, List.length_cons, List.length_nil] at hA; obtain ⟨d9, d11⟩ := hA; subst d11; simp only [fillG, List.set_cons_zero, List.set_cons_succ]; refine want_n rfl ?_)
      obtain ⟨hdP, hwP⟩ := TPush.done (ty := .mk [115, 116, 114, 105, 110, 103] n ks) HM3.out (tagT_wf _) ⟨_, HT3.out⟩ HL20.out H4.out d9
      obtain ⟨Af, nf, cf, ef⟩ : ∃ A n c, u9 = Value.slice A n c := by
        obtain ⟨A, c, e⟩ := own_slice hdP.row
        exact ⟨_, _, _, e⟩
      subst ef
      have FL : Frm (fun k => (Value.slice A0 its.length c0).ownBlock = some k) w6 W7 := ((Keep.dr (Keep.rf _)).frm _).tr hW
      have htp := FL.heap (fun e => (HM3.out.d1 p e).1 rfl) H4.out.2.1
      have tpc := top_cells htp 1
      have tpf := top_free htp 1
      simp only [List.getElem?_toArray, List.getElem?_cons_succ, List.getElem?_cons_zero] at tpc
      have hsz6 := hwP.frm.size
      have HR8 := hide (hwP.heap HNR3.out HR3.out)
      have HB8 := hide (hwP.heap HNB3.out HB3.out)
      have HNR8 := hide (hwP.out HRL3.out HNR3.out)
      have HNB8 := hide (hwP.out (Nat.lt_trans (Nat.lt_succ_self _) HRL3.out) HNB3.out)
      have HT8 := hide (hwP.ty HM3.out HT3.out)
      have HD8 := hide hdP
      have HWP := hide (HW3.out.tr hwP)
      have x0 := top_cells HB8.out 0
      have x1 := top_cells HB8.out 1
      have x2 := top_cells HB8.out 2
      simp only [List.getElem?_toArray, List.getElem?_cons_succ, List.getElem?_cons_zero] at x0 x1 x2
      have hbl6 : s1.bl.length = its.length := by rw [HM3.out.bl]; simp
      have hsz8 : w.heap.size + 2 ≤ (W7.setCell ⟨p, 1, none⟩ (.slice Af nf cf)).heap.size := by omega
      have HW8 := hide hsz8
      clear d9 htp hW hE e1 hdP hwP FL hsz6 hs36 hsz8
      have hbl7 : s1.bl.length = tys.length := by have := HLEN.out; omega
      have HXE := hide (show Em.strP (s1.push (.mk [115, 116, 114, 105, 110, 103] n ks)) = .err 2 → Em.blkP (Em.valP f) (.mk [115, 116, 114, 105, 110, 103] n ks) s1 = .err 2 from fun e => by
        unfold Em.blkP
        rw [if_neg (by have := HL20.out; omega), if_pos (show Ty.op (.mk [115, 116, 114, 105, 110, 103] n ks) = Em.wString from rfl), e])
      have HXO := hide (show ∀ x s', Em.strP (s1.push (.mk [115, 116, 114, 105, 110, 103] n ks)) = .ok x s' → Em.blkP (Em.valP f) (.mk [115, 116, 114, 105, 110, 103] n ks) s1 = .ok (false, (tys.length : Int)) ⟨s'.b, s'.bl.modify tys.length fun b => b.str! x, s'.ty⟩ from fun x s' e => by
        unfold Em.blkP
        rw [if_neg (by have := HL20.out; omega), if_pos (show Ty.op (.mk [115, 116, 114, 105, 110, 103] n ks) = Em.wString from rfl), e, hbl7])
      generalize Em.blkP (Em.valP f) (.mk [115, 116, 114, 105, 110, 103] n ks) s1 = res at *
      clear hbl6 hbl7
      go_wp2_with fail
      clear tpc tpf
      generalize World.setCell W7 _ _ = W8 at *
      have hii : tys.length < its.length + 1 := by have := HLEN.out; omega
      have hiii : (tys.length : Int) < (its.length : Int) + 1 := by omega
      have HITI := hide (show (its ++ [((⟨Em.tagT [115, 116, 114, 105, 110, 103], [], []⟩, .slice none 0 0) : Em.Blk × Value)])[tys.length]? = some (⟨Em.tagT [115, 116, 114, 105, 110, 103], [], []⟩, .slice none 0 0) from by rw [← HLEN.out]; simp)
      obtain ⟨g8, c8, e8⟩ := HD8.out.at_ (i := tys.length) (by simp; omega)
      have e8' : Value.slice Af nf cf = .slice (some ⟨g8, 0, none⟩) (its.length + 1) c8 := e8.trans (by rw [List.length_append, List.length_singleton])
      clear e8
      injection e8' with ea en ec
      subst ea
      subst en
      subst ec
      have E1 := hide (top_cells HD8.out.top 1)
      have e1' := E1.out
      simp only [List.getElem?_toArray, List.getElem?_cons_succ, List.getElem?_cons_zero] at e1'
      have E2 := hide e1'
      clear e1' E1 x0 x1 x2
      apply region_last 9 _ (by kernel_rfl) Keep (RelS p (.slice (some ⟨g8, 0, none⟩) (its.length + 1) cf) v4) krg ktg RelS.rf RelS.tr RelS.of [some 121, some 122, some 123, some 124, some 125, some 126, some 127, some 128, some 129, none] [eqG _ , eqG _ , eqG _ , eqG _ , eqG _ , eqG _ , fun us W v => StrF 91 B Z w0 W8 p (.slice (some ⟨g8, 0, none⟩) (its.length + 1) cf) v4 (its ++ [(⟨Em.tagT [115, 116, 114, 105, 110, 103], [], []⟩, .slice none 0 0)]) (tys ++ [(.mk [115, 116, 114, 105, 110, 103] n ks, [.string (str [115, 116, 114, 105, 110, 103]), .int .i64 n, .slice A ks.length c])]) (s1.push (.mk [115, 116, 114, 105, 110, 103] n ks)) W v, eqG _ , eqG _ , fun _ _ _ => True] [⟨[], [], false, false, false⟩, ⟨[0], [], false, false, false⟩, ⟨[1], [], false, false, false⟩, ⟨[2], [], false, false, false⟩, ⟨[], [], false, false, false⟩, ⟨[], [], true, false, false⟩, ⟨[5], [], true, true, true⟩, ⟨[3, 4], [], false, false, false⟩, ⟨[7], [], false, false, false⟩, ⟨[6, 8], [], false, false, false⟩] [6, 8] (by kernel_rfl) (by kernel_rfl) (by kernel_rfl) rfl (by kernel_rfl)
      · refine ⟨?_, ?_, ?_, ?_, ?_, ?_, ?_, ?_, ?_, trivial⟩ <;> (intro us W h9 hW hE hd hs K hK; obtain ⟨u0, u1, u2, u3, u4, u5, u6, u7, u8, u9, rfl⟩ := rog 10 h9 rfl; clear h9; try simp only [DepG, AtG, and_true, relG, eqG, eqG1, eqG2, eqG3, gdG, gdG1, gnG, gnG1, List.getD_cons_zero, List.getD_cons_succ, List.getElem?_cons_succ, List.getElem?_cons_zero, Option.map_some, Option.getD_some, valsG, List.map_cons, List.map_nil, List.length_cons, List.length_nil] at hd)
        · ((try clear hd); clear hs; simp only [fillG, List.set_cons_zero, List.set_cons_succ]; refine want_n rfl ?_; go_wp2_with (first | fail); simp only [DoneG, fillG, List.set_cons_zero, List.set_cons_succ, relG, eqG, eqG1, eqG2, eqG3, gdG, gdG1, gnG, gnG1, List.getD_cons_zero, List.getD_cons_succ, List.getElem?_cons_succ, List.getElem?_cons_zero, Option.map_some, Option.getD_some, valsG, List.map_cons, List.map_nil, List.length_cons, List.length_nil]; exact ⟨_, rfl, (by first | with_reducible assumption | exact krg _ | exact Keep.al (krg _) _), fun _ _ => rfl⟩)
        · (have d0 := hd; clear hd; subst d0; clear hs; simp only [fillG, List.set_cons_zero, List.set_cons_succ]; refine want_n rfl ?_; go_wp2_with (first | fail); simp only [DoneG, fillG, List.set_cons_zero, List.set_cons_succ, relG, eqG, eqG1, eqG2, eqG3, gdG, gdG1, gnG, gnG1, List.getD_cons_zero, List.getD_cons_succ, List.getElem?_cons_succ, List.getElem?_cons_zero, Option.map_some, Option.getD_some, valsG, List.map_cons, List.map_nil, List.length_cons, List.length_nil]; exact ⟨_, rfl, (by first | with_reducible assumption | exact krg _ | exact Keep.al (krg _) _), fun _ _ => rfl⟩)
        · (have d1 := hd; clear hd; subst d1; clear hs; simp only [fillG, List.set_cons_zero, List.set_cons_succ]; refine want_n rfl ?_; go_wp2_with (first | fail); simp only [DoneG, fillG, List.set_cons_zero, List.set_cons_succ, relG, eqG, eqG1, eqG2, eqG3, gdG, gdG1, gnG, gnG1, List.getD_cons_zero, List.getD_cons_succ, List.getElem?_cons_succ, List.getElem?_cons_zero, Option.map_some, Option.getD_some, valsG, List.map_cons, List.map_nil, List.length_cons, List.length_nil]; exact ⟨_, rfl, (by first | with_reducible assumption | exact krg _ | exact Keep.al (krg _) _), fun _ _ => rfl⟩)
        · (have d2 := hd; clear hd; subst d2; clear hs; simp only [fillG, List.set_cons_zero, List.set_cons_succ]; have e1 := hW.2 _ (Keep.cell (Keep.dr (Keep.rf _)) E2.out); refine want_n rfl ?_; go_wp2_with (first | fail); simp only [DoneG, fillG, List.set_cons_zero, List.set_cons_succ, relG, eqG, eqG1, eqG2, eqG3, gdG, gdG1, gnG, gnG1, List.getD_cons_zero, List.getD_cons_succ, List.getElem?_cons_succ, List.getElem?_cons_zero, Option.map_some, Option.getD_some, valsG, List.map_cons, List.map_nil, List.length_cons, List.length_nil]; exact ⟨_, rfl, (by first | with_reducible assumption | exact krg _ | exact Keep.al (krg _) _), fun _ _ => rfl⟩)
        · ((try clear hd); clear hs; simp only [fillG, List.set_cons_zero, List.set_cons_succ]; refine want_n rfl ?_; go_wp2_with (first | fail); simp only [DoneG, fillG, List.set_cons_zero, List.set_cons_succ, relG, eqG, eqG1, eqG2, eqG3, gdG, gdG1, gnG, gnG1, List.getD_cons_zero, List.getD_cons_succ, List.getElem?_cons_succ, List.getElem?_cons_zero, Option.map_some, Option.getD_some, valsG, List.map_cons, List.map_nil, List.length_cons, List.length_nil]; exact ⟨_, rfl, (by first | with_reducible assumption | exact krg _ | exact Keep.al (krg _) _), fun _ _ => rfl⟩)
        · ((try clear hd); clear hs; simp only [fillG, List.set_cons_zero, List.set_cons_succ]; refine want_n rfl ?_; go_wp2_with (first | fail); simp only [DoneG, fillG, List.set_cons_zero, List.set_cons_succ, relG, eqG, eqG1, eqG2, eqG3, gdG, gdG1, gnG, gnG1, List.getD_cons_zero, List.getD_cons_succ, List.getElem?_cons_succ, List.getElem?_cons_zero, Option.map_some, Option.getD_some, valsG, List.map_cons, List.map_nil, List.length_cons, List.length_nil]; exact ⟨_, rfl, (by first | with_reducible assumption | exact krg _ | exact Keep.al (krg _) _), fun _ _ => rfl⟩)
        · (have d5 := hd; clear hd; subst d5; clear hs; simp only [fillG, List.set_cons_zero, List.set_cons_succ]; have hKW := Keep.tr (Keep.dr (Keep.rf _)) (hE rfl); have e1 := hW.2 _ (Keep.cell (Keep.dr (Keep.rf _)) E2.out); refine want_n rfl ?_; go_wp2_with (first | (go_at_call 62; refine (rvText (HD8.out.keep hKW)).mono ?_; rintro e w' ⟨x9, s9, cE, rfl, ⟨bv9, hm9⟩, hw9, hend⟩; have hrel9 : RelS p (.slice (some ⟨g8, 0, none⟩) (its.length + 1) cf) v4 W w' := ⟨hw9.frm, fun v e => by rw [top_cells (HD8.out.keep hKW).top 1] at e; rw [top_cells hm9.top 1]; simpa using e⟩) | fail); simp only [DoneG, fillG, List.set_cons_zero, List.set_cons_succ, relG, eqG, eqG1, eqG2, eqG3, gdG, gdG1, gnG, gnG1, List.getD_cons_zero, List.getD_cons_succ, List.getElem?_cons_succ, List.getElem?_cons_zero, Option.map_some, Option.getD_some, valsG, List.map_cons, List.map_nil, List.length_cons, List.length_nil]; exact ⟨_, rfl, (by first | with_reducible assumption | exact trivial), fun W9 hk9 => StrF.keep ⟨x9, s9, cE, rfl, ⟨_, hm9⟩, (RWent.of_keep hKW).tr hw9, hend⟩ hk9⟩)
        · (obtain ⟨d3, d4⟩ := hd; subst d3; subst d4; clear hs; simp only [fillG, List.set_cons_zero, List.set_cons_succ]; refine want_n rfl ?_; go_wp2_with (first | fail); simp only [DoneG, fillG, List.set_cons_zero, List.set_cons_succ, relG, eqG, eqG1, eqG2, eqG3, gdG, gdG1, gnG, gnG1, List.getD_cons_zero, List.getD_cons_succ, List.getElem?_cons_succ, List.getElem?_cons_zero, Option.map_some, Option.getD_some, valsG, List.map_cons, List.map_nil, List.length_cons, List.length_nil]; exact ⟨_, rfl, (by first | with_reducible assumption | exact krg _ | exact Keep.al (krg _) _), fun _ _ => rfl⟩)
        · (have d7 := hd; clear hd; subst d7; clear hs; simp only [fillG, List.set_cons_zero, List.set_cons_succ]; refine want_n rfl ?_; go_wp2_with (first | fail); simp only [DoneG, fillG, List.set_cons_zero, List.set_cons_succ, relG, eqG, eqG1, eqG2, eqG3, gdG, gdG1, gnG, gnG1, List.getD_cons_zero, List.getD_cons_succ, List.getElem?_cons_succ, List.getElem?_cons_zero, Option.map_some, Option.getD_some, valsG, List.map_cons, List.map_nil, List.length_cons, List.length_nil]; exact ⟨_, rfl, (by first | with_reducible assumption | exact krg _ | exact Keep.al (krg _) _), fun _ _ => rfl⟩)
      (intro us W9 h9 hW hE hA hl9; obtain ⟨u0, u1, u2, u3, u4, u5, u6, u7, u8, u9, rfl⟩ := rog 10 h9 rfl; clear h9; clear hl9; simp only [AllG, AtG, and_true, relG, eqG, eqG1, eqG2, eqG3, gdG, gdG1, gnG, gnG1, List.getD_cons_zero, List.getD_cons_succ, List.getElem?_cons_succ, List.getElem?_cons_zero, Option.map_some, Option.getD_some, valsG, List.map_cons, List.map_nil, List.length_cons, List.length_nil] at hA; obtain ⟨d6, d8⟩ := hA; subst d8; simp only [fillG, List.set_cons_zero, List.set_cons_succ]; refine want_n rfl ?_)
      obtain ⟨x9, s9, cE, e6, ⟨bv9, hm9⟩, hw9, hend⟩ := d6
      subst e6
      have hR7 := hw9.heap HNR8.out HR8.out
      have HNR7 := hide (hw9.out (Array.getElem?_eq_some_iff.1 HR8.out).1 HNR8.out)
      obtain ⟨y0, y1⟩ := row_at hm9.row HITI.out 1 _ rfl
      obtain ⟨hmS, hwS⟩ := hm9.setStr HITI.out x9
      have hR8 := hwS.heap HNR7.out hR7
      have HR9 := hide hR8
      have HNR9 := hide (hwS.out (Array.getElem?_eq_some_iff.1 hR7).1 HNR7.out)
      have r0 := top_cells hR8 0
      have r1 := top_cells hR8 1
      have f0 := top_free hR8 0
      have f1 := top_free hR8 1
      simp only [List.getElem?_toArray, List.getElem?_cons_succ, List.getElem?_cons_zero] at r0 r1
      have HMS := hide hmS
      have HWS := hide ((HWP.out.tr hw9).tr hwS)
      have HEND := hide hend
      have hl20' := HL20.out
      have hln := HLEN.out
      have HLI := hide (show tys.length < 2000 from by omega)
      clear hmS hwS hw9 hm9 hend hR7 hR8 hW hE hl20' hln
      go_wp2_with fail
      refine bodyPost_ret_by (results_cell_row rfl _ _ (w.heap.size + 1) 59 _ (0, 0) _ rfl (heap_set2R HR9.out _ _) Tryz.underlying59 rfl ?_) rfl ?_
      · kernel_rfl
      · refine ⟨(false, (tys.length : Int)), _, cE, rfl, imm_wf (by omega) (by have := HLI.out; omega), ⟨_, _, _, _, _, ⟨_, HMS.out.far (frm_set2R _ _ _ _) HNR9.out H0R.out⟩, HWS.out.far (by omega) (frm_set2R _ _ _ _)⟩, ?_⟩
        rcases HEND.out with ⟨e1, e2⟩ | ⟨e1, e2⟩
        · exact .inl ⟨e1, HXO.out _ _ e2⟩
        · exact .inr ⟨.inl e1, by rw [HXE.out e2, e1]⟩
end
end Go.Proofs.YtoehaijmkmdggaaGreat
