/- Walk: Graph of the reference. -/
import Derived.Test.YtoehaijmkmdggaaGreatGRvZ
import Derived.Test.YtoehaijmkmdggaaGreatGRdG
set_option linter.unusedSimpArgs false
set_option linter.unusedVariables false
namespace Go.Proofs.YtoehaijmkmdggaaGreat
open Go.RowKit
open Em (Ty)
set_option linter.unusedVariables false
set_option linter.unusedSimpArgs false
set_option maxRecDepth 100000
set_option maxHeartbeats 8000000 in
theorem refGraph23 (b : List UInt8) (t : Ty) (d : Nat) (cs : List Value) (w : World) (v : Value) (hb : Bs w v b) (ht : TyK d w cs t) : Calls Tryz.prog 18 #[v, .agg cs.toArray] w (GrR w (Em.graphP b t)) := by
  cases d with
  | zero => exact ht.elim
  | succ d =>
    have HT0 := hide ht
    obtain ⟨v9, rfl, hn, hs⟩ := ht
    obtain ⟨A, c, rfl, _⟩ := id hs
    obtain ⟨Ab, cb, rfl, hbl1, hbl2, _⟩ := id hb
    have HB := hide hb
    have kx : Keep w ((w.alloc (.cells #[.string (str t.op), .int .i64 t.n, .slice A t.kids.length c] 25)).alloc (.cells #[.bool false, .int .i64 0, .slice none 0 0] 62)) := (by repeat (first | exact Keep.rf _ | assumption | apply Keep.al | apply Keep.dr | apply Keep.dn))
    have hX := (Keep.frm (Keep.al (Keep.rf (w.alloc (.cells #[.string (str t.op), .int .i64 t.n, .slice A t.kids.length c] 25))) (.cells #[.bool false, .int .i64 0, .slice none 0 0] 62)) (fun _ => False)).heap (fun h => h) (heap_alloc_new w (.cells #[.string (str t.op), .int .i64 t.n, .slice A t.kids.length c] 25))
    have hR := new_second w (.cells #[.string (str t.op), .int .i64 t.n, .slice A t.kids.length c] 25) (.cells #[.bool false, .int .i64 0, .slice none 0 0] 62)
    have hsz1 : ((w.alloc (.cells #[.string (str t.op), .int .i64 t.n, .slice A t.kids.length c] 25)).alloc (.cells #[.bool false, .int .i64 0, .slice none 0 0] 62)).heap.size = w.heap.size + 2 := by simp
    have b0 := top_cells hX 0
    have b1 := top_cells hX 1
    have b2 := top_cells hX 2
    simp only [List.getElem?_toArray, List.getElem?_cons_succ, List.getElem?_cons_zero] at b0 b1 b2
    have HR := hide hR
    have HX := hide hX
    have KX := hide kx
    have HIS := hide (fun W (k : Keep w W) => refIsT t W _ ⟨d + 1, _, rfl, HT0.out.keep k⟩)
    have HSE := hide (fun W (k : Keep w W) => refSentT t W _ ⟨d + 1, _, rfl, HT0.out.keep k⟩)
    have HSZ := hide hsz1
    clear hX hR kx hs hn hsz1 hb
    have hnotok : (Em.isT t && Em.sentT t) = false → Em.graphP b t = (⟨(false, 0), []⟩, 6) := fun h => by unfold Em.graphP; rw [if_neg (by rw [h]; decide)]
    cases hT : Em.isT t with
    | false =>
      have HX2 := hide (hnotok (by rw [hT]; rfl))
      have HT := hide hT
      clear hT hnotok
      go_enter Tryz.func18, Tryz.ntmps18
      go_wp2_with fail
      generalize World.alloc (World.alloc w _) _ = w1 at *
      refine (HIS.out _ KX.out).mono ?_
      rintro e w2 ⟨rfl, k2⟩
      rw [HT.out]
      have hR2 := (k2.frm fun _ => False).heap (fun h => h) HR.out
      have KW := hide (Keep.tr KX.out k2)
      have r0 := top_cells hR2 0
      have r1 := top_cells hR2 1
      have r2 := top_cells hR2 2
      have f0 := top_free hR2 0
      have f1 := top_free hR2 1
      have f2 := top_free hR2 2
      simp only [List.getElem?_toArray, List.getElem?_cons_succ, List.getElem?_cons_zero] at r0 r1 r2
      have HR2 := hide hR2
      clear hR2
      go_wp2_with fail
      refine bodyPost_ret_by (results_cell2 rfl _ _ (w.heap.size + 1) 62 _ (0, 0) _ rfl (heap_set3 HR2.out _ _ _) Tryz.underlying62 rfl ?_) rfl ?_
      · kernel_rfl
      · exact GrR.none HX2.out (Frm.keep KW.out (frm_set3 _ _ _ _ _) fun i e => by have e : i = w.heap.size + 1 := e; omega)
    | true =>
      have HT := hide hT
      cases hS : Em.sentT t with
      | false =>
        have HX2 := hide (hnotok (by rw [hT, hS]; rfl))
        have HS := hide hS
        clear hT hS hnotok
        go_enter Tryz.func18, Tryz.ntmps18
        go_wp2_with fail
        generalize World.alloc (World.alloc w _) _ = w1 at *
        refine (HIS.out _ KX.out).mono ?_
        rintro e w2 ⟨rfl, k2⟩
        rw [HT.out]
        have b0 := Keep.cell k2 b0
        have b1 := Keep.cell k2 b1
        have b2 := Keep.cell k2 b2
        go_wp2_with fail
        refine (HSE.out _ (Keep.tr KX.out k2)).mono ?_
        rintro e w3 ⟨rfl, k3⟩
        rw [HS.out]
        have k2 := Keep.tr k2 k3
        have hR2 := (k2.frm fun _ => False).heap (fun h => h) HR.out
        have KW := hide (Keep.tr KX.out k2)
        have r0 := top_cells hR2 0
        have r1 := top_cells hR2 1
        have r2 := top_cells hR2 2
        have f0 := top_free hR2 0
        have f1 := top_free hR2 1
        have f2 := top_free hR2 2
        simp only [List.getElem?_toArray, List.getElem?_cons_succ, List.getElem?_cons_zero] at r0 r1 r2
        have HR2 := hide hR2
        clear hR2
        go_wp2_with fail
        refine bodyPost_ret_by (results_cell2 rfl _ _ (w.heap.size + 1) 62 _ (0, 0) _ rfl (heap_set3 HR2.out _ _ _) Tryz.underlying62 rfl ?_) rfl ?_
        · kernel_rfl
        · exact GrR.none HX2.out (Frm.keep KW.out (frm_set3 _ _ _ _ _) fun i e => by have e : i = w.heap.size + 1 := e; omega)
      | true =>
        have hokS : Em.okS t = true := by
          unfold Em.okS
          rw [hS, Bool.and_true]
          unfold Em.isT at hT
          exact (Bool.and_eq_true _ _ ▸ hT).2
        have hg0 : (Em.isT t && Em.sentT t) = true := by rw [hT, hS]; rfl
        have HG7 := hide (show 4000 < b.length → Em.graphP b t = (⟨(false, 0), []⟩, 7) from fun h => by unfold Em.graphP; rw [if_pos hg0, if_pos h])
        have HGE := hide (show ¬ 4000 < b.length → ∀ c, Em.valP 2001 t ⟨b, [], []⟩ = .err c → Em.graphP b t = (⟨(false, 0), []⟩, c) from fun h c e => by unfold Em.graphP; rw [if_pos hg0, if_neg h, e])
        have HGO := hide (show ¬ 4000 < b.length → ∀ x s, Em.valP 2001 t ⟨b, [], []⟩ = .ok x s → Em.graphP b t = if s.b = [] then (⟨x, s.bl⟩, 0) else (⟨(false, 0), []⟩, 2) from fun h x s e => by unfold Em.graphP; rw [if_pos hg0, if_neg h, e])
        have HOKS := hide hokS
        have HS := hide hS
        clear hT hS hnotok hokS hg0
        go_enter Tryz.func18, Tryz.ntmps18
        go_wp2_with fail
        generalize World.alloc (World.alloc w _) _ = w1 at *
        refine (HIS.out _ KX.out).mono ?_
        rintro e w2 ⟨rfl, k2⟩
        rw [HT.out]
        have b0 := Keep.cell k2 b0
        have b1 := Keep.cell k2 b1
        have b2 := Keep.cell k2 b2
        go_wp2_with fail
        refine (HSE.out _ (Keep.tr KX.out k2)).mono ?_
        rintro e w3 ⟨rfl, k3⟩
        rw [HS.out]
        have b0 := Keep.cell k3 b0
        have b1 := Keep.cell k3 b1
        have b2 := Keep.cell k3 b2
        have k2 := Keep.tr k2 k3
        have hR2 := (k2.frm fun _ => False).heap (fun h => h) HR.out
        have KW := hide (Keep.tr KX.out k2)
        have r0 := top_cells hR2 0
        have r1 := top_cells hR2 1
        have r2 := top_cells hR2 2
        have f0 := top_free hR2 0
        have f1 := top_free hR2 1
        have f2 := top_free hR2 2
        simp only [List.getElem?_toArray, List.getElem?_cons_succ, List.getElem?_cons_zero] at r0 r1 r2
        have HR2 := hide hR2
        have hsz3 : w.heap.size + 2 ≤ w3.heap.size := by have := HSZ.out; have := k2.size; omega
        clear hR2 k2 k3
        by_cases hlen : 4000 < b.length
        · have hli : (b.length : Int) > 4000 := by omega
          have HX2 := hide (show Em.graphP b t = (⟨(false, 0), []⟩, 7) from HG7.out hlen)
          go_wp2_with fail
          refine bodyPost_ret_by (results_cell2 rfl _ _ (w.heap.size + 1) 62 _ (0, 0) _ rfl (heap_set3 HR2.out _ _ _) Tryz.underlying62 rfl ?_) rfl ?_
          · kernel_rfl
          · exact GrR.none HX2.out (Frm.keep KW.out (frm_set3 _ _ _ _ _) fun i e => by have e : i = w.heap.size + 1 := e; omega)
        · have hli : ¬ (b.length : Int) > 4000 := by omega
          have kR : Keep w3 (w3.alloc (.cells #[.slice Ab b.length cb, .slice none 0 0, .slice none 0 0, .int .i64 0] 91)) := (by repeat (first | exact Keep.rf _ | assumption | apply Keep.al | apply Keep.dr | apply Keep.dn))
          have hM := RdM.start (ex := [.int .i64 0]) (heap_alloc_new w3 (.cells #[.slice Ab b.length cb, .slice none 0 0, .slice none 0 0, .int .i64 0] 91)) HB.out (Keep.tr KW.out kR) (Nat.le_trans (by omega) hsz3)
          have HV := hide (rvNode _ _ _ 2001 _ _ _ _ _ _ _ _ t (d + 1) _ hM ((TyI.of HT0.out).keep (Keep.tr KW.out kR) |>.mono fun k hk => .inl hk) HOKS.out (by simp))
          have b0 := Keep.cell kR b0
          have b1 := Keep.cell kR b1
          have b2 := Keep.cell kR b2
          have KR := hide kR
          have HM := hide hM
          clear hM kR
          have HNR := hide (show ¬ HasR (fun _ => False) w3.heap.size (.slice none 0 0) (.slice none 0 0) [] (w.heap.size + 1) from fun e => by
            rcases e with (e | e | e | ⟨it, hit, _⟩) | e
            · omega
            · simp [Value.ownBlock] at e
            · simp [Value.ownBlock] at e
            · cases hit
            · exact e)
          have HRa := hide ((KR.out.frm fun _ => False).heap (fun h => h) HR2.out)
          go_wp2_with fail
          generalize World.alloc w3 _ = wa at *
          refine HV.out.mono ?_
          rintro e W4 ⟨x, s1, cE, rfl, hx9, ⟨Z4, lv4, tv4, its4, tys4, ⟨bv4, hd4⟩, hw4⟩, hend⟩
          obtain ⟨Ac, cc, rfl, _⟩ := id hd4.byt
          obtain ⟨Al, cl, rfl⟩ := own_slice hd4.row
          obtain ⟨x1, x2⟩ := x
          have kT : Keep W4 (W4.alloc (.cells #[.bool x1, .int .i64 x2] 59)) := (by repeat (first | exact Keep.rf _ | assumption | apply Keep.al | apply Keep.dr | apply Keep.dn))
          have hT7 := heap_alloc_new W4 (.cells #[.bool x1, .int .i64 x2] 59)
          have hdA := hd4.keep kT
          have p0 := top_cells hdA.top 0
          have p1 := top_cells hdA.top 1
          have p3 := top_cells hdA.top 3
          have t0 := top_cells hT7 0
          have t1 := top_cells hT7 1
          simp only [List.getElem?_toArray, List.getElem?_cons_succ, List.getElem?_cons_zero] at p0 p1 p3 t0 t1
          have hRR := (kT.frm fun _ => False).heap (fun h => h) (hw4.heap HNR.out HRa.out)
          have HRR0 := hide hRR
          have KZ0 := hide (Keep.tr (hw4.low HM.out) kT)
          have HD4 := hide hd4
          have HDA := hide hdA
          have HFAIL := hide (rvFail 2 hdA)
          have HRA := hide (show w.heap.size + 1 < wa.heap.size from (Array.getElem?_eq_some_iff.1 HRa.out).1)
          have HNR4 := hide (hw4.out HRA.out HNR.out)
          have HX9 := hide hx9
          have HEND := hide hend
          have HKT := hide kT
          clear hRR hw4 hd4 hdA kT hT7 b0 b1 b2 hx9 hend
          rcases HEND.out with ⟨rfl, hE0⟩ | ⟨hcc, hE0⟩
          · have HG := hide (HGO.out hlen (x1, x2) s1 hE0)
            by_cases hbe : s1.b = []
            · have HX2 := hide (show Em.graphP b t = (⟨(x1, x2), s1.bl⟩, 0) from by rw [HG.out, if_pos hbe])
              have hzi : ¬ (0 : Int) < (s1.b.length : Int) := by rw [hbe]; simp
              clear hbe
              go_wp2_with fail
              clear p0 hzi
              generalize World.alloc W4 _ = Wa at *
              apply region_all (by kernel_rfl) Keep (Frm (· = w.heap.size + 1)) krg ktg (Frm.rf _) (fun _ _ _ => Frm.tr) (fun _ _ h => Keep.frm h _) [some 45, some 46, some 47, some 48, some 49, some 50, none, some 5] [eqG _ , eqG _ , eqG _ , eqG _ , eqG _ , eqG _ , fun us W v => W.heap[w.heap.size + 1]? = some (.cells #[.bool x1, .int .i64 x2, .slice Al its4.length cl] 62), eqG _ ] [⟨[], [], true, false, false⟩, ⟨[], [], true, false, false⟩, ⟨[1], [], true, false, false⟩, ⟨[2], [], true, false, false⟩, ⟨[3], [], true, false, false⟩, ⟨[0, 4], [], true, false, false⟩, ⟨[5], [], true, true, true⟩, ⟨[], [], false, false, false⟩] [6, 7] (by kernel_rfl) (by kernel_rfl) 
              · refine ⟨?_, ?_, ?_, ?_, ?_, ?_, ?_, ?_, trivial⟩ <;> (intro us W h9 hW hE hd hs K hK; obtain ⟨u0, u1, u2, u3, u4, u5, u6, u7, rfl⟩ := rog 8 h9 rfl; clear h9; try simp only [DepG, AtG, and_true, relG, eqG, eqG1, eqG2, eqG3, gdG, gdG1, gnG, gnG1, List.getD_cons_zero, List.getD_cons_succ, List.getElem?_cons_succ, List.getElem?_cons_zero, Option.map_some, Option.getD_some, valsG, List.map_cons, List.map_nil, List.length_cons, List.length_nil] at hd)
                · ((try clear hd); clear hs; simp only [fillG, List.set_cons_zero, List.set_cons_succ]; have hKW := Keep.tr (Keep.dr (Keep.rf _)) (hE rfl); have t0 := Keep.cell hKW t0; have t1 := Keep.cell hKW t1; have p1 := Keep.cell hKW p1; refine want_n rfl ?_; go_wp2_with (first | fail); simp only [DoneG, fillG, List.set_cons_zero, List.set_cons_succ, relG, eqG, eqG1, eqG2, eqG3, gdG, gdG1, gnG, gnG1, List.getD_cons_zero, List.getD_cons_succ, List.getElem?_cons_succ, List.getElem?_cons_zero, Option.map_some, Option.getD_some, valsG, List.map_cons, List.map_nil, List.length_cons, List.length_nil]; exact ⟨_, rfl, (by first | with_reducible assumption | exact krg _ | exact Keep.al (krg _) _), fun _ _ => rfl⟩)
                · ((try clear hd); clear hs; simp only [fillG, List.set_cons_zero, List.set_cons_succ]; refine want_n rfl ?_; go_wp2_with (first | fail); simp only [DoneG, fillG, List.set_cons_zero, List.set_cons_succ, relG, eqG, eqG1, eqG2, eqG3, gdG, gdG1, gnG, gnG1, List.getD_cons_zero, List.getD_cons_succ, List.getElem?_cons_succ, List.getElem?_cons_zero, Option.map_some, Option.getD_some, valsG, List.map_cons, List.map_nil, List.length_cons, List.length_nil]; exact ⟨_, rfl, (by first | with_reducible assumption | exact krg _ | exact Keep.al (krg _) _), fun _ _ => rfl⟩)
                · (have d1 := hd; clear hd; subst d1; clear hs; simp only [fillG, List.set_cons_zero, List.set_cons_succ]; refine want_n rfl ?_; go_wp2_with (first | fail); simp only [DoneG, fillG, List.set_cons_zero, List.set_cons_succ, relG, eqG, eqG1, eqG2, eqG3, gdG, gdG1, gnG, gnG1, List.getD_cons_zero, List.getD_cons_succ, List.getElem?_cons_succ, List.getElem?_cons_zero, Option.map_some, Option.getD_some, valsG, List.map_cons, List.map_nil, List.length_cons, List.length_nil]; exact ⟨_, rfl, (by first | with_reducible assumption | exact krg _ | exact Keep.al (krg _) _), fun _ _ => rfl⟩)
                · (have d2 := hd; clear hd; subst d2; clear hs; simp only [fillG, List.set_cons_zero, List.set_cons_succ]; refine want_n rfl ?_; go_wp2_with (first | fail); simp only [DoneG, fillG, List.set_cons_zero, List.set_cons_succ, relG, eqG, eqG1, eqG2, eqG3, gdG, gdG1, gnG, gnG1, List.getD_cons_zero, List.getD_cons_succ, List.getElem?_cons_succ, List.getElem?_cons_zero, Option.map_some, Option.getD_some, valsG, List.map_cons, List.map_nil, List.length_cons, List.length_nil]; exact ⟨_, rfl, (by first | with_reducible assumption | exact krg _ | exact Keep.al (krg _) _), fun _ _ => rfl⟩)
                · (have d3 := hd; clear hd; subst d3; clear hs; simp only [fillG, List.set_cons_zero, List.set_cons_succ]; have hKW := Keep.tr (Keep.dr (Keep.rf _)) (hE rfl); have t0 := Keep.cell hKW t0; have t1 := Keep.cell hKW t1; have p1 := Keep.cell hKW p1; refine want_n rfl ?_; go_wp2_with (first | fail); simp only [DoneG, fillG, List.set_cons_zero, List.set_cons_succ, relG, eqG, eqG1, eqG2, eqG3, gdG, gdG1, gnG, gnG1, List.getD_cons_zero, List.getD_cons_succ, List.getElem?_cons_succ, List.getElem?_cons_zero, Option.map_some, Option.getD_some, valsG, List.map_cons, List.map_nil, List.length_cons, List.length_nil]; exact ⟨_, rfl, (by first | with_reducible assumption | exact krg _ | exact Keep.al (krg _) _), fun _ _ => rfl⟩)
                · (obtain ⟨d0, d4⟩ := hd; subst d0; subst d4; clear hs; simp only [fillG, List.set_cons_zero, List.set_cons_succ]; refine want_n rfl ?_; go_wp2_with (first | fail); simp only [DoneG, fillG, List.set_cons_zero, List.set_cons_succ, relG, eqG, eqG1, eqG2, eqG3, gdG, gdG1, gnG, gnG1, List.getD_cons_zero, List.getD_cons_succ, List.getElem?_cons_succ, List.getElem?_cons_zero, Option.map_some, Option.getD_some, valsG, List.map_cons, List.map_nil, List.length_cons, List.length_nil]; exact ⟨_, rfl, (by first | with_reducible assumption | exact krg _ | exact Keep.al (krg _) _), fun _ _ => rfl⟩)
                · (have d5 := hd; clear hd; subst d5; clear hs; simp only [fillG, List.set_cons_zero, List.set_cons_succ]; have hKW := Keep.tr (Keep.dr (Keep.rf _)) (hE rfl); have t0 := Keep.cell hKW t0; have t1 := Keep.cell hKW t1; have p1 := Keep.cell hKW p1; refine want_n rfl ?_; have hg9 := (hKW.frm fun _ => False).heap (fun h => h) HRR0.out; have f0 := top_free hg9 0; have f1 := top_free hg9 1; have f2 := top_free hg9 2; have c0 := top_cells hg9 0; have c1 := top_cells hg9 1; have c2 := top_cells hg9 2; simp only [List.getElem?_toArray, List.getElem?_cons_succ, List.getElem?_cons_zero] at c0 c1 c2; have hrel9 := frm_set3 W (w.heap.size + 1) (.bool x1) (.int .i64 x2) (.slice Al its4.length cl); go_wp2_with fail; simp only [DoneG, fillG, List.set_cons_zero, List.set_cons_succ, relG, eqG, eqG1, eqG2, eqG3, gdG, gdG1, gnG, gnG1, List.getD_cons_zero, List.getD_cons_succ, List.getElem?_cons_succ, List.getElem?_cons_zero, Option.map_some, Option.getD_some, valsG, List.map_cons, List.map_nil, List.length_cons, List.length_nil]; exact ⟨undef, trivial, (by first | with_reducible assumption | exact trivial), fun W9 hk9 => ((hk9.frm fun _ => False).heap (fun h => h) (heap_set3 ((hKW.frm fun _ => False).heap (fun h => h) HRR0.out) _ _ _))⟩)
                · ((try clear hd); clear hs; simp only [fillG, List.set_cons_zero, List.set_cons_succ]; refine want_n rfl ?_; go_wp2_with (first | fail); simp only [DoneG, fillG, List.set_cons_zero, List.set_cons_succ, relG, eqG, eqG1, eqG2, eqG3, gdG, gdG1, gnG, gnG1, List.getD_cons_zero, List.getD_cons_succ, List.getElem?_cons_succ, List.getElem?_cons_zero, Option.map_some, Option.getD_some, valsG, List.map_cons, List.map_nil, List.length_cons, List.length_nil]; exact ⟨_, rfl, (by first | with_reducible assumption | exact krg _ | exact Keep.al (krg _) _), fun _ _ => rfl⟩)
              (intro us W9 h9 hW hE hA; obtain ⟨u0, u1, u2, u3, u4, u5, u6, u7, rfl⟩ := rog 8 h9 rfl; clear h9; simp only [AllG, AtG, and_true, relG, eqG, eqG1, eqG2, eqG3, gdG, gdG1, gnG, gnG1, List.getD_cons_zero, List.getD_cons_succ, List.getElem?_cons_succ, List.getElem?_cons_zero, Option.map_some, Option.getD_some, valsG, List.map_cons, List.map_nil, List.length_cons, List.length_nil] at hA; obtain ⟨d6, d7⟩ := hA; subst d7; simp only [fillG, List.set_cons_zero, List.set_cons_succ])
              go_wp2_with fail
              refine bodyPost_ret_by (results_cell2 rfl _ _ (w.heap.size + 1) 62 _ (0, 0) _ rfl d6 Tryz.underlying62 rfl ?_) rfl ?_
              · kernel_rfl
              · rw [HX2.out]
                have F9 : Frm (· = w.heap.size + 1) W4 W9 := (HKT.out.frm _).tr (((Keep.dr (Keep.rf _)).frm _).tr hW)
                have hM9 := HD4.out.far F9 HNR4.out (by omega)
                exact ⟨_, rfl, ⟨⟨_, rfl, HX9.out, hM9.sl⟩, fun S hS => ⟨_, rfl, HX9.out, hM9.slT hS⟩⟩, hM9.k0⟩
            · have HX2 := hide (show Em.graphP b t = (⟨(false, 0), []⟩, 2) from by rw [HG.out, if_neg hbe])
              have hzi : (0 : Int) < (s1.b.length : Int) := by
                have := List.length_pos_iff.2 hbe
                omega
              clear hbe
              go_wp2_with fail
              refine HFAIL.out.mono ?_
              rintro e W5 ⟨rfl, hd5, hw5⟩
              rw [failE_0] at hd5
              have HRRx := hide (hw5.heap HNR4.out HRR0.out)
              have HDx := hide hd5
              have KZx := hide (hw5.low HDA.out)
              generalize hWx : W5 = Wx at *
              clear hWx hd5 hw5
              have c3 := top_cells HDx.out.top 3
              simp only [List.getElem?_toArray, List.getElem?_cons_succ, List.getElem?_cons_zero] at c3
              have C3 := hide c3
              go_wp2_with fail
              clear c3
              apply region_all (by kernel_rfl) Keep (Frm (· = w.heap.size + 1)) krg ktg (Frm.rf _) (fun _ _ _ => Frm.tr) (fun _ _ h => Keep.frm h _) [some 40, some 41, some 42, some 43, some 44, none, some 5] [eqG _ , eqG _ , eqG _ , eqG _ , eqG _ , fun us W v => W.heap[w.heap.size + 1]? = some (.cells #[.bool false, .int .i64 0, .slice none 0 0] 62), eqG _ ] [⟨[], [], true, false, false⟩, ⟨[], [], false, false, false⟩, ⟨[1], [], false, false, false⟩, ⟨[2], [], false, false, false⟩, ⟨[3], [], false, false, false⟩, ⟨[0], [], true, true, true⟩, ⟨[4], [], false, false, false⟩] [5, 6] (by kernel_rfl) (by kernel_rfl) 
              · refine ⟨?_, ?_, ?_, ?_, ?_, ?_, ?_, trivial⟩ <;> (intro us W h9 hW hE hd hs K hK; obtain ⟨u0, u1, u2, u3, u4, u5, u6, rfl⟩ := rog 7 h9 rfl; clear h9; try simp only [DepG, AtG, and_true, relG, eqG, eqG1, eqG2, eqG3, gdG, gdG1, gnG, gnG1, List.getD_cons_zero, List.getD_cons_succ, List.getElem?_cons_succ, List.getElem?_cons_zero, Option.map_some, Option.getD_some, valsG, List.map_cons, List.map_nil, List.length_cons, List.length_nil] at hd)
                · ((try clear hd); clear hs; simp only [fillG, List.set_cons_zero, List.set_cons_succ]; refine want_n rfl ?_; go_wp2_with (first | fail); simp only [DoneG, fillG, List.set_cons_zero, List.set_cons_succ, relG, eqG, eqG1, eqG2, eqG3, gdG, gdG1, gnG, gnG1, List.getD_cons_zero, List.getD_cons_succ, List.getElem?_cons_succ, List.getElem?_cons_zero, Option.map_some, Option.getD_some, valsG, List.map_cons, List.map_nil, List.length_cons, List.length_nil]; exact ⟨_, rfl, (by first | with_reducible assumption | exact krg _ | exact Keep.al (krg _) _), fun _ _ => rfl⟩)
                · ((try clear hd); clear hs; simp only [fillG, List.set_cons_zero, List.set_cons_succ]; refine want_n rfl ?_; go_wp2_with (first | fail); simp only [DoneG, fillG, List.set_cons_zero, List.set_cons_succ, relG, eqG, eqG1, eqG2, eqG3, gdG, gdG1, gnG, gnG1, List.getD_cons_zero, List.getD_cons_succ, List.getElem?_cons_succ, List.getElem?_cons_zero, Option.map_some, Option.getD_some, valsG, List.map_cons, List.map_nil, List.length_cons, List.length_nil]; exact ⟨_, rfl, (by first | with_reducible assumption | exact krg _ | exact Keep.al (krg _) _), fun _ _ => rfl⟩)
                · (have d1 := hd; clear hd; subst d1; clear hs; simp only [fillG, List.set_cons_zero, List.set_cons_succ]; refine want_n rfl ?_; go_wp2_with (first | fail); simp only [DoneG, fillG, List.set_cons_zero, List.set_cons_succ, relG, eqG, eqG1, eqG2, eqG3, gdG, gdG1, gnG, gnG1, List.getD_cons_zero, List.getD_cons_succ, List.getElem?_cons_succ, List.getElem?_cons_zero, Option.map_some, Option.getD_some, valsG, List.map_cons, List.map_nil, List.length_cons, List.length_nil]; exact ⟨_, rfl, (by first | with_reducible assumption | exact krg _ | exact Keep.al (krg _) _), fun _ _ => rfl⟩)
                · (have d2 := hd; clear hd; subst d2; clear hs; simp only [fillG, List.set_cons_zero, List.set_cons_succ]; refine want_n rfl ?_; go_wp2_with (first | fail); simp only [DoneG, fillG, List.set_cons_zero, List.set_cons_succ, relG, eqG, eqG1, eqG2, eqG3, gdG, gdG1, gnG, gnG1, List.getD_cons_zero, List.getD_cons_succ, List.getElem?_cons_succ, List.getElem?_cons_zero, Option.map_some, Option.getD_some, valsG, List.map_cons, List.map_nil, List.length_cons, List.length_nil]; exact ⟨_, rfl, (by first | with_reducible assumption | exact krg _ | exact Keep.al (krg _) _), fun _ _ => rfl⟩)
                · (have d3 := hd; clear hd; subst d3; clear hs; simp only [fillG, List.set_cons_zero, List.set_cons_succ]; have c3 := hW.cell (show ¬ w3.heap.size = w.heap.size + 1 by omega) (Keep.cell (Keep.dr (Keep.rf _)) C3.out); refine want_n rfl ?_; go_wp2_with (first | fail); simp only [DoneG, fillG, List.set_cons_zero, List.set_cons_succ, relG, eqG, eqG1, eqG2, eqG3, gdG, gdG1, gnG, gnG1, List.getD_cons_zero, List.getD_cons_succ, List.getElem?_cons_succ, List.getElem?_cons_zero, Option.map_some, Option.getD_some, valsG, List.map_cons, List.map_nil, List.length_cons, List.length_nil]; exact ⟨_, rfl, (by first | with_reducible assumption | exact krg _ | exact Keep.al (krg _) _), fun _ _ => rfl⟩)
                · (have d0 := hd; clear hd; subst d0; clear hs; simp only [fillG, List.set_cons_zero, List.set_cons_succ]; have hKW := Keep.tr (Keep.dr (Keep.rf _)) (hE rfl); have c3 := hW.cell (show ¬ w3.heap.size = w.heap.size + 1 by omega) (Keep.cell (Keep.dr (Keep.rf _)) C3.out); refine want_n rfl ?_; have hg9 := (hKW.frm fun _ => False).heap (fun h => h) HRRx.out; have f0 := top_free hg9 0; have f1 := top_free hg9 1; have f2 := top_free hg9 2; have c0 := top_cells hg9 0; have c1 := top_cells hg9 1; have c2 := top_cells hg9 2; simp only [List.getElem?_toArray, List.getElem?_cons_succ, List.getElem?_cons_zero] at c0 c1 c2; have hrel9 := frm_set3 W (w.heap.size + 1) (.bool false) (.int .i64 0) (.slice none 0 0); go_wp2_with fail; simp only [DoneG, fillG, List.set_cons_zero, List.set_cons_succ, relG, eqG, eqG1, eqG2, eqG3, gdG, gdG1, gnG, gnG1, List.getD_cons_zero, List.getD_cons_succ, List.getElem?_cons_succ, List.getElem?_cons_zero, Option.map_some, Option.getD_some, valsG, List.map_cons, List.map_nil, List.length_cons, List.length_nil]; exact ⟨undef, trivial, (by first | with_reducible assumption | exact trivial), fun W9 hk9 => ((hk9.frm fun _ => False).heap (fun h => h) (heap_set3 ((hKW.frm fun _ => False).heap (fun h => h) HRRx.out) _ _ _))⟩)
                · (have d4 := hd; clear hd; subst d4; clear hs; simp only [fillG, List.set_cons_zero, List.set_cons_succ]; refine want_n rfl ?_; go_wp2_with (first | fail); simp only [DoneG, fillG, List.set_cons_zero, List.set_cons_succ, relG, eqG, eqG1, eqG2, eqG3, gdG, gdG1, gnG, gnG1, List.getD_cons_zero, List.getD_cons_succ, List.getElem?_cons_succ, List.getElem?_cons_zero, Option.map_some, Option.getD_some, valsG, List.map_cons, List.map_nil, List.length_cons, List.length_nil]; exact ⟨_, rfl, (by first | with_reducible assumption | exact krg _ | exact Keep.al (krg _) _), fun _ _ => rfl⟩)
              (intro us W9 h9 hW hE hA; obtain ⟨u0, u1, u2, u3, u4, u5, u6, rfl⟩ := rog 7 h9 rfl; clear h9; simp only [AllG, AtG, and_true, relG, eqG, eqG1, eqG2, eqG3, gdG, gdG1, gnG, gnG1, List.getD_cons_zero, List.getD_cons_succ, List.getElem?_cons_succ, List.getElem?_cons_zero, Option.map_some, Option.getD_some, valsG, List.map_cons, List.map_nil, List.length_cons, List.length_nil] at hA; obtain ⟨d5, d6⟩ := hA; subst d6; simp only [fillG, List.set_cons_zero, List.set_cons_succ])
              go_wp2_with fail
              refine bodyPost_ret_by (results_cell2 rfl _ _ (w.heap.size + 1) 62 _ (0, 0) _ rfl d5 Tryz.underlying62 rfl ?_) rfl ?_
              · kernel_rfl
              · have F9 : Frm (· = w.heap.size + 1) Wx W9 := ((Keep.dr (Keep.rf _)).frm _).tr hW
                exact GrR.none (HX2.out) (Frm.keep KZx.out F9 fun i e => by have e : i = w.heap.size + 1 := e; omega)
          · have HX2 := hide (show Em.graphP b t = (⟨(false, 0), []⟩, cE) from HGE.out hlen cE hE0)
            have hcn : ¬ cE = 0 := by omega
            by_cases hbe : s1.b = []
            · have hzi : ¬ (0 : Int) < (s1.b.length : Int) := by rw [hbe]; simp
              clear hbe hE0
              go_wp2_with fail
              have HRRx := hide HRR0.out
              have HDx := hide HDA.out
              have KZx := hide KZ0.out
              generalize hWx : World.alloc W4 _ = Wx at *
              clear hWx
              have c3 := top_cells HDx.out.top 3
              simp only [List.getElem?_toArray, List.getElem?_cons_succ, List.getElem?_cons_zero] at c3
              have C3 := hide c3
              go_wp2_with fail
              clear c3
              apply region_all (by kernel_rfl) Keep (Frm (· = w.heap.size + 1)) krg ktg (Frm.rf _) (fun _ _ _ => Frm.tr) (fun _ _ h => Keep.frm h _) [some 40, some 41, some 42, some 43, some 44, none, some 5] [eqG _ , eqG _ , eqG _ , eqG _ , eqG _ , fun us W v => W.heap[w.heap.size + 1]? = some (.cells #[.bool false, .int .i64 0, .slice none 0 0] 62), eqG _ ] [⟨[], [], true, false, false⟩, ⟨[], [], false, false, false⟩, ⟨[1], [], false, false, false⟩, ⟨[2], [], false, false, false⟩, ⟨[3], [], false, false, false⟩, ⟨[0], [], true, true, true⟩, ⟨[4], [], false, false, false⟩] [5, 6] (by kernel_rfl) (by kernel_rfl) 
              · refine ⟨?_, ?_, ?_, ?_, ?_, ?_, ?_, trivial⟩ <;> (intro us W h9 hW hE hd hs K hK; obtain ⟨u0, u1, u2, u3, u4, u5, u6, rfl⟩ := rog 7 h9 rfl; clear h9; try simp only [DepG, AtG, and_true, relG, eqG, eqG1, eqG2, eqG3, gdG, gdG1, gnG, gnG1, List.getD_cons_zero, List.getD_cons_succ, List.getElem?_cons_succ, List.getElem?_cons_zero, Option.map_some, Option.getD_some, valsG, List.map_cons, List.map_nil, List.length_cons, List.length_nil] at hd)
                · ((try clear hd); clear hs; simp only [fillG, List.set_cons_zero, List.set_cons_succ]; refine want_n rfl ?_; go_wp2_with (first | fail); simp only [DoneG, fillG, List.set_cons_zero, List.set_cons_succ, relG, eqG, eqG1, eqG2, eqG3, gdG, gdG1, gnG, gnG1, List.getD_cons_zero, List.getD_cons_succ, List.getElem?_cons_succ, List.getElem?_cons_zero, Option.map_some, Option.getD_some, valsG, List.map_cons, List.map_nil, List.length_cons, List.length_nil]; exact ⟨_, rfl, (by first | with_reducible assumption | exact krg _ | exact Keep.al (krg _) _), fun _ _ => rfl⟩)
                · ((try clear hd); clear hs; simp only [fillG, List.set_cons_zero, List.set_cons_succ]; refine want_n rfl ?_; go_wp2_with (first | fail); simp only [DoneG, fillG, List.set_cons_zero, List.set_cons_succ, relG, eqG, eqG1, eqG2, eqG3, gdG, gdG1, gnG, gnG1, List.getD_cons_zero, List.getD_cons_succ, List.getElem?_cons_succ, List.getElem?_cons_zero, Option.map_some, Option.getD_some, valsG, List.map_cons, List.map_nil, List.length_cons, List.length_nil]; exact ⟨_, rfl, (by first | with_reducible assumption | exact krg _ | exact Keep.al (krg _) _), fun _ _ => rfl⟩)
                · (have d1 := hd; clear hd; subst d1; clear hs; simp only [fillG, List.set_cons_zero, List.set_cons_succ]; refine want_n rfl ?_; go_wp2_with (first | fail); simp only [DoneG, fillG, List.set_cons_zero, List.set_cons_succ, relG, eqG, eqG1, eqG2, eqG3, gdG, gdG1, gnG, gnG1, List.getD_cons_zero, List.getD_cons_succ, List.getElem?_cons_succ, List.getElem?_cons_zero, Option.map_some, Option.getD_some, valsG, List.map_cons, List.map_nil, List.length_cons, List.length_nil]; exact ⟨_, rfl, (by first | with_reducible assumption | exact krg _ | exact Keep.al (krg _) _), fun _ _ => rfl⟩)
                · (have d2 := hd; clear hd; subst d2; clear hs; simp only [fillG, List.set_cons_zero, List.set_cons_succ]; refine want_n rfl ?_; go_wp2_with (first | fail); simp only [DoneG, fillG, List.set_cons_zero, List.set_cons_succ, relG, eqG, eqG1, eqG2, eqG3, gdG, gdG1, gnG, gnG1, List.getD_cons_zero, List.getD_cons_succ, List.getElem?_cons_succ, List.getElem?_cons_zero, Option.map_some, Option.getD_some, valsG, List.map_cons, List.map_nil, List.length_cons, List.length_nil]; exact ⟨_, rfl, (by first | with_reducible assumption | exact krg _ | exact Keep.al (krg _) _), fun _ _ => rfl⟩)
                · (have d3 := hd; clear hd; subst d3; clear hs; simp only [fillG, List.set_cons_zero, List.set_cons_succ]; have c3 := hW.cell (show ¬ w3.heap.size = w.heap.size + 1 by omega) (Keep.cell (Keep.dr (Keep.rf _)) C3.out); refine want_n rfl ?_; go_wp2_with (first | fail); simp only [DoneG, fillG, List.set_cons_zero, List.set_cons_succ, relG, eqG, eqG1, eqG2, eqG3, gdG, gdG1, gnG, gnG1, List.getD_cons_zero, List.getD_cons_succ, List.getElem?_cons_succ, List.getElem?_cons_zero, Option.map_some, Option.getD_some, valsG, List.map_cons, List.map_nil, List.length_cons, List.length_nil]; exact ⟨_, rfl, (by first | with_reducible assumption | exact krg _ | exact Keep.al (krg _) _), fun _ _ => rfl⟩)
                · (have d0 := hd; clear hd; subst d0; clear hs; simp only [fillG, List.set_cons_zero, List.set_cons_succ]; have hKW := Keep.tr (Keep.dr (Keep.rf _)) (hE rfl); have c3 := hW.cell (show ¬ w3.heap.size = w.heap.size + 1 by omega) (Keep.cell (Keep.dr (Keep.rf _)) C3.out); refine want_n rfl ?_; have hg9 := (hKW.frm fun _ => False).heap (fun h => h) HRRx.out; have f0 := top_free hg9 0; have f1 := top_free hg9 1; have f2 := top_free hg9 2; have c0 := top_cells hg9 0; have c1 := top_cells hg9 1; have c2 := top_cells hg9 2; simp only [List.getElem?_toArray, List.getElem?_cons_succ, List.getElem?_cons_zero] at c0 c1 c2; have hrel9 := frm_set3 W (w.heap.size + 1) (.bool false) (.int .i64 0) (.slice none 0 0); go_wp2_with fail; simp only [DoneG, fillG, List.set_cons_zero, List.set_cons_succ, relG, eqG, eqG1, eqG2, eqG3, gdG, gdG1, gnG, gnG1, List.getD_cons_zero, List.getD_cons_succ, List.getElem?_cons_succ, List.getElem?_cons_zero, Option.map_some, Option.getD_some, valsG, List.map_cons, List.map_nil, List.length_cons, List.length_nil]; exact ⟨undef, trivial, (by first | with_reducible assumption | exact trivial), fun W9 hk9 => ((hk9.frm fun _ => False).heap (fun h => h) (heap_set3 ((hKW.frm fun _ => False).heap (fun h => h) HRRx.out) _ _ _))⟩)
                · (have d4 := hd; clear hd; subst d4; clear hs; simp only [fillG, List.set_cons_zero, List.set_cons_succ]; refine want_n rfl ?_; go_wp2_with (first | fail); simp only [DoneG, fillG, List.set_cons_zero, List.set_cons_succ, relG, eqG, eqG1, eqG2, eqG3, gdG, gdG1, gnG, gnG1, List.getD_cons_zero, List.getD_cons_succ, List.getElem?_cons_succ, List.getElem?_cons_zero, Option.map_some, Option.getD_some, valsG, List.map_cons, List.map_nil, List.length_cons, List.length_nil]; exact ⟨_, rfl, (by first | with_reducible assumption | exact krg _ | exact Keep.al (krg _) _), fun _ _ => rfl⟩)
              (intro us W9 h9 hW hE hA; obtain ⟨u0, u1, u2, u3, u4, u5, u6, rfl⟩ := rog 7 h9 rfl; clear h9; simp only [AllG, AtG, and_true, relG, eqG, eqG1, eqG2, eqG3, gdG, gdG1, gnG, gnG1, List.getD_cons_zero, List.getD_cons_succ, List.getElem?_cons_succ, List.getElem?_cons_zero, Option.map_some, Option.getD_some, valsG, List.map_cons, List.map_nil, List.length_cons, List.length_nil] at hA; obtain ⟨d5, d6⟩ := hA; subst d6; simp only [fillG, List.set_cons_zero, List.set_cons_succ])
              go_wp2_with fail
              refine bodyPost_ret_by (results_cell2 rfl _ _ (w.heap.size + 1) 62 _ (0, 0) _ rfl d5 Tryz.underlying62 rfl ?_) rfl ?_
              · kernel_rfl
              · have F9 : Frm (· = w.heap.size + 1) Wx W9 := ((Keep.dr (Keep.rf _)).frm _).tr hW
                exact GrR.none (HX2.out) (Frm.keep KZx.out F9 fun i e => by have e : i = w.heap.size + 1 := e; omega)
            · have hzi : (0 : Int) < (s1.b.length : Int) := by
                have := List.length_pos_iff.2 hbe
                omega
              clear hbe hE0
              go_wp2_with fail
              refine HFAIL.out.mono ?_
              rintro e W5 ⟨rfl, hd5, hw5⟩
              rw [failE_ne _ hcn] at hd5
              have HRRx := hide (hw5.heap HNR4.out HRR0.out)
              have HDx := hide hd5
              have KZx := hide (hw5.low HDA.out)
              generalize hWx : W5 = Wx at *
              clear hWx hd5 hw5
              have c3 := top_cells HDx.out.top 3
              simp only [List.getElem?_toArray, List.getElem?_cons_succ, List.getElem?_cons_zero] at c3
              have C3 := hide c3
              go_wp2_with fail
              clear c3
              apply region_all (by kernel_rfl) Keep (Frm (· = w.heap.size + 1)) krg ktg (Frm.rf _) (fun _ _ _ => Frm.tr) (fun _ _ h => Keep.frm h _) [some 40, some 41, some 42, some 43, some 44, none, some 5] [eqG _ , eqG _ , eqG _ , eqG _ , eqG _ , fun us W v => W.heap[w.heap.size + 1]? = some (.cells #[.bool false, .int .i64 0, .slice none 0 0] 62), eqG _ ] [⟨[], [], true, false, false⟩, ⟨[], [], false, false, false⟩, ⟨[1], [], false, false, false⟩, ⟨[2], [], false, false, false⟩, ⟨[3], [], false, false, false⟩, ⟨[0], [], true, true, true⟩, ⟨[4], [], false, false, false⟩] [5, 6] (by kernel_rfl) (by kernel_rfl) 
              · refine ⟨?_, ?_, ?_, ?_, ?_, ?_, ?_, trivial⟩ <;> (intro us W h9 hW hE hd hs K hK; obtain ⟨u0, u1, u2, u3, u4, u5, u6, rfl⟩ := rog 7 h9 rfl; clear h9; try simp only [DepG, AtG, and_true, relG, eqG, eqG1, eqG2, eqG3, gdG, gdG1, gnG, gnG1, List.getD_cons_zero, List.getD_cons_succ, List.getElem?_cons_succ, List.getElem?_cons_zero, Option.map_some, Option.getD_some, valsG, List.map_cons, List.map_nil, List.length_cons, List.length_nil] at hd)
                · ((try clear hd); clear hs; simp only [fillG, List.set_cons_zero, List.set_cons_succ]; refine want_n rfl ?_; go_wp2_with (first | fail); simp only [DoneG, fillG, List.set_cons_zero, List.set_cons_succ, relG, eqG, eqG1, eqG2, eqG3, gdG, gdG1, gnG, gnG1, List.getD_cons_zero, List.getD_cons_succ, List.getElem?_cons_succ, List.getElem?_cons_zero, Option.map_some, Option.getD_some, valsG, List.map_cons, List.map_nil, List.length_cons, List.length_nil]; exact ⟨_, rfl, (by first | with_reducible assumption | exact krg _ | exact Keep.al (krg _) _), fun _ _ => rfl⟩)
                · ((try clear hd); clear hs; simp only [fillG, List.set_cons_zero, List.set_cons_succ]; refine want_n rfl ?_; go_wp2_with (first | fail); simp only [DoneG, fillG, List.set_cons_zero, List.set_cons_succ, relG, eqG, eqG1, eqG2, eqG3, gdG, gdG1, gnG, gnG1, List.getD_cons_zero, List.getD_cons_succ, List.getElem?_cons_succ, List.getElem?_cons_zero, Option.map_some, Option.getD_some, valsG, List.map_cons, List.map_nil, List.length_cons, List.length_nil]; exact ⟨_, rfl, (by first | with_reducible assumption | exact krg _ | exact Keep.al (krg _) _), fun _ _ => rfl⟩)
                · (have d1 := hd; clear hd; subst d1; clear hs; simp only [fillG, List.set_cons_zero, List.set_cons_succ]; refine want_n rfl ?_; go_wp2_with (first | fail); simp only [DoneG, fillG, List.set_cons_zero, List.set_cons_succ, relG, eqG, eqG1, eqG2, eqG3, gdG, gdG1, gnG, gnG1, List.getD_cons_zero, List.getD_cons_succ, List.getElem?_cons_succ, List.getElem?_cons_zero, Option.map_some, Option.getD_some, valsG, List.map_cons, List.map_nil, List.length_cons, List.length_nil]; exact ⟨_, rfl, (by first | with_reducible assumption | exact krg _ | exact Keep.al (krg _) _), fun _ _ => rfl⟩)
                · (have d2 := hd; clear hd; subst d2; clear hs; simp only [fillG, List.set_cons_zero, List.set_cons_succ]; refine want_n rfl ?_; go_wp2_with (first | fail); simp only [DoneG, fillG, List.set_cons_zero, List.set_cons_succ, relG, eqG, eqG1, eqG2, eqG3, gdG, gdG1, gnG, gnG1, List.getD_cons_zero, List.getD_cons_succ, List.getElem?_cons_succ, List.getElem?_cons_zero, Option.map_some, Option.getD_some, valsG, List.map_cons, List.map_nil, List.length_cons, List.length_nil]; exact ⟨_, rfl, (by first | with_reducible assumption | exact krg _ | exact Keep.al (krg _) _), fun _ _ => rfl⟩)
                · (have d3 := hd; clear hd; subst d3; clear hs; simp only [fillG, List.set_cons_zero, List.set_cons_succ]; have c3 := hW.cell (show ¬ w3.heap.size = w.heap.size + 1 by omega) (Keep.cell (Keep.dr (Keep.rf _)) C3.out); refine want_n rfl ?_; go_wp2_with (first | fail); simp only [DoneG, fillG, List.set_cons_zero, List.set_cons_succ, relG, eqG, eqG1, eqG2, eqG3, gdG, gdG1, gnG, gnG1, List.getD_cons_zero, List.getD_cons_succ, List.getElem?_cons_succ, List.getElem?_cons_zero, Option.map_some, Option.getD_some, valsG, List.map_cons, List.map_nil, List.length_cons, List.length_nil]; exact ⟨_, rfl, (by first | with_reducible assumption | exact krg _ | exact Keep.al (krg _) _), fun _ _ => rfl⟩)
                · (have d0 := hd; clear hd; subst d0; clear hs; simp only [fillG, List.set_cons_zero, List.set_cons_succ]; have hKW := Keep.tr (Keep.dr (Keep.rf _)) (hE rfl); have c3 := hW.cell (show ¬ w3.heap.size = w.heap.size + 1 by omega) (Keep.cell (Keep.dr (Keep.rf _)) C3.out); refine want_n rfl ?_; have hg9 := (hKW.frm fun _ => False).heap (fun h => h) HRRx.out; have f0 := top_free hg9 0; have f1 := top_free hg9 1; have f2 := top_free hg9 2; have c0 := top_cells hg9 0; have c1 := top_cells hg9 1; have c2 := top_cells hg9 2; simp only [List.getElem?_toArray, List.getElem?_cons_succ, List.getElem?_cons_zero] at c0 c1 c2; have hrel9 := frm_set3 W (w.heap.size + 1) (.bool false) (.int .i64 0) (.slice none 0 0); go_wp2_with fail; simp only [DoneG, fillG, List.set_cons_zero, List.set_cons_succ, relG, eqG, eqG1, eqG2, eqG3, gdG, gdG1, gnG, gnG1, List.getD_cons_zero, List.getD_cons_succ, List.getElem?_cons_succ, List.getElem?_cons_zero, Option.map_some, Option.getD_some, valsG, List.map_cons, List.map_nil, List.length_cons, List.length_nil]; exact ⟨undef, trivial, (by first | with_reducible assumption | exact trivial), fun W9 hk9 => ((hk9.frm fun _ => False).heap (fun h => h) (heap_set3 ((hKW.frm fun _ => False).heap (fun h => h) HRRx.out) _ _ _))⟩)
                · (have d4 := hd; clear hd; subst d4; clear hs; simp only [fillG, List.set_cons_zero, List.set_cons_succ]; refine want_n rfl ?_; go_wp2_with (first | fail); simp only [DoneG, fillG, List.set_cons_zero, List.set_cons_succ, relG, eqG, eqG1, eqG2, eqG3, gdG, gdG1, gnG, gnG1, List.getD_cons_zero, List.getD_cons_succ, List.getElem?_cons_succ, List.getElem?_cons_zero, Option.map_some, Option.getD_some, valsG, List.map_cons, List.map_nil, List.length_cons, List.length_nil]; exact ⟨_, rfl, (by first | with_reducible assumption | exact krg _ | exact Keep.al (krg _) _), fun _ _ => rfl⟩)
              (intro us W9 h9 hW hE hA; obtain ⟨u0, u1, u2, u3, u4, u5, u6, rfl⟩ := rog 7 h9 rfl; clear h9; simp only [AllG, AtG, and_true, relG, eqG, eqG1, eqG2, eqG3, gdG, gdG1, gnG, gnG1, List.getD_cons_zero, List.getD_cons_succ, List.getElem?_cons_succ, List.getElem?_cons_zero, Option.map_some, Option.getD_some, valsG, List.map_cons, List.map_nil, List.length_cons, List.length_nil] at hA; obtain ⟨d5, d6⟩ := hA; subst d6; simp only [fillG, List.set_cons_zero, List.set_cons_succ])
              go_wp2_with fail
              refine bodyPost_ret_by (results_cell2 rfl _ _ (w.heap.size + 1) 62 _ (0, 0) _ rfl d5 Tryz.underlying62 rfl ?_) rfl ?_
              · kernel_rfl
              · have F9 : Frm (· = w.heap.size + 1) Wx W9 := ((Keep.dr (Keep.rf _)).frm _).tr hW
                exact GrR.none (HX2.out) (Frm.keep KZx.out F9 fun i e => by have e : i = w.heap.size + 1 := e; omega)
end Go.Proofs.YtoehaijmkmdggaaGreat
