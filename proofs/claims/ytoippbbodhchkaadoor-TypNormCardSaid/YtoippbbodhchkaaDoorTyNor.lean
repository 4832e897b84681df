/- The law TypNorm: walk. -/
import Derived.Test.YtoippbbodhchkaaDoorTyNrm
namespace Go.Proofs.YtoippbbodhchkaaDoor
open Go.RowKit
open Em (Ty)
set_option linter.unusedVariables false
set_option linter.unusedSimpArgs false
set_option maxRecDepth 100000
set_option maxHeartbeats 16000000 in
theorem TypNorm_walk (w : World) (v : Value) (t : Ty) (h : TyV w v t) (_ : True) (ht : Tens w) : Calls Tryd.prog 4 #[v] w fun e w' => e = .returned (.bool true) ∧ Keep w w' := by
  obtain ⟨d, cs, rfl, h⟩ := h
  cases d with
  | zero => exact h.elim
  | succ d =>
    have HT := hide h
    have HTN := hide ht
    clear ht
    obtain ⟨kv, rfl, kn, kA, kc, rfl, _⟩ := h
    have kb : Keep w (w.alloc (.cells #[.string (str t.op), .int .i64 t.n, .slice kA t.kids.length kc] 24)) := (by repeat (first | exact Keep.rf _ | assumption | apply Keep.al | apply Keep.dr | apply Keep.dn))
    have hb := heap_alloc_new w (.cells #[.string (str t.op), .int .i64 t.n, .slice kA t.kids.length kc] 24)
    have b0 := top_cells hb 0
    have b1 := top_cells hb 1
    have b2 := top_cells hb 2
    simp only [List.getElem?_toArray, List.getElem?_cons_succ, List.getElem?_cons_zero] at b0 b1 b2
    clear hb
    go_enter Tryd.func4, Tryd.ntmps4
    go_wp2_with fail
    generalize World.alloc w _ = W1 at *
    refine (lawLong8 (d + 1) t W1 _ (HT.out.keep kb)).mono ?_
    rintro e w2 ⟨rfl, k2⟩
    replace b0 := Keep.cell k2 b0
    replace b1 := Keep.cell k2 b1
    replace b2 := Keep.cell k2 b2
    have k02 := Keep.tr kb k2
    clear kb k2
    by_cases hl : 300 < Em.sz 301 t
    · rw [decide_eq_true hl]
      go_wp2_with fail
      go_ret
      exact ⟨rfl, k02⟩
    rw [decide_eq_false hl]
    have hnd : nodes t ≤ 300 := by have := sz_nodes 301 t (by omega); omega
    clear hl
    go_wp2_with fail
    refine (refIsT t w2 _ ⟨d + 1, _, rfl, HT.out.keep k02⟩).mono ?_
    rintro e w3 ⟨rfl, k3⟩
    replace b0 := Keep.cell k3 b0
    replace b1 := Keep.cell k3 b1
    replace b2 := Keep.cell k3 b2
    have k03 := Keep.tr k02 k3
    clear k02 k3
    cases hi : Em.isT t with
    | false =>
      go_wp2_with fail
      go_ret
      exact ⟨rfl, k03⟩
    | true =>
      have hok : Em.okT t = true := by
        unfold Em.isT at hi
        rw [Bool.and_eq_true] at hi
        exact hi.2
      have HVN := hide (vars_norm hok)
      have HNN := hide (norm_norm hok)
      have hnn : nodes (Em.normT t) ≤ 300 := Nat.le_trans (ren_nodes _ t) hnd
      have hvs := vars_small hnd
      have hvs2 := vars_small hnn
      clear hi hok
      go_wp2_with fail
      refine (typNorm (d + 1) t w3 _ (HT.out.keep k03) (by omega)).mono ?_
      rintro e w4 ⟨o4, n4, A4, m4, c4, rfl, f4, k4⟩
      have kal := Keep.al k4 (.cells #[.string o4, .int .i64 n4, .slice A4 m4 c4] 24)
      have hx := heap_alloc_new w4 (.cells #[.string o4, .int .i64 n4, .slice A4 m4 c4] 24)
      have e0 := top_cells hx 0
      have e1 := top_cells hx 1
      have e2 := top_cells hx 2
      simp only [List.getElem?_toArray, List.getElem?_cons_succ, List.getElem?_cons_zero] at e0 e1 e2
      have HN := hide (f4.ty.keep (Keep.al (Keep.rf w4) (.cells #[.string o4, .int .i64 n4, .slice A4 m4 c4] 24)))
      replace b0 := Keep.cell kal b0
      replace b1 := Keep.cell kal b1
      replace b2 := Keep.cell kal b2
      have k05 := Keep.tr k03 kal
      clear hx k4 kal k03 f4
      go_wp2_with fail
      generalize w4.heap.size = q4 at *
      generalize World.alloc w4 _ = w5 at *
      refine (typVars (Em.normT t) w5 _ ⟨_, _, rfl, HN.out⟩ hvs2).mono ?_
      rintro e w6 ⟨v6, rfl, g6⟩
      rw [HVN.out] at g6
      obtain ⟨A6, c6, rfl, i6⟩ := g6.isAt
      have k6 := g6.2
      rw [iota_len] at i6
      replace b0 := Keep.cell k6 b0
      replace b1 := Keep.cell k6 b1
      replace b2 := Keep.cell k6 b2
      replace e0 := Keep.cell k6 e0
      replace e1 := Keep.cell k6 e1
      replace e2 := Keep.cell k6 e2
      have k06 := Keep.tr k05 k6
      have HN6 := hide (HN.out.keep k6)
      clear g6 k6 k05 HN hvs2
      generalize hK : (Em.varsT [] t).length = K at *
      have HKK := hide hK
      clear hK
      rw [iota_len]
      go_wp2_with fail
      obtain ⟨Ai, ci, ei, hi1, hi2, hi3⟩ := i6
      simp only [List.length_map, iota_len] at ei hi1 hi3
      cases ei
      go_loopw [5] (fun i W => ∃ k : Nat, k ≤ K ∧ i = .int .i64 (k : Int) ∧ Keep w6 W) (fun i _ => K - (intOf i).toNat)
      case atStart => exact ⟨0, Nat.zero_le _, rfl, (by repeat (first | exact Keep.rf _ | assumption | apply Keep.al | apply Keep.dr | apply Keep.dn))⟩
      case round =>
        obtain ⟨k, hk, rfl, kw⟩ := hrel
        by_cases hlt : k < K
        · have hlti : (k : Int) < (K : Int) := by omega
          obtain ⟨ad, rfl, hcell⟩ := hi3 (by omega)
          have c0 := Keep.cell kw (hcell k hlt)
          have hc : ((iota K).map (Value.int .i64))[k]'(by simpa [iota_len] using hlt) = .int .i64 (k : Int) := by simp [iota]
          rw [hc] at c0
          have HR := hide hi3
          clear hcell hi3 hc
          go_wp2_with fail
          go_roundw
          case rel => exact ⟨k + 1, by omega, by go_num, kw⟩
          case measure => simp [intOf]; omega
        · have hlti : ¬ (k : Int) < (K : Int) := by omega
          have HR := hide hi3
          clear hi3
          replace b0 := Keep.cell kw b0
          replace b1 := Keep.cell kw b1
          replace b2 := Keep.cell kw b2
          replace e0 := Keep.cell kw e0
          replace e1 := Keep.cell kw e1
          replace e2 := Keep.cell kw e2
          have k07 := Keep.tr k06 kw
          have HN7 := hide (HN6.out.keep kw)
          clear kw k06 HN6
          go_wp2_with fail
          apply region_all (by kernel_rfl) Keep Keep krg ktg krg ktg (fun _ _ h => h) [some 29, some 30, some 31, some 32, some 33, some 34, some 35, some 36, some 37, some 38, some 39, some 40, some 41, some 42, some 43, some 2] [eqG _ , fun us W v => TyAt (Em.normT t) W v, eqG _ , fun us _ v => v = .bool true, eqG _ , eqG _ , eqG _ , eqG _ , fun us W v => ∃ A c, v = .slice A K c, fun us _ v => v = .int .i64 (K : Int), fun us _ v => v = .bool true, fun us _ v => v = .bool true, eqG _ , fun us _ v => v = .bool true, fun us _ v => v = .bool true, eqG _ ] [⟨[], [], true, false, false⟩, ⟨[0], [], true, false, false⟩, ⟨[], [], true, false, false⟩, ⟨[1, 2], [], true, false, false⟩, ⟨[3], [], true, false, false⟩, ⟨[4], [], true, false, false⟩, ⟨[4, 5], [], true, false, false⟩, ⟨[4], [], true, false, false⟩, ⟨[4, 7], [], true, false, false⟩, ⟨[4, 8], [], true, false, false⟩, ⟨[4, 6, 9], [], true, false, false⟩, ⟨[4, 10], [], true, false, false⟩, ⟨[11], [], true, false, false⟩, ⟨[12], [], true, false, false⟩, ⟨[12, 13], [], true, false, false⟩, ⟨[14], [], true, false, false⟩] [1, 8, 15] (by kernel_rfl) (by kernel_rfl) 
          · refine ⟨?_, ?_, ?_, ?_, ?_, ?_, ?_, ?_, ?_, ?_, ?_, ?_, ?_, ?_, ?_, ?_, trivial⟩
            · (intro us W h9 hW hE hd hs K hK; obtain ⟨u0, u1, u2, u3, u4, u5, u6, u7, u8, u9, u10, u11, u12, u13, u14, u15, rfl⟩ := rog 16 h9 rfl; clear h9; clear hd; clear hs; simp only [fillG, List.set_cons_zero, List.set_cons_succ]; have hKW := Keep.tr (Keep.dr (Keep.rf _)) (hE rfl); have b0 := Keep.cell hKW b0; have b1 := Keep.cell hKW b1; have b2 := Keep.cell hKW b2; have e0 := Keep.cell hKW e0; have e1 := Keep.cell hKW e1; have e2 := Keep.cell hKW e2; refine want_n rfl ?_; go_wp2_with (first | fail); simp only [DoneG, fillG, List.set_cons_zero, List.set_cons_succ, relG, eqG, eqG1, eqG2, eqG3, gdG, gdG1, gnG, gnG1, List.getD_cons_zero, List.getD_cons_succ, List.getElem?_cons_succ, List.getElem?_cons_zero, Option.map_some, Option.getD_some, valsG, List.map_cons, List.map_nil, List.length_cons, List.length_nil]; exact ⟨_, rfl, (by first | with_reducible assumption | exact krg _ | exact Keep.al (krg _) _), fun _ _ => rfl⟩)
            · (intro us W h9 hW hE hd hs K hK; obtain ⟨u0, u1, u2, u3, u4, u5, u6, u7, u8, u9, u10, u11, u12, u13, u14, u15, rfl⟩ := rog 16 h9 rfl; clear h9; simp only [DepG, AtG, and_true, relG, eqG, eqG1, eqG2, eqG3, gdG, gdG1, gnG, gnG1, List.getD_cons_zero, List.getD_cons_succ, List.getElem?_cons_succ, List.getElem?_cons_zero, Option.map_some, Option.getD_some, valsG, List.map_cons, List.map_nil, List.length_cons, List.length_nil] at hd; have d0 := hd; clear hd; subst d0; clear hs; simp only [fillG, List.set_cons_zero, List.set_cons_succ]; have hKW := Keep.tr (Keep.dr (Keep.rf _)) (hE rfl); have b0 := Keep.cell hKW b0; have b1 := Keep.cell hKW b1; have b2 := Keep.cell hKW b2; have e0 := Keep.cell hKW e0; have e1 := Keep.cell hKW e1; have e2 := Keep.cell hKW e2; refine want_n rfl ?_; go_wp2_with (first | (go_at_call 20; refine (typNorm (d + 1) (Em.normT t) _ _ (HN7.out.keep hKW) (by omega)).mono ?_; rintro e w9 ⟨o9, n9, A9, m9, c9, rfl, f9, hk9⟩; rw [HNN.out] at f9) | fail); simp only [DoneG, fillG, List.set_cons_zero, List.set_cons_succ, relG, eqG, eqG1, eqG2, eqG3, gdG, gdG1, gnG, gnG1, List.getD_cons_zero, List.getD_cons_succ, List.getElem?_cons_succ, List.getElem?_cons_zero, Option.map_some, Option.getD_some, valsG, List.map_cons, List.map_nil, List.length_cons, List.length_nil]; exact ⟨_, rfl, (by first | with_reducible assumption | exact krg _ | exact Keep.al (krg _) _), fun W9 hk9 => ⟨o9, n9, A9, m9, c9, rfl, TyV.keep ⟨_, _, rfl, f9.ty⟩ hk9⟩⟩)
            · (intro us W h9 hW hE hd hs K hK; obtain ⟨u0, u1, u2, u3, u4, u5, u6, u7, u8, u9, u10, u11, u12, u13, u14, u15, rfl⟩ := rog 16 h9 rfl; clear h9; clear hd; clear hs; simp only [fillG, List.set_cons_zero, List.set_cons_succ]; have hKW := Keep.tr (Keep.dr (Keep.rf _)) (hE rfl); have b0 := Keep.cell hKW b0; have b1 := Keep.cell hKW b1; have b2 := Keep.cell hKW b2; have e0 := Keep.cell hKW e0; have e1 := Keep.cell hKW e1; have e2 := Keep.cell hKW e2; refine want_n rfl ?_; go_wp2_with (first | fail); simp only [DoneG, fillG, List.set_cons_zero, List.set_cons_succ, relG, eqG, eqG1, eqG2, eqG3, gdG, gdG1, gnG, gnG1, List.getD_cons_zero, List.getD_cons_succ, List.getElem?_cons_succ, List.getElem?_cons_zero, Option.map_some, Option.getD_some, valsG, List.map_cons, List.map_nil, List.length_cons, List.length_nil]; exact ⟨_, rfl, (by first | with_reducible assumption | exact krg _ | exact Keep.al (krg _) _), fun _ _ => rfl⟩)
            · (intro us W h9 hW hE hd hs K hK; obtain ⟨u0, u1, u2, u3, u4, u5, u6, u7, u8, u9, u10, u11, u12, u13, u14, u15, rfl⟩ := rog 16 h9 rfl; clear h9; simp only [DepG, AtG, and_true, relG, eqG, eqG1, eqG2, eqG3, gdG, gdG1, gnG, gnG1, List.getD_cons_zero, List.getD_cons_succ, List.getElem?_cons_succ, List.getElem?_cons_zero, Option.map_some, Option.getD_some, valsG, List.map_cons, List.map_nil, List.length_cons, List.length_nil] at hd; obtain ⟨d1, d2⟩ := hd; obtain ⟨o1, n1, A1, m1, c1, rfl, t1⟩ := d1; subst d2; clear hs; simp only [fillG, List.set_cons_zero, List.set_cons_succ]; have hKW := Keep.tr (Keep.dr (Keep.rf _)) (hE rfl); have b0 := Keep.cell hKW b0; have b1 := Keep.cell hKW b1; have b2 := Keep.cell hKW b2; have e0 := Keep.cell hKW e0; have e1 := Keep.cell hKW e1; have e2 := Keep.cell hKW e2; refine want_n rfl ?_; go_wp2_with (first | (go_at_call 19; refine (refSameT _ _ _ _ _ t1 ⟨_, _, rfl, HN7.out.keep hKW⟩).mono ?_; rintro e w9 ⟨rfl, hk9⟩; rw [Em.eqT_refl]) | fail); simp only [DoneG, fillG, List.set_cons_zero, List.set_cons_succ, relG, eqG, eqG1, eqG2, eqG3, gdG, gdG1, gnG, gnG1, List.getD_cons_zero, List.getD_cons_succ, List.getElem?_cons_succ, List.getElem?_cons_zero, Option.map_some, Option.getD_some, valsG, List.map_cons, List.map_nil, List.length_cons, List.length_nil]; exact ⟨_, rfl, (by first | with_reducible assumption | exact krg _ | exact Keep.al (krg _) _), fun _ _ => rfl⟩)
            · (intro us W h9 hW hE hd hs K hK; obtain ⟨u0, u1, u2, u3, u4, u5, u6, u7, u8, u9, u10, u11, u12, u13, u14, u15, rfl⟩ := rog 16 h9 rfl; clear h9; simp only [DepG, AtG, and_true, relG, eqG, eqG1, eqG2, eqG3, gdG, gdG1, gnG, gnG1, List.getD_cons_zero, List.getD_cons_succ, List.getElem?_cons_succ, List.getElem?_cons_zero, Option.map_some, Option.getD_some, valsG, List.map_cons, List.map_nil, List.length_cons, List.length_nil] at hd; have d3 := hd; clear hd; subst d3; clear hs; simp only [fillG, List.set_cons_zero, List.set_cons_succ]; refine want_n rfl ?_; go_wp2_with (first | fail); simp only [DoneG, fillG, List.set_cons_zero, List.set_cons_succ, relG, eqG, eqG1, eqG2, eqG3, gdG, gdG1, gnG, gnG1, List.getD_cons_zero, List.getD_cons_succ, List.getElem?_cons_succ, List.getElem?_cons_zero, Option.map_some, Option.getD_some, valsG, List.map_cons, List.map_nil, List.length_cons, List.length_nil]; exact ⟨_, rfl, (by first | with_reducible assumption | exact krg _ | exact Keep.al (krg _) _), fun _ _ => rfl⟩)
            · (intro us W h9 hW hE hd hs K hK; obtain ⟨u0, u1, u2, u3, u4, u5, u6, u7, u8, u9, u10, u11, u12, u13, u14, u15, rfl⟩ := rog 16 h9 rfl; clear h9; simp only [DepG, AtG, and_true, relG, eqG, eqG1, eqG2, eqG3, gdG, gdG1, gnG, gnG1, List.getD_cons_zero, List.getD_cons_succ, List.getElem?_cons_succ, List.getElem?_cons_zero, Option.map_some, Option.getD_some, valsG, List.map_cons, List.map_nil, List.length_cons, List.length_nil] at hd; have d4 := hd; clear hd; subst d4; clear hs; simp only [fillG, List.set_cons_zero, List.set_cons_succ]; refine want_y rfl ?_; go_wp2_with (first | fail); simp only [DoneG, fillG, List.set_cons_zero, List.set_cons_succ, relG, eqG, eqG1, eqG2, eqG3, gdG, gdG1, gnG, gnG1, List.getD_cons_zero, List.getD_cons_succ, List.getElem?_cons_succ, List.getElem?_cons_zero, Option.map_some, Option.getD_some, valsG, List.map_cons, List.map_nil, List.length_cons, List.length_nil]; exact ⟨_, rfl, (by first | with_reducible assumption | exact krg _ | exact Keep.al (krg _) _), fun _ _ => rfl⟩)
            · (intro us W h9 hW hE hd hs K hK; obtain ⟨u0, u1, u2, u3, u4, u5, u6, u7, u8, u9, u10, u11, u12, u13, u14, u15, rfl⟩ := rog 16 h9 rfl; clear h9; simp only [DepG, AtG, and_true, relG, eqG, eqG1, eqG2, eqG3, gdG, gdG1, gnG, gnG1, List.getD_cons_zero, List.getD_cons_succ, List.getElem?_cons_succ, List.getElem?_cons_zero, Option.map_some, Option.getD_some, valsG, List.map_cons, List.map_nil, List.length_cons, List.length_nil] at hd; obtain ⟨d4, d5⟩ := hd; subst d4; subst d5; clear hs; simp only [fillG, List.set_cons_zero, List.set_cons_succ]; have hKW := Keep.tr (Keep.dr (Keep.rf _)) (hE rfl); have b0 := Keep.cell hKW b0; have b1 := Keep.cell hKW b1; have b2 := Keep.cell hKW b2; have e0 := Keep.cell hKW e0; have e1 := Keep.cell hKW e1; have e2 := Keep.cell hKW e2; refine want_y rfl ?_; go_wp2_with (first | fail); simp only [DoneG, fillG, List.set_cons_zero, List.set_cons_succ, relG, eqG, eqG1, eqG2, eqG3, gdG, gdG1, gnG, gnG1, List.getD_cons_zero, List.getD_cons_succ, List.getElem?_cons_succ, List.getElem?_cons_zero, Option.map_some, Option.getD_some, valsG, List.map_cons, List.map_nil, List.length_cons, List.length_nil]; exact ⟨_, rfl, (by first | with_reducible assumption | exact krg _ | exact Keep.al (krg _) _), fun _ _ => rfl⟩)
            · (intro us W h9 hW hE hd hs K hK; obtain ⟨u0, u1, u2, u3, u4, u5, u6, u7, u8, u9, u10, u11, u12, u13, u14, u15, rfl⟩ := rog 16 h9 rfl; clear h9; simp only [DepG, AtG, and_true, relG, eqG, eqG1, eqG2, eqG3, gdG, gdG1, gnG, gnG1, List.getD_cons_zero, List.getD_cons_succ, List.getElem?_cons_succ, List.getElem?_cons_zero, Option.map_some, Option.getD_some, valsG, List.map_cons, List.map_nil, List.length_cons, List.length_nil] at hd; have d4 := hd; clear hd; subst d4; clear hs; simp only [fillG, List.set_cons_zero, List.set_cons_succ]; have hKW := Keep.tr (Keep.dr (Keep.rf _)) (hE rfl); have b0 := Keep.cell hKW b0; have b1 := Keep.cell hKW b1; have b2 := Keep.cell hKW b2; have e0 := Keep.cell hKW e0; have e1 := Keep.cell hKW e1; have e2 := Keep.cell hKW e2; refine want_y rfl ?_; go_wp2_with (first | fail); simp only [DoneG, fillG, List.set_cons_zero, List.set_cons_succ, relG, eqG, eqG1, eqG2, eqG3, gdG, gdG1, gnG, gnG1, List.getD_cons_zero, List.getD_cons_succ, List.getElem?_cons_succ, List.getElem?_cons_zero, Option.map_some, Option.getD_some, valsG, List.map_cons, List.map_nil, List.length_cons, List.length_nil]; exact ⟨_, rfl, (by first | with_reducible assumption | exact krg _ | exact Keep.al (krg _) _), fun _ _ => rfl⟩)
            · (intro us W h9 hW hE hd hs K hK; obtain ⟨u0, u1, u2, u3, u4, u5, u6, u7, u8, u9, u10, u11, u12, u13, u14, u15, rfl⟩ := rog 16 h9 rfl; clear h9; simp only [DepG, AtG, and_true, relG, eqG, eqG1, eqG2, eqG3, gdG, gdG1, gnG, gnG1, List.getD_cons_zero, List.getD_cons_succ, List.getElem?_cons_succ, List.getElem?_cons_zero, Option.map_some, Option.getD_some, valsG, List.map_cons, List.map_nil, List.length_cons, List.length_nil] at hd; obtain ⟨d4, d7⟩ := hd; subst d4; subst d7; clear hs; simp only [fillG, List.set_cons_zero, List.set_cons_succ]; have hKW := Keep.tr (Keep.dr (Keep.rf _)) (hE rfl); have b0 := Keep.cell hKW b0; have b1 := Keep.cell hKW b1; have b2 := Keep.cell hKW b2; have e0 := Keep.cell hKW e0; have e1 := Keep.cell hKW e1; have e2 := Keep.cell hKW e2; refine want_y rfl ?_; go_wp2_with (first | (go_at_call 17; refine (typVars t _ _ ⟨d + 1, _, rfl, HT.out.keep (Keep.tr k07 hKW)⟩ (by rw [HKK.out]; exact hvs)).mono ?_; rintro e w9 ⟨v9, rfl, g9⟩; have hk9 := g9.2; obtain ⟨A9, c9, rfl, i9⟩ := g9.isAt; rw [HKK.out]) | fail); simp only [DoneG, fillG, List.set_cons_zero, List.set_cons_succ, relG, eqG, eqG1, eqG2, eqG3, gdG, gdG1, gnG, gnG1, List.getD_cons_zero, List.getD_cons_succ, List.getElem?_cons_succ, List.getElem?_cons_zero, Option.map_some, Option.getD_some, valsG, List.map_cons, List.map_nil, List.length_cons, List.length_nil]; exact ⟨_, rfl, (by first | with_reducible assumption | exact krg _ | exact Keep.al (krg _) _), fun W9 hk9 => ⟨A9, c9, rfl⟩⟩)
            · (intro us W h9 hW hE hd hs K hK; obtain ⟨u0, u1, u2, u3, u4, u5, u6, u7, u8, u9, u10, u11, u12, u13, u14, u15, rfl⟩ := rog 16 h9 rfl; clear h9; simp only [DepG, AtG, and_true, relG, eqG, eqG1, eqG2, eqG3, gdG, gdG1, gnG, gnG1, List.getD_cons_zero, List.getD_cons_succ, List.getElem?_cons_succ, List.getElem?_cons_zero, Option.map_some, Option.getD_some, valsG, List.map_cons, List.map_nil, List.length_cons, List.length_nil] at hd; obtain ⟨d4, d8⟩ := hd; subst d4; obtain ⟨A8, c8, rfl⟩ := d8; clear hs; simp only [fillG, List.set_cons_zero, List.set_cons_succ]; have hKW := Keep.tr (Keep.dr (Keep.rf _)) (hE rfl); have b0 := Keep.cell hKW b0; have b1 := Keep.cell hKW b1; have b2 := Keep.cell hKW b2; have e0 := Keep.cell hKW e0; have e1 := Keep.cell hKW e1; have e2 := Keep.cell hKW e2; refine want_y rfl ?_; go_wp2_with (first | fail); simp only [DoneG, fillG, List.set_cons_zero, List.set_cons_succ, relG, eqG, eqG1, eqG2, eqG3, gdG, gdG1, gnG, gnG1, List.getD_cons_zero, List.getD_cons_succ, List.getElem?_cons_succ, List.getElem?_cons_zero, Option.map_some, Option.getD_some, valsG, List.map_cons, List.map_nil, List.length_cons, List.length_nil]; exact ⟨_, rfl, (by first | with_reducible assumption | exact krg _ | exact Keep.al (krg _) _), fun _ _ => rfl⟩)
            · (intro us W h9 hW hE hd hs K hK; obtain ⟨u0, u1, u2, u3, u4, u5, u6, u7, u8, u9, u10, u11, u12, u13, u14, u15, rfl⟩ := rog 16 h9 rfl; clear h9; simp only [DepG, AtG, and_true, relG, eqG, eqG1, eqG2, eqG3, gdG, gdG1, gnG, gnG1, List.getD_cons_zero, List.getD_cons_succ, List.getElem?_cons_succ, List.getElem?_cons_zero, Option.map_some, Option.getD_some, valsG, List.map_cons, List.map_nil, List.length_cons, List.length_nil] at hd; obtain ⟨d4, d6, d9⟩ := hd; subst d4; subst d6; subst d9; clear hs; simp only [fillG, List.set_cons_zero, List.set_cons_succ]; have hKW := Keep.tr (Keep.dr (Keep.rf _)) (hE rfl); have b0 := Keep.cell hKW b0; have b1 := Keep.cell hKW b1; have b2 := Keep.cell hKW b2; have e0 := Keep.cell hKW e0; have e1 := Keep.cell hKW e1; have e2 := Keep.cell hKW e2; refine want_y rfl ?_; go_wp2_with (first | fail); simp only [DoneG, fillG, List.set_cons_zero, List.set_cons_succ, relG, eqG, eqG1, eqG2, eqG3, gdG, gdG1, gnG, gnG1, List.getD_cons_zero, List.getD_cons_succ, List.getElem?_cons_succ, List.getElem?_cons_zero, Option.map_some, Option.getD_some, valsG, List.map_cons, List.map_nil, List.length_cons, List.length_nil]; exact ⟨_, rfl, (by first | with_reducible assumption | exact krg _ | exact Keep.al (krg _) _), fun _ _ => rfl⟩)
            · (intro us W h9 hW hE hd hs K hK; obtain ⟨u0, u1, u2, u3, u4, u5, u6, u7, u8, u9, u10, u11, u12, u13, u14, u15, rfl⟩ := rog 16 h9 rfl; clear h9; simp only [DepG, AtG, and_true, relG, eqG, eqG1, eqG2, eqG3, gdG, gdG1, gnG, gnG1, List.getD_cons_zero, List.getD_cons_succ, List.getElem?_cons_succ, List.getElem?_cons_zero, Option.map_some, Option.getD_some, valsG, List.map_cons, List.map_nil, List.length_cons, List.length_nil] at hd; obtain ⟨d4, d10⟩ := hd; subst d4; subst d10; clear hs; simp only [fillG, List.set_cons_zero, List.set_cons_succ]; have hKW := Keep.tr (Keep.dr (Keep.rf _)) (hE rfl); have b0 := Keep.cell hKW b0; have b1 := Keep.cell hKW b1; have b2 := Keep.cell hKW b2; have e0 := Keep.cell hKW e0; have e1 := Keep.cell hKW e1; have e2 := Keep.cell hKW e2; refine want_n rfl ?_; go_wp2_with (first | fail); simp only [DoneG, fillG, List.set_cons_zero, List.set_cons_succ, relG, eqG, eqG1, eqG2, eqG3, gdG, gdG1, gnG, gnG1, List.getD_cons_zero, List.getD_cons_succ, List.getElem?_cons_succ, List.getElem?_cons_zero, Option.map_some, Option.getD_some, valsG, List.map_cons, List.map_nil, List.length_cons, List.length_nil]; exact ⟨_, rfl, (by first | with_reducible assumption | exact krg _ | exact Keep.al (krg _) _), fun _ _ => rfl⟩)
            · (intro us W h9 hW hE hd hs K hK; obtain ⟨u0, u1, u2, u3, u4, u5, u6, u7, u8, u9, u10, u11, u12, u13, u14, u15, rfl⟩ := rog 16 h9 rfl; clear h9; simp only [DepG, AtG, and_true, relG, eqG, eqG1, eqG2, eqG3, gdG, gdG1, gnG, gnG1, List.getD_cons_zero, List.getD_cons_succ, List.getElem?_cons_succ, List.getElem?_cons_zero, Option.map_some, Option.getD_some, valsG, List.map_cons, List.map_nil, List.length_cons, List.length_nil] at hd; have d11 := hd; clear hd; subst d11; clear hs; simp only [fillG, List.set_cons_zero, List.set_cons_succ]; refine want_n rfl ?_; go_wp2_with (first | fail); simp only [DoneG, fillG, List.set_cons_zero, List.set_cons_succ, relG, eqG, eqG1, eqG2, eqG3, gdG, gdG1, gnG, gnG1, List.getD_cons_zero, List.getD_cons_succ, List.getElem?_cons_succ, List.getElem?_cons_zero, Option.map_some, Option.getD_some, valsG, List.map_cons, List.map_nil, List.length_cons, List.length_nil]; exact ⟨_, rfl, (by first | with_reducible assumption | exact krg _ | exact Keep.al (krg _) _), fun _ _ => rfl⟩)
            · (intro us W h9 hW hE hd hs K hK; obtain ⟨u0, u1, u2, u3, u4, u5, u6, u7, u8, u9, u10, u11, u12, u13, u14, u15, rfl⟩ := rog 16 h9 rfl; clear h9; simp only [DepG, AtG, and_true, relG, eqG, eqG1, eqG2, eqG3, gdG, gdG1, gnG, gnG1, List.getD_cons_zero, List.getD_cons_succ, List.getElem?_cons_succ, List.getElem?_cons_zero, Option.map_some, Option.getD_some, valsG, List.map_cons, List.map_nil, List.length_cons, List.length_nil] at hd; have d12 := hd; clear hd; subst d12; clear hs; simp only [fillG, List.set_cons_zero, List.set_cons_succ]; have hKW := Keep.tr (Keep.dr (Keep.rf _)) (hE rfl); have b0 := Keep.cell hKW b0; have b1 := Keep.cell hKW b1; have b2 := Keep.cell hKW b2; have e0 := Keep.cell hKW e0; have e1 := Keep.cell hKW e1; have e2 := Keep.cell hKW e2; refine want_y rfl ?_; go_wp2_with (first | (go_at_call 15; refine (law8Known _ (HTN.out.keep (Keep.tr k07 hKW))).mono ?_; rintro e w9 ⟨rfl, hk9⟩) | fail); simp only [DoneG, fillG, List.set_cons_zero, List.set_cons_succ, relG, eqG, eqG1, eqG2, eqG3, gdG, gdG1, gnG, gnG1, List.getD_cons_zero, List.getD_cons_succ, List.getElem?_cons_succ, List.getElem?_cons_zero, Option.map_some, Option.getD_some, valsG, List.map_cons, List.map_nil, List.length_cons, List.length_nil]; exact ⟨_, rfl, (by first | with_reducible assumption | exact krg _ | exact Keep.al (krg _) _), fun _ _ => rfl⟩)
            · (intro us W h9 hW hE hd hs K hK; obtain ⟨u0, u1, u2, u3, u4, u5, u6, u7, u8, u9, u10, u11, u12, u13, u14, u15, rfl⟩ := rog 16 h9 rfl; clear h9; simp only [DepG, AtG, and_true, relG, eqG, eqG1, eqG2, eqG3, gdG, gdG1, gnG, gnG1, List.getD_cons_zero, List.getD_cons_succ, List.getElem?_cons_succ, List.getElem?_cons_zero, Option.map_some, Option.getD_some, valsG, List.map_cons, List.map_nil, List.length_cons, List.length_nil] at hd; obtain ⟨d12, d13⟩ := hd; subst d12; subst d13; clear hs; simp only [fillG, List.set_cons_zero, List.set_cons_succ]; have hKW := Keep.tr (Keep.dr (Keep.rf _)) (hE rfl); have b0 := Keep.cell hKW b0; have b1 := Keep.cell hKW b1; have b2 := Keep.cell hKW b2; have e0 := Keep.cell hKW e0; have e1 := Keep.cell hKW e1; have e2 := Keep.cell hKW e2; refine want_n rfl ?_; go_wp2_with (first | fail); simp only [DoneG, fillG, List.set_cons_zero, List.set_cons_succ, relG, eqG, eqG1, eqG2, eqG3, gdG, gdG1, gnG, gnG1, List.getD_cons_zero, List.getD_cons_succ, List.getElem?_cons_succ, List.getElem?_cons_zero, Option.map_some, Option.getD_some, valsG, List.map_cons, List.map_nil, List.length_cons, List.length_nil]; exact ⟨_, rfl, (by first | with_reducible assumption | exact krg _ | exact Keep.al (krg _) _), fun _ _ => rfl⟩)
            · (intro us W h9 hW hE hd hs K hK; obtain ⟨u0, u1, u2, u3, u4, u5, u6, u7, u8, u9, u10, u11, u12, u13, u14, u15, rfl⟩ := rog 16 h9 rfl; clear h9; simp only [DepG, AtG, and_true, relG, eqG, eqG1, eqG2, eqG3, gdG, gdG1, gnG, gnG1, List.getD_cons_zero, List.getD_cons_succ, List.getElem?_cons_succ, List.getElem?_cons_zero, Option.map_some, Option.getD_some, valsG, List.map_cons, List.map_nil, List.length_cons, List.length_nil] at hd; have d14 := hd; clear hd; subst d14; clear hs; simp only [fillG, List.set_cons_zero, List.set_cons_succ]; refine want_n rfl ?_; go_wp2_with (first | fail); simp only [DoneG, fillG, List.set_cons_zero, List.set_cons_succ, relG, eqG, eqG1, eqG2, eqG3, gdG, gdG1, gnG, gnG1, List.getD_cons_zero, List.getD_cons_succ, List.getElem?_cons_succ, List.getElem?_cons_zero, Option.map_some, Option.getD_some, valsG, List.map_cons, List.map_nil, List.length_cons, List.length_nil]; exact ⟨_, rfl, (by first | with_reducible assumption | exact krg _ | exact Keep.al (krg _) _), fun _ _ => rfl⟩)
          (intro us W9 h9 hW hE hA; obtain ⟨u0, u1, u2, u3, u4, u5, u6, u7, u8, u9, u10, u11, u12, u13, u14, u15, rfl⟩ := rog 16 h9 rfl; clear h9; simp only [AllG, AtG, and_true, relG, eqG, eqG1, eqG2, eqG3, gdG, gdG1, gnG, gnG1, List.getD_cons_zero, List.getD_cons_succ, List.getElem?_cons_succ, List.getElem?_cons_zero, Option.map_some, Option.getD_some, valsG, List.map_cons, List.map_nil, List.length_cons, List.length_nil] at hA; obtain ⟨d1, d8, d15⟩ := hA; obtain ⟨o1, n1, A1, m1, c1, rfl, t1⟩ := d1; obtain ⟨A8, c8, rfl⟩ := d8; subst d15; simp only [fillG, List.set_cons_zero, List.set_cons_succ]; have k9 := Keep.tr (Keep.dr (Keep.rf _)) hW; clear hW hE)
          go_wp2_with fail
          go_ret
          exact ⟨rfl, Keep.tr k07 k9⟩
end Go.Proofs.YtoippbbodhchkaaDoor
