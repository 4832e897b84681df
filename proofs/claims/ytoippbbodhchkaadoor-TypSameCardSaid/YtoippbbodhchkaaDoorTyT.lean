/- Walks: a type put together; the laws' own helpers: long, ints, known (typ). -/
import Derived.Test.YtoippbbodhchkaaDoorTyShw
import Derived.Test.YtoippbbodhchkaaDoorTyL
namespace Go.Proofs.YtoippbbodhchkaaDoor
open Go.RowKit
open Em (Ty)
set_option linter.unusedVariables false
set_option linter.unusedSimpArgs false
set_option maxRecDepth 100000
theorem refTy (w : World) (o : List UInt8) (A : Option Addr) (n c : Nat) : Calls Tryd.prog 27 #[.string (str o), .slice A n c] w fun e w' => e = .returned (.agg #[.string (str o), .int .i64 0, .slice A n c]) ∧ Keep w w' := by
  go_enter Tryd.func27, Tryd.ntmps27
  go_wp2_with fail
  refine bodyPost_ret_by (results_cell_row rfl _ _ w.heap.size 24 _ (0, 0) _ rfl (by simpa using heap_alloc_new w _) Tryd.underlying24 rfl ?_) rfl ⟨?_, ?_⟩
  · kernel_rfl
  · rfl
  · exact (by repeat (first | exact Keep.rf _ | assumption | apply Keep.al | apply Keep.dr | apply Keep.dn))
theorem lawLong8 (d : Nat) (t : Ty) (w : World) (cs : List Value) (h : TyK d w cs t) : Calls Tryd.prog 12 #[.agg cs.toArray] w fun e w' => e = .returned (.bool (decide (300 < Em.sz 301 t))) ∧ Keep w w' := by
  cases d with
  | zero => exact h.elim
  | succ d =>
    have S := hide fun W (k : Keep w W) => refSizeT (d + 1) t W cs 301 (h.keep k) (by omega) (by omega)
    obtain ⟨kv, rfl, kn, kA, kc, rfl, _⟩ := h
    generalize Em.sz 301 t = s at *
    go_enter Tryd.func12, Tryd.ntmps12
    go_wp2_with fail
    refine (S.out _ (by repeat (first | exact Keep.rf _ | assumption | apply Keep.al | apply Keep.dr | apply Keep.dn))).mono ?_
    rintro e w1 ⟨rfl, k1⟩
    go_wp2_with fail
    go_ret
    exact ⟨rfl, Keep.tr (by repeat (first | exact Keep.rf _ | assumption | apply Keep.al | apply Keep.dr | apply Keep.dn)) k1⟩
set_option maxHeartbeats 4000000 in
theorem lawInts (L : List Int) (w : World) (v v' : Value) (h : Is w v L) (h' : Is w v' L) : Calls Tryd.prog 16 #[v, v'] w fun e w' => e = .returned (.bool true) ∧ Keep w w' := by
  obtain ⟨A, c, rfl, hlc, hcm, hr⟩ := h
  obtain ⟨A', c', rfl, hlc', hcm', hr'⟩ := h'
  simp only [List.length_map] at hlc hr hlc' hr' ⊢
  go_enter Tryd.func16, Tryd.ntmps16
  go_wp2_with fail
  go_loopw [5] (fun i W => ∃ k : Nat, k ≤ L.length ∧ i = .int .i64 k ∧ Keep w W) (fun i _ => L.length - (intOf i).toNat)
  case atStart => exact ⟨0, Nat.zero_le _, rfl, (by repeat (first | exact Keep.rf _ | assumption | apply Keep.al | apply Keep.dr | apply Keep.dn))⟩
  case round =>
    obtain ⟨k, hk, rfl, kw⟩ := hrel
    by_cases hlt : k < L.length
    · have hlti : (k : Int) < (L.length : Int) := by omega
      obtain ⟨ad, rfl, hcell⟩ := hr (by omega)
      obtain ⟨ad', rfl, hcell'⟩ := hr' (by omega)
      have c0 := Keep.cell kw (hcell k hlt)
      have d0 := Keep.cell kw (hcell' k hlt)
      simp only [List.getElem_map] at c0 d0
      have HR := hide hr
      have HR' := hide hr'
      clear hcell hcell' hr hr'
      generalize L[k] = x at *
      go_wp2_with fail
      apply region_all (by kernel_rfl) Keep Keep krg ktg krg ktg (fun _ _ h => h) [some 17, some 18, some 19, some 20, some 21, some 22, some 23, some 24, some 25] [eqG _ , eqG _ , eqG _ , eqG _ , eqG _ , eqG _ , eqG _ , eqG _ , eqG _ ] [⟨[], [], true, false, false⟩, ⟨[], [], true, false, false⟩, ⟨[0, 1], [], true, false, false⟩, ⟨[2], [], true, false, false⟩, ⟨[], [], true, false, false⟩, ⟨[], [], true, false, false⟩, ⟨[4, 5], [], true, false, false⟩, ⟨[6], [], true, false, false⟩, ⟨[3, 7], [], true, false, false⟩] [8] (by kernel_rfl) (by kernel_rfl) 
      · refine ⟨?_, ?_, ?_, ?_, ?_, ?_, ?_, ?_, ?_, trivial⟩
        · (intro us W h9 hW hE hd hs K hK; obtain ⟨u0, u1, u2, u3, u4, u5, u6, u7, u8, rfl⟩ := rog 9 h9 rfl; clear h9; clear hd; clear hs; simp only [fillG, List.set_cons_zero, List.set_cons_succ]; refine want_n rfl ?_; go_wp2_with (first | fail); simp only [DoneG, fillG, List.set_cons_zero, List.set_cons_succ, relG, eqG, eqG1, eqG2, eqG3, gdG, gdG1, gnG, gnG1, List.getD_cons_zero, List.getD_cons_succ, List.getElem?_cons_succ, List.getElem?_cons_zero, Option.map_some, Option.getD_some, valsG, List.map_cons, List.map_nil, List.length_cons, List.length_nil]; exact ⟨_, rfl, (by first | with_reducible assumption | exact krg _ | exact Keep.al (krg _) _), fun _ _ => rfl⟩)
        · (intro us W h9 hW hE hd hs K hK; obtain ⟨u0, u1, u2, u3, u4, u5, u6, u7, u8, rfl⟩ := rog 9 h9 rfl; clear h9; clear hd; clear hs; simp only [fillG, List.set_cons_zero, List.set_cons_succ]; refine want_n rfl ?_; go_wp2_with (first | fail); simp only [DoneG, fillG, List.set_cons_zero, List.set_cons_succ, relG, eqG, eqG1, eqG2, eqG3, gdG, gdG1, gnG, gnG1, List.getD_cons_zero, List.getD_cons_succ, List.getElem?_cons_succ, List.getElem?_cons_zero, Option.map_some, Option.getD_some, valsG, List.map_cons, List.map_nil, List.length_cons, List.length_nil]; exact ⟨_, rfl, (by first | with_reducible assumption | exact krg _ | exact Keep.al (krg _) _), fun _ _ => rfl⟩)
        · (intro us W h9 hW hE hd hs K hK; obtain ⟨u0, u1, u2, u3, u4, u5, u6, u7, u8, rfl⟩ := rog 9 h9 rfl; clear h9; simp only [DepG, AtG, and_true, relG, eqG, eqG1, eqG2, eqG3, gdG, gdG1, gnG, gnG1, List.getD_cons_zero, List.getD_cons_succ, List.getElem?_cons_succ, List.getElem?_cons_zero, Option.map_some, Option.getD_some, valsG, List.map_cons, List.map_nil, List.length_cons, List.length_nil] at hd; obtain ⟨d0, d1⟩ := hd; subst d0; subst d1; clear hs; simp only [fillG, List.set_cons_zero, List.set_cons_succ]; refine want_n rfl ?_; go_wp2_with (first | fail); simp only [DoneG, fillG, List.set_cons_zero, List.set_cons_succ, relG, eqG, eqG1, eqG2, eqG3, gdG, gdG1, gnG, gnG1, List.getD_cons_zero, List.getD_cons_succ, List.getElem?_cons_succ, List.getElem?_cons_zero, Option.map_some, Option.getD_some, valsG, List.map_cons, List.map_nil, List.length_cons, List.length_nil]; exact ⟨_, rfl, (by first | with_reducible assumption | exact krg _ | exact Keep.al (krg _) _), fun _ _ => rfl⟩)
        · (intro us W h9 hW hE hd hs K hK; obtain ⟨u0, u1, u2, u3, u4, u5, u6, u7, u8, rfl⟩ := rog 9 h9 rfl; clear h9; simp only [DepG, AtG, and_true, relG, eqG, eqG1, eqG2, eqG3, gdG, gdG1, gnG, gnG1, List.getD_cons_zero, List.getD_cons_succ, List.getElem?_cons_succ, List.getElem?_cons_zero, Option.map_some, Option.getD_some, valsG, List.map_cons, List.map_nil, List.length_cons, List.length_nil] at hd; have d2 := hd; clear hd; subst d2; clear hs; simp only [fillG, List.set_cons_zero, List.set_cons_succ]; have hKW := Keep.tr (Keep.dr (Keep.rf _)) (hE rfl); have c0 := Keep.cell hKW c0; have d0 := Keep.cell hKW d0; refine want_n rfl ?_; go_wp2_with (first | fail); simp only [DoneG, fillG, List.set_cons_zero, List.set_cons_succ, relG, eqG, eqG1, eqG2, eqG3, gdG, gdG1, gnG, gnG1, List.getD_cons_zero, List.getD_cons_succ, List.getElem?_cons_succ, List.getElem?_cons_zero, Option.map_some, Option.getD_some, valsG, List.map_cons, List.map_nil, List.length_cons, List.length_nil]; exact ⟨_, rfl, (by first | with_reducible assumption | exact krg _ | exact Keep.al (krg _) _), fun _ _ => rfl⟩)
        · (intro us W h9 hW hE hd hs K hK; obtain ⟨u0, u1, u2, u3, u4, u5, u6, u7, u8, rfl⟩ := rog 9 h9 rfl; clear h9; clear hd; clear hs; simp only [fillG, List.set_cons_zero, List.set_cons_succ]; refine want_n rfl ?_; go_wp2_with (first | fail); simp only [DoneG, fillG, List.set_cons_zero, List.set_cons_succ, relG, eqG, eqG1, eqG2, eqG3, gdG, gdG1, gnG, gnG1, List.getD_cons_zero, List.getD_cons_succ, List.getElem?_cons_succ, List.getElem?_cons_zero, Option.map_some, Option.getD_some, valsG, List.map_cons, List.map_nil, List.length_cons, List.length_nil]; exact ⟨_, rfl, (by first | with_reducible assumption | exact krg _ | exact Keep.al (krg _) _), fun _ _ => rfl⟩)
        · (intro us W h9 hW hE hd hs K hK; obtain ⟨u0, u1, u2, u3, u4, u5, u6, u7, u8, rfl⟩ := rog 9 h9 rfl; clear h9; clear hd; clear hs; simp only [fillG, List.set_cons_zero, List.set_cons_succ]; refine want_n rfl ?_; go_wp2_with (first | fail); simp only [DoneG, fillG, List.set_cons_zero, List.set_cons_succ, relG, eqG, eqG1, eqG2, eqG3, gdG, gdG1, gnG, gnG1, List.getD_cons_zero, List.getD_cons_succ, List.getElem?_cons_succ, List.getElem?_cons_zero, Option.map_some, Option.getD_some, valsG, List.map_cons, List.map_nil, List.length_cons, List.length_nil]; exact ⟨_, rfl, (by first | with_reducible assumption | exact krg _ | exact Keep.al (krg _) _), fun _ _ => rfl⟩)
        · (intro us W h9 hW hE hd hs K hK; obtain ⟨u0, u1, u2, u3, u4, u5, u6, u7, u8, rfl⟩ := rog 9 h9 rfl; clear h9; simp only [DepG, AtG, and_true, relG, eqG, eqG1, eqG2, eqG3, gdG, gdG1, gnG, gnG1, List.getD_cons_zero, List.getD_cons_succ, List.getElem?_cons_succ, List.getElem?_cons_zero, Option.map_some, Option.getD_some, valsG, List.map_cons, List.map_nil, List.length_cons, List.length_nil] at hd; obtain ⟨d4, d5⟩ := hd; subst d4; subst d5; clear hs; simp only [fillG, List.set_cons_zero, List.set_cons_succ]; refine want_n rfl ?_; go_wp2_with (first | fail); simp only [DoneG, fillG, List.set_cons_zero, List.set_cons_succ, relG, eqG, eqG1, eqG2, eqG3, gdG, gdG1, gnG, gnG1, List.getD_cons_zero, List.getD_cons_succ, List.getElem?_cons_succ, List.getElem?_cons_zero, Option.map_some, Option.getD_some, valsG, List.map_cons, List.map_nil, List.length_cons, List.length_nil]; exact ⟨_, rfl, (by first | with_reducible assumption | exact krg _ | exact Keep.al (krg _) _), fun _ _ => rfl⟩)
        · (intro us W h9 hW hE hd hs K hK; obtain ⟨u0, u1, u2, u3, u4, u5, u6, u7, u8, rfl⟩ := rog 9 h9 rfl; clear h9; simp only [DepG, AtG, and_true, relG, eqG, eqG1, eqG2, eqG3, gdG, gdG1, gnG, gnG1, List.getD_cons_zero, List.getD_cons_succ, List.getElem?_cons_succ, List.getElem?_cons_zero, Option.map_some, Option.getD_some, valsG, List.map_cons, List.map_nil, List.length_cons, List.length_nil] at hd; have d6 := hd; clear hd; subst d6; clear hs; simp only [fillG, List.set_cons_zero, List.set_cons_succ]; have hKW := Keep.tr (Keep.dr (Keep.rf _)) (hE rfl); have c0 := Keep.cell hKW c0; have d0 := Keep.cell hKW d0; refine want_n rfl ?_; go_wp2_with (first | fail); simp only [DoneG, fillG, List.set_cons_zero, List.set_cons_succ, relG, eqG, eqG1, eqG2, eqG3, gdG, gdG1, gnG, gnG1, List.getD_cons_zero, List.getD_cons_succ, List.getElem?_cons_succ, List.getElem?_cons_zero, Option.map_some, Option.getD_some, valsG, List.map_cons, List.map_nil, List.length_cons, List.length_nil]; exact ⟨_, rfl, (by first | with_reducible assumption | exact krg _ | exact Keep.al (krg _) _), fun _ _ => rfl⟩)
        · (intro us W h9 hW hE hd hs K hK; obtain ⟨u0, u1, u2, u3, u4, u5, u6, u7, u8, rfl⟩ := rog 9 h9 rfl; clear h9; simp only [DepG, AtG, and_true, relG, eqG, eqG1, eqG2, eqG3, gdG, gdG1, gnG, gnG1, List.getD_cons_zero, List.getD_cons_succ, List.getElem?_cons_succ, List.getElem?_cons_zero, Option.map_some, Option.getD_some, valsG, List.map_cons, List.map_nil, List.length_cons, List.length_nil] at hd; obtain ⟨d3, d7⟩ := hd; subst d3; subst d7; clear hs; simp only [fillG, List.set_cons_zero, List.set_cons_succ]; refine want_n rfl ?_; go_wp2_with (first | fail); simp only [DoneG, fillG, List.set_cons_zero, List.set_cons_succ, relG, eqG, eqG1, eqG2, eqG3, gdG, gdG1, gnG, gnG1, List.getD_cons_zero, List.getD_cons_succ, List.getElem?_cons_succ, List.getElem?_cons_zero, Option.map_some, Option.getD_some, valsG, List.map_cons, List.map_nil, List.length_cons, List.length_nil]; exact ⟨_, rfl, (by first | with_reducible assumption | exact krg _ | exact Keep.al (krg _) _), fun _ _ => rfl⟩)
      (intro us W2 h9 hW hE hA; obtain ⟨u0, u1, u2, u3, u4, u5, u6, u7, u8, rfl⟩ := rog 9 h9 rfl; clear h9; simp only [AllG, AtG, and_true, relG, eqG, eqG1, eqG2, eqG3, gdG, gdG1, gnG, gnG1, List.getD_cons_zero, List.getD_cons_succ, List.getElem?_cons_succ, List.getElem?_cons_zero, Option.map_some, Option.getD_some, valsG, List.map_cons, List.map_nil, List.length_cons, List.length_nil] at hA; have d8 := hA; clear hA; subst d8; simp only [fillG, List.set_cons_zero, List.set_cons_succ]; have k2 := Keep.tr (Keep.dr (Keep.rf _)) hW; clear hW hE)
      go_wp2_with fail
      go_roundw
      case rel => exact ⟨k + 1, by omega, by go_num, Keep.tr kw k2⟩
      case measure => simp [intOf]; omega
    · have hlti : ¬ (k : Int) < (L.length : Int) := by omega
      go_wp2_with fail
      go_ret
      exact ⟨rfl, kw⟩
abbrev kInt : Ty := .mk Em.wInt 0 []
abbrev kVar3 : Ty := .mk Em.wVar 3 []
abbrev kPair : Ty := .mk Em.wPair 0 [kInt, kVar3]
abbrev kList : Ty := .mk Em.wList 0 [kPair]
theorem known_show : Em.showT (Em.normT kList) = [40, 105, 110, 116, 32, 42, 32, 39, 48, 41, 32, 108, 105, 115, 116] := by decide +kernel
theorem known_is : Em.isT kList = true := by decide +kernel
theorem known_ok : Em.okT (Em.normT kList) = true := by decide +kernel
theorem known_nodes : nodes kList ≤ 100000 ∧ nodes (Em.normT kList) ≤ 100000 := by decide +kernel
theorem known_sent : Em.sentT kList = false := by decide +kernel
set_option maxHeartbeats 4000000 in
theorem law8Known (w : World) (ht : Tens w) : Calls Tryd.prog 15 #[] w fun e w' => e = .returned (.bool true) ∧ Keep w w' := by
  have HTN := hide ht
  clear ht
  go_enter Tryd.func15, Tryd.ntmps15
  go_wp2_with fail
  refine (refTy _ Em.wInt _ _ _).mono ?_
  rintro e w1 ⟨rfl, k1⟩
  go_wp2_with fail
  refine (refVar8 _ _).mono ?_
  rintro e w2 ⟨rfl, k2⟩
  go_wp2_with fail
  refine (refTy _ Em.wPair _ _ _).mono ?_
  rintro e w3 ⟨rfl, k3⟩
  have hs2 : Sl 3 (TyK 1) (w2.alloc (.cells #[.string (str Em.wInt), .int .i64 0, .slice none 0 0, .string (str Em.wVar), .int .i64 3, .slice none 0 0] 24)) (.slice (some ⟨w2.heap.size, 0, none⟩) 2 2) [kInt, kVar3] :=
    sl_lit (fun t : Ty => [Value.string (str t.op), .int .i64 t.n, .slice none 0 0]) [kInt, kVar3] rfl rfl rfl (fun _ => rfl) (by simp) (fun a ha => by
      rcases List.mem_cons.1 ha with rfl | ha
      · exact ⟨_, rfl, by decide, Sl.nil _⟩
      · rw [List.mem_singleton.1 ha]
        exact ⟨_, rfl, by decide, Sl.nil _⟩)
  have hs3 := hs2.keep k3 fun _ _ h => h.keep k3
  have k23 : Keep w2 w3 := Keep.tr (by repeat (first | exact Keep.rf _ | assumption | apply Keep.al | apply Keep.dr | apply Keep.dn)) k3
  have k03 := Keep.tr k1 (Keep.tr k2 k23)
  clear hs2 k1 k2 k23 k3
  go_wp2_with fail
  refine (refTy _ Em.wList _ _ _).mono ?_
  rintro e w4 ⟨rfl, k4⟩
  have hs4 : Sl 3 (TyK 2) (w3.alloc (.cells #[.string (str Em.wPair), .int .i64 0, .slice (some ⟨w2.heap.size, 0, none⟩) 2 2] 24)) (.slice (some ⟨w3.heap.size, 0, none⟩) 1 1) [kPair] :=
    sl_lit (fun t : Ty => [Value.string (str t.op), .int .i64 t.n, .slice (some ⟨w2.heap.size, 0, none⟩) 2 2]) [kPair] rfl rfl rfl (fun _ => rfl) (by simp) (fun a ha => by
      rw [List.mem_singleton.1 ha]
      exact ⟨_, rfl, by decide, hs3.keep (Keep.al (Keep.rf _) _) fun _ _ h => h.keep (Keep.al (Keep.rf _) _)⟩)
  have hs5 := hs4.keep k4 fun _ _ h => h.keep k4
  have k34 : Keep w3 w4 := Keep.tr (by repeat (first | exact Keep.rf _ | assumption | apply Keep.al | apply Keep.dr | apply Keep.dn)) k4
  have k04 := Keep.tr k03 k34
  clear hs3 hs4 k03 k34 k4
  go_wp2_with fail
  have kal := Keep.al (Keep.rf w4) (.cells #[.string (str Em.wList), .int .i64 0, .slice (some ⟨w3.heap.size, 0, none⟩) 1 1] 24)
  have hx := heap_alloc_new w4 (.cells #[.string (str Em.wList), .int .i64 0, .slice (some ⟨w3.heap.size, 0, none⟩) 1 1] 24)
  have hT : TyK 3 (w4.alloc (.cells #[.string (str Em.wList), .int .i64 0, .slice (some ⟨w3.heap.size, 0, none⟩) 1 1] 24)) [.string (str Em.wList), .int .i64 0, .slice (some ⟨w3.heap.size, 0, none⟩) 1 1] kList :=
    ⟨_, rfl, by decide, hs5.keep kal fun _ _ h => h.keep kal⟩
  have k05 := Keep.tr k04 kal
  have HT := hide hT
  have x0 := top_cells hx 0
  have x1 := top_cells hx 1
  have x2 := top_cells hx 2
  simp only [List.getElem?_toArray, List.getElem?_cons_succ, List.getElem?_cons_zero] at x0 x1 x2
  clear hs5 hT hx kal k04
  generalize World.alloc w4 _ = w5 at *
  refine (typIsT kList w5 _ ⟨3, _, rfl, HT.out⟩).mono ?_
  rintro e w6 ⟨rfl, k6⟩
  rw [known_is]
  replace x0 := Keep.cell k6 x0
  replace x1 := Keep.cell k6 x1
  replace x2 := Keep.cell k6 x2
  go_wp2_with fail
  refine (typNorm 3 kList w6 _ (HT.out.keep k6) known_nodes.1).mono ?_
  rintro e w7 ⟨o7, n7, A7, m7, c7, rfl, hF7, k7⟩
  have k57 := Keep.tr k6 k7
  have HT7 := hide hF7.ty
  replace x0 := Keep.cell k7 x0
  replace x1 := Keep.cell k7 x1
  replace x2 := Keep.cell k7 x2
  have k07 := Keep.tr k05 k57
  clear hF7 k6 k7
  go_wp2_with fail
  refine (typShow 3 _ w7 _ HT7.out known_ok known_nodes.2 (HTN.out.keep k07)).mono ?_
  rintro e w8 ⟨rfl, k8⟩
  rw [known_show]
  have hs9 : ((str [40, 105, 110, 116, 32, 42, 32, 39, 48, 41, 32, 108, 105, 115, 116]).toList == [40, 105, 110, 116, 32, 42, 32, 39, 48, 41, 32, 108, 105, 115, 116]) = true := by rw [opB]; rfl
  replace x0 := Keep.cell k8 x0
  replace x1 := Keep.cell k8 x1
  replace x2 := Keep.cell k8 x2
  go_wp2_with fail
  refine (typSent kList w8 _ ⟨3, _, rfl, HT.out.keep (Keep.tr k57 k8)⟩).mono ?_
  rintro e w9 ⟨rfl, k9⟩
  rw [known_sent]
  go_wp2_with fail
  go_ret
  exact ⟨rfl, Keep.tr (Keep.tr k07 k8) k9⟩
end Go.Proofs.YtoippbbodhchkaaDoor
