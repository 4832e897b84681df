/- The law ShapeIs: walk. -/
import Derived.Test.YtilhglnfjaablaaBldL
namespace Go.Proofs.Ytilhglnfjaablaa
open Go.RowKit Go.Maps
set_option linter.unusedVariables false
set_option linter.unusedSimpArgs false
set_option maxRecDepth 100000
theorem Em.build_cases (sz : Nat) (H : Em.Hp) (g : Em.Gr) : (∃ c, (c = 1 ∨ c = 8) ∧ Em.buildG sz H g = (0, c, H)) ∨ (Em.isG g = true ∧ Em.used H + Em.needN g.blocks ≤ sz ∧ Em.buildG sz H g = (Em.wordG (Em.addrs (Em.used H) g.blocks) g.root, 0, H ++ g.blocks.map (Em.full (Em.addrs (Em.used H) g.blocks)))) ∨ (sz < Em.used H) := by
  by_cases hu : sz < Em.used H
  · exact .inr (.inr hu)
  by_cases hg : Em.isG g = true
  · by_cases hn : Em.used H + Em.needN g.blocks ≤ sz
    · exact .inr (.inl ⟨hg, hn, Em.build_yes hg hn⟩)
    · refine .inl ⟨8, .inr rfl, ?_⟩
      unfold Em.buildG
      rw [if_pos hg, if_pos (by omega)]
  · refine .inl ⟨1, .inl rfl, ?_⟩
    unfold Em.buildG
    rw [if_neg hg]
theorem Em.addrs_wf {s : Nat} {bs : List Em.Blk} (h : s + Em.needN bs ≤ 20000) : ∀ x ∈ Em.addrs s bs, (Lit.int .i64 x).wf = true := by
  induction bs generalizing s with
  | nil => intro x hx; cases hx
  | cons b t ih =>
    intro x hx
    rw [Em.addrs] at hx
    simp only [Em.needN] at h
    rcases List.mem_cons.1 hx with rfl | hx
    · simp [Lit.wf, IntKind.min, IntKind.max, IntKind.bits, IntKind.signed]
      omega
    · exact ih (by omega) x hx
set_option maxHeartbeats 16000000 in
theorem ShapeIs_walk (w : World) (v : Value) (g : Em.Gr) (hg : GrV w v g) (_ : True) (n : Int) (hn : (Lit.int .i64 n).wf = true) : Calls Try.prog 9 #[v, .int .i64 n] w fun e w' => e = .returned (.bool true) ∧ Keep w w' := by
  have HG := hide hg
  have hnb := in_i64 hn
  obtain ⟨u, rfl, _, ⟨A, c, rfl, _⟩⟩ := hg
  have k0 : Keep w (w.alloc (.cells #[.bool g.root.1, .int .i64 g.root.2, .slice A g.blocks.length c] 34)) := (by repeat (first | exact Keep.rf _ | assumption | apply Keep.al | apply Keep.dr | apply Keep.dn))
  have ha := heap_alloc_new w (.cells #[.bool g.root.1, .int .i64 g.root.2, .slice A g.blocks.length c] 34)
  have a0 := top_cells ha 0
  have a1 := top_cells ha 1
  have a2 := top_cells ha 2
  simp only [List.getElem?_toArray, List.getElem?_cons_succ, List.getElem?_cons_zero] at a0 a1 a2
  clear ha
  go_enter Try.func9, Try.ntmps9
  go_wp2_with fail
  generalize World.alloc w _ = w1 at *
  refine (lawLong18s g w1 _ (HG.out.keep k0)).mono ?_
  rintro e w2 ⟨⟨b, rfl, hsm⟩, k2⟩
  replace a0 := Keep.cell k2 a0
  replace a1 := Keep.cell k2 a1
  replace a2 := Keep.cell k2 a2
  have k02 := Keep.tr k0 k2
  clear k0 k2
  cases b with
  | true =>
    go_wp2_with fail
    go_ret
    exact ⟨rfl, k02⟩
  | false =>
    have HSM := hide (hsm rfl)
    clear hsm
    by_cases h1 : n < 0
    · go_wp2_with fail
      go_ret
      exact ⟨rfl, k02⟩
    by_cases h2 : n > 500
    · go_wp2_with fail
      go_ret
      exact ⟨rfl, k02⟩
    obtain ⟨m, rfl⟩ : ∃ m : Nat, n = (m : Int) := ⟨n.toNat, by omega⟩
    have hm : m ≤ 500 := by omega
    have K02 := hide k02
    have hA2 := hide (And.intro a0 (And.intro a1 a2))
    clear k02
    go_wp2_with fail
    refine (heapNew m _ (by omega)).mono ?_
    rintro e w3 ⟨p, S, rfl, hR, hS, k3⟩
    go_wp2_with fail
    refine (refNew m _ (by omega)).mono ?_
    rintro e w4 ⟨q, T, rfl, hR2, hT, k4⟩
    have hB : Both w w4 p q m S T [] := ⟨hR.keep k4, hR2, fun k hk => Nat.le_trans K02.out.size (hS k hk), fun k hk' => Nat.le_trans (Nat.le_trans K02.out.size k3.size) (hT k hk'), fun k hk' hm => by have := hR.lt k hk'; have := hT k hm; omega, Keep.tr K02.out (Keep.tr k3 k4)⟩
    have k24 := Keep.tr k3 k4
    replace a0 := Keep.cell k24 a0
    replace a1 := Keep.cell k24 a1
    replace a2 := Keep.cell k24 a2
    have hw2 : ∀ W, Keep w2 W → True := fun _ _ => trivial
    have HS2 := hide hS
    have hT2 := hide (fun k (hk : k ∈ T) => Nat.le_trans k3.size (hT k hk))
    have HB := hide hB
    have K24 := hide k24
    clear hR hS k3 hR2 hT k4 hB k24 hw2
    generalize hoo : Em.buildG m [] g = oo at *
    have HOO := hide hoo
    have HCS := hide (Em.build_cases m [] g)
    rw [hoo] at HCS
    clear hoo
    go_wp2_with fail
    refine (shapeBuild _ HB.out.1 _ g (GrS.of HG.out HB.out.2.2.2.2.2 HB.out.2.2.1) HSM.out.need).mono ?_
    rintro e w5 ⟨rfl, S5, r5, x5⟩
    rw [HOO.out] at r5 ⊢
    have h5 := HB.out.parts x5
    have K25 := hide (Frm.keep K24.out x5.1 HS2.out)
    have HX5 := hide x5
    have HR5 := hide r5
    have H5 := hide h5
    clear r5 x5 h5
    generalize hig : Em.isG g = ig at *
    have HIG := hide hig
    clear hig
    obtain ⟨ow, oc, oH⟩ := oo
    simp only at HR5 ⊢
    replace a0 := Keep.cell K25.out (show w2.cell? ⟨w.heap.size, 0, none⟩ = _ from hA2.out.1)
    replace a1 := Keep.cell K25.out hA2.out.2.1
    replace a2 := Keep.cell K25.out hA2.out.2.2
    go_wp2_with fail
    refine (refBuild _ H5.out.1 _ g (GrS.of HG.out H5.out.2 HB.out.2.2.2.1) HSM.out.need).mono ?_
    rintro e w6 ⟨rfl, S6, r6, x6⟩
    rw [HOO.out] at r6 ⊢
    have hB6 := HB.out.step HR5.out HX5.out r6 x6
    have K26 := hide (Frm.keep K25.out x6.1 hT2.out)
    have HB6 := hide hB6
    clear r6 x6 hB6 HX5 HR5 H5 HB HS2 hT2 K25 K24
    simp only at HB6 ⊢
    replace a0 := Keep.cell K26.out hA2.out.1
    replace a1 := Keep.cell K26.out hA2.out.2.1
    replace a2 := Keep.cell K26.out hA2.out.2.2
    have hbb : (ig != ig) = false := by simp
    have hcc : (oc != oc) = false := by simp
    have hww : (ow != ow) = false := by simp
    generalize hus : (Em.used oH : Int) = usd at *
    have HUS := hide hus
    clear hus
    have huu : (usd != usd) = false := by simp
    go_wp2_with fail
    apply region_all (by kernel_rfl) Keep Keep krg ktg krg ktg (fun _ _ h => h) [some 39, some 40, some 41, some 42, some 43, some 44, some 45, some 46, some 47, some 48, some 49, some 50, some 51, some 52, some 53, some 54, some 55, some 56, some 57, some 58, some 59, some 60] [eqG _ , fun us _ v => v = .bool ig, eqG _ , fun us _ v => v = .bool ig, fun us _ v => v = .bool false, eqG _ , eqG _ , eqG _ , fun us _ v => v = .bool false, eqG _ , eqG _ , eqG _ , eqG _ , fun us _ v => v = .bool false, eqG _ , eqG _ , eqG _ , fun us _ v => v = .int .i64 usd, eqG _ , fun us _ v => v = .int .i64 usd, fun us _ v => v = .bool false, eqG _ ] [⟨[], [], true, false, false⟩, ⟨[0], [], true, false, false⟩, ⟨[], [], true, false, false⟩, ⟨[2], [], true, false, false⟩, ⟨[1, 3], [], true, false, false⟩, ⟨[4], [], true, false, false⟩, ⟨[5], [], true, false, false⟩, ⟨[5], [], true, false, false⟩, ⟨[5, 6, 7], [], true, false, false⟩, ⟨[5, 8], [], true, false, false⟩, ⟨[9], [], true, false, false⟩, ⟨[10], [], true, false, false⟩, ⟨[10], [], true, false, false⟩, ⟨[10, 11, 12], [], true, false, false⟩, ⟨[10, 13], [], true, false, false⟩, ⟨[14], [], true, false, false⟩, ⟨[15], [], true, false, false⟩, ⟨[15, 16], [], true, false, false⟩, ⟨[15], [], true, false, false⟩, ⟨[15, 18], [], true, false, false⟩, ⟨[15, 17, 19], [], true, false, false⟩, ⟨[15, 20], [], true, false, false⟩] [21] (by kernel_rfl) (by kernel_rfl) 
    · refine ⟨?_, ?_, ?_, ?_, ?_, ?_, ?_, ?_, ?_, ?_, ?_, ?_, ?_, ?_, ?_, ?_, ?_, ?_, ?_, ?_, ?_, ?_, trivial⟩
      · (intro us W h9 hW hE hd hs K hK; obtain ⟨u0, u1, u2, u3, u4, u5, u6, u7, u8, u9, u10, u11, u12, u13, u14, u15, u16, u17, u18, u19, u20, u21, rfl⟩ := rog 22 h9 rfl; clear h9; clear hd; clear hs; simp only [fillG, List.set_cons_zero, List.set_cons_succ]; have hKW := Keep.tr (Keep.dr (Keep.rf _)) (hE rfl); have a0 := Keep.cell hKW a0; have a1 := Keep.cell hKW a1; have a2 := Keep.cell hKW a2; refine want_n rfl ?_; go_wp2_with (first | fail); simp only [DoneG, fillG, List.set_cons_zero, List.set_cons_succ, relG, eqG, eqG1, eqG2, eqG3, gdG, gdG1, gnG, gnG1, List.getD_cons_zero, List.getD_cons_succ, List.getElem?_cons_succ, List.getElem?_cons_zero, Option.map_some, Option.getD_some, valsG, List.map_cons, List.map_nil, List.length_cons, List.length_nil]; exact ⟨_, rfl, (by first | with_reducible assumption | exact krg _ | exact Keep.al (krg _) _), fun _ _ => rfl⟩)
      · (intro us W h9 hW hE hd hs K hK; obtain ⟨u0, u1, u2, u3, u4, u5, u6, u7, u8, u9, u10, u11, u12, u13, u14, u15, u16, u17, u18, u19, u20, u21, rfl⟩ := rog 22 h9 rfl; clear h9; simp only [DepG, AtG, and_true, relG, eqG, eqG1, eqG2, eqG3, gdG, gdG1, gnG, gnG1, List.getD_cons_zero, List.getD_cons_succ, List.getElem?_cons_succ, List.getElem?_cons_zero, Option.map_some, Option.getD_some, valsG, List.map_cons, List.map_nil, List.length_cons, List.length_nil] at hd; have d0 := hd; clear hd; subst d0; clear hs; simp only [fillG, List.set_cons_zero, List.set_cons_succ]; have hKW := Keep.tr (Keep.dr (Keep.rf _)) (hE rfl); have a0 := Keep.cell hKW a0; have a1 := Keep.cell hKW a1; have a2 := Keep.cell hKW a2; refine want_n rfl ?_; go_wp2_with (first | (go_at_call 34; refine (shapeIs _ _ g (HG.out.keep (Keep.tr HB6.out.2.2.2.2.2 hKW))).mono ?_; rintro e w9 ⟨rfl, hk8⟩; rw [HIG.out]) | fail); simp only [DoneG, fillG, List.set_cons_zero, List.set_cons_succ, relG, eqG, eqG1, eqG2, eqG3, gdG, gdG1, gnG, gnG1, List.getD_cons_zero, List.getD_cons_succ, List.getElem?_cons_succ, List.getElem?_cons_zero, Option.map_some, Option.getD_some, valsG, List.map_cons, List.map_nil, List.length_cons, List.length_nil]; exact ⟨_, rfl, (by first | with_reducible assumption | exact krg _ | exact Keep.al (krg _) _), fun _ _ => rfl⟩)
      · (intro us W h9 hW hE hd hs K hK; obtain ⟨u0, u1, u2, u3, u4, u5, u6, u7, u8, u9, u10, u11, u12, u13, u14, u15, u16, u17, u18, u19, u20, u21, rfl⟩ := rog 22 h9 rfl; clear h9; clear hd; clear hs; simp only [fillG, List.set_cons_zero, List.set_cons_succ]; have hKW := Keep.tr (Keep.dr (Keep.rf _)) (hE rfl); have a0 := Keep.cell hKW a0; have a1 := Keep.cell hKW a1; have a2 := Keep.cell hKW a2; refine want_n rfl ?_; go_wp2_with (first | fail); simp only [DoneG, fillG, List.set_cons_zero, List.set_cons_succ, relG, eqG, eqG1, eqG2, eqG3, gdG, gdG1, gnG, gnG1, List.getD_cons_zero, List.getD_cons_succ, List.getElem?_cons_succ, List.getElem?_cons_zero, Option.map_some, Option.getD_some, valsG, List.map_cons, List.map_nil, List.length_cons, List.length_nil]; exact ⟨_, rfl, (by first | with_reducible assumption | exact krg _ | exact Keep.al (krg _) _), fun _ _ => rfl⟩)
      · (intro us W h9 hW hE hd hs K hK; obtain ⟨u0, u1, u2, u3, u4, u5, u6, u7, u8, u9, u10, u11, u12, u13, u14, u15, u16, u17, u18, u19, u20, u21, rfl⟩ := rog 22 h9 rfl; clear h9; simp only [DepG, AtG, and_true, relG, eqG, eqG1, eqG2, eqG3, gdG, gdG1, gnG, gnG1, List.getD_cons_zero, List.getD_cons_succ, List.getElem?_cons_succ, List.getElem?_cons_zero, Option.map_some, Option.getD_some, valsG, List.map_cons, List.map_nil, List.length_cons, List.length_nil] at hd; have d2 := hd; clear hd; subst d2; clear hs; simp only [fillG, List.set_cons_zero, List.set_cons_succ]; have hKW := Keep.tr (Keep.dr (Keep.rf _)) (hE rfl); have a0 := Keep.cell hKW a0; have a1 := Keep.cell hKW a1; have a2 := Keep.cell hKW a2; refine want_n rfl ?_; go_wp2_with (first | (go_at_call 35; refine (refIs18 _ _ g (HG.out.keep (Keep.tr HB6.out.2.2.2.2.2 hKW))).mono ?_; rintro e w9 ⟨rfl, hk8⟩; rw [HIG.out]) | fail); simp only [DoneG, fillG, List.set_cons_zero, List.set_cons_succ, relG, eqG, eqG1, eqG2, eqG3, gdG, gdG1, gnG, gnG1, List.getD_cons_zero, List.getD_cons_succ, List.getElem?_cons_succ, List.getElem?_cons_zero, Option.map_some, Option.getD_some, valsG, List.map_cons, List.map_nil, List.length_cons, List.length_nil]; exact ⟨_, rfl, (by first | with_reducible assumption | exact krg _ | exact Keep.al (krg _) _), fun _ _ => rfl⟩)
      · (intro us W h9 hW hE hd hs K hK; obtain ⟨u0, u1, u2, u3, u4, u5, u6, u7, u8, u9, u10, u11, u12, u13, u14, u15, u16, u17, u18, u19, u20, u21, rfl⟩ := rog 22 h9 rfl; clear h9; simp only [DepG, AtG, and_true, relG, eqG, eqG1, eqG2, eqG3, gdG, gdG1, gnG, gnG1, List.getD_cons_zero, List.getD_cons_succ, List.getElem?_cons_succ, List.getElem?_cons_zero, Option.map_some, Option.getD_some, valsG, List.map_cons, List.map_nil, List.length_cons, List.length_nil] at hd; obtain ⟨d1, d3⟩ := hd; subst d1; subst d3; clear hs; simp only [fillG, List.set_cons_zero, List.set_cons_succ]; have hKW := Keep.tr (Keep.dr (Keep.rf _)) (hE rfl); have a0 := Keep.cell hKW a0; have a1 := Keep.cell hKW a1; have a2 := Keep.cell hKW a2; refine want_n rfl ?_; go_wp2_with (first | fail); simp only [DoneG, fillG, List.set_cons_zero, List.set_cons_succ, relG, eqG, eqG1, eqG2, eqG3, gdG, gdG1, gnG, gnG1, List.getD_cons_zero, List.getD_cons_succ, List.getElem?_cons_succ, List.getElem?_cons_zero, Option.map_some, Option.getD_some, valsG, List.map_cons, List.map_nil, List.length_cons, List.length_nil]; exact ⟨_, rfl, (by first | with_reducible assumption | exact krg _ | exact Keep.al (krg _) _), fun _ _ => rfl⟩)
      · (intro us W h9 hW hE hd hs K hK; obtain ⟨u0, u1, u2, u3, u4, u5, u6, u7, u8, u9, u10, u11, u12, u13, u14, u15, u16, u17, u18, u19, u20, u21, rfl⟩ := rog 22 h9 rfl; clear h9; simp only [DepG, AtG, and_true, relG, eqG, eqG1, eqG2, eqG3, gdG, gdG1, gnG, gnG1, List.getD_cons_zero, List.getD_cons_succ, List.getElem?_cons_succ, List.getElem?_cons_zero, Option.map_some, Option.getD_some, valsG, List.map_cons, List.map_nil, List.length_cons, List.length_nil] at hd; have d4 := hd; clear hd; subst d4; clear hs; simp only [fillG, List.set_cons_zero, List.set_cons_succ]; refine want_n rfl ?_; go_wp2_with (first | fail); simp only [DoneG, fillG, List.set_cons_zero, List.set_cons_succ, relG, eqG, eqG1, eqG2, eqG3, gdG, gdG1, gnG, gnG1, List.getD_cons_zero, List.getD_cons_succ, List.getElem?_cons_succ, List.getElem?_cons_zero, Option.map_some, Option.getD_some, valsG, List.map_cons, List.map_nil, List.length_cons, List.length_nil]; exact ⟨_, rfl, (by first | with_reducible assumption | exact krg _ | exact Keep.al (krg _) _), fun _ _ => rfl⟩)
      · (intro us W h9 hW hE hd hs K hK; obtain ⟨u0, u1, u2, u3, u4, u5, u6, u7, u8, u9, u10, u11, u12, u13, u14, u15, u16, u17, u18, u19, u20, u21, rfl⟩ := rog 22 h9 rfl; clear h9; simp only [DepG, AtG, and_true, relG, eqG, eqG1, eqG2, eqG3, gdG, gdG1, gnG, gnG1, List.getD_cons_zero, List.getD_cons_succ, List.getElem?_cons_succ, List.getElem?_cons_zero, Option.map_some, Option.getD_some, valsG, List.map_cons, List.map_nil, List.length_cons, List.length_nil] at hd; have d5 := hd; clear hd; subst d5; clear hs; simp only [fillG, List.set_cons_zero, List.set_cons_succ]; refine want_y rfl ?_; go_wp2_with (first | fail); simp only [DoneG, fillG, List.set_cons_zero, List.set_cons_succ, relG, eqG, eqG1, eqG2, eqG3, gdG, gdG1, gnG, gnG1, List.getD_cons_zero, List.getD_cons_succ, List.getElem?_cons_succ, List.getElem?_cons_zero, Option.map_some, Option.getD_some, valsG, List.map_cons, List.map_nil, List.length_cons, List.length_nil]; exact ⟨_, rfl, (by first | with_reducible assumption | exact krg _ | exact Keep.al (krg _) _), fun _ _ => rfl⟩)
      · (intro us W h9 hW hE hd hs K hK; obtain ⟨u0, u1, u2, u3, u4, u5, u6, u7, u8, u9, u10, u11, u12, u13, u14, u15, u16, u17, u18, u19, u20, u21, rfl⟩ := rog 22 h9 rfl; clear h9; simp only [DepG, AtG, and_true, relG, eqG, eqG1, eqG2, eqG3, gdG, gdG1, gnG, gnG1, List.getD_cons_zero, List.getD_cons_succ, List.getElem?_cons_succ, List.getElem?_cons_zero, Option.map_some, Option.getD_some, valsG, List.map_cons, List.map_nil, List.length_cons, List.length_nil] at hd; have d5 := hd; clear hd; subst d5; clear hs; simp only [fillG, List.set_cons_zero, List.set_cons_succ]; refine want_y rfl ?_; go_wp2_with (first | fail); simp only [DoneG, fillG, List.set_cons_zero, List.set_cons_succ, relG, eqG, eqG1, eqG2, eqG3, gdG, gdG1, gnG, gnG1, List.getD_cons_zero, List.getD_cons_succ, List.getElem?_cons_succ, List.getElem?_cons_zero, Option.map_some, Option.getD_some, valsG, List.map_cons, List.map_nil, List.length_cons, List.length_nil]; exact ⟨_, rfl, (by first | with_reducible assumption | exact krg _ | exact Keep.al (krg _) _), fun _ _ => rfl⟩)
      · (intro us W h9 hW hE hd hs K hK; obtain ⟨u0, u1, u2, u3, u4, u5, u6, u7, u8, u9, u10, u11, u12, u13, u14, u15, u16, u17, u18, u19, u20, u21, rfl⟩ := rog 22 h9 rfl; clear h9; simp only [DepG, AtG, and_true, relG, eqG, eqG1, eqG2, eqG3, gdG, gdG1, gnG, gnG1, List.getD_cons_zero, List.getD_cons_succ, List.getElem?_cons_succ, List.getElem?_cons_zero, Option.map_some, Option.getD_some, valsG, List.map_cons, List.map_nil, List.length_cons, List.length_nil] at hd; obtain ⟨d5, d6, d7⟩ := hd; subst d5; subst d6; subst d7; clear hs; simp only [fillG, List.set_cons_zero, List.set_cons_succ]; have hKW := Keep.tr (Keep.dr (Keep.rf _)) (hE rfl); have a0 := Keep.cell hKW a0; have a1 := Keep.cell hKW a1; have a2 := Keep.cell hKW a2; refine want_y rfl ?_; go_wp2_with (first | fail); simp only [DoneG, fillG, List.set_cons_zero, List.set_cons_succ, relG, eqG, eqG1, eqG2, eqG3, gdG, gdG1, gnG, gnG1, List.getD_cons_zero, List.getD_cons_succ, List.getElem?_cons_succ, List.getElem?_cons_zero, Option.map_some, Option.getD_some, valsG, List.map_cons, List.map_nil, List.length_cons, List.length_nil]; exact ⟨_, rfl, (by first | with_reducible assumption | exact krg _ | exact Keep.al (krg _) _), fun _ _ => rfl⟩)
      · (intro us W h9 hW hE hd hs K hK; obtain ⟨u0, u1, u2, u3, u4, u5, u6, u7, u8, u9, u10, u11, u12, u13, u14, u15, u16, u17, u18, u19, u20, u21, rfl⟩ := rog 22 h9 rfl; clear h9; simp only [DepG, AtG, and_true, relG, eqG, eqG1, eqG2, eqG3, gdG, gdG1, gnG, gnG1, List.getD_cons_zero, List.getD_cons_succ, List.getElem?_cons_succ, List.getElem?_cons_zero, Option.map_some, Option.getD_some, valsG, List.map_cons, List.map_nil, List.length_cons, List.length_nil] at hd; obtain ⟨d5, d8⟩ := hd; subst d5; subst d8; clear hs; simp only [fillG, List.set_cons_zero, List.set_cons_succ]; refine want_n rfl ?_; go_wp2_with (first | fail); simp only [DoneG, fillG, List.set_cons_zero, List.set_cons_succ, relG, eqG, eqG1, eqG2, eqG3, gdG, gdG1, gnG, gnG1, List.getD_cons_zero, List.getD_cons_succ, List.getElem?_cons_succ, List.getElem?_cons_zero, Option.map_some, Option.getD_some, valsG, List.map_cons, List.map_nil, List.length_cons, List.length_nil]; exact ⟨_, rfl, (by first | with_reducible assumption | exact krg _ | exact Keep.al (krg _) _), fun _ _ => rfl⟩)
      · (intro us W h9 hW hE hd hs K hK; obtain ⟨u0, u1, u2, u3, u4, u5, u6, u7, u8, u9, u10, u11, u12, u13, u14, u15, u16, u17, u18, u19, u20, u21, rfl⟩ := rog 22 h9 rfl; clear h9; simp only [DepG, AtG, and_true, relG, eqG, eqG1, eqG2, eqG3, gdG, gdG1, gnG, gnG1, List.getD_cons_zero, List.getD_cons_succ, List.getElem?_cons_succ, List.getElem?_cons_zero, Option.map_some, Option.getD_some, valsG, List.map_cons, List.map_nil, List.length_cons, List.length_nil] at hd; have d9 := hd; clear hd; subst d9; clear hs; simp only [fillG, List.set_cons_zero, List.set_cons_succ]; refine want_n rfl ?_; go_wp2_with (first | fail); simp only [DoneG, fillG, List.set_cons_zero, List.set_cons_succ, relG, eqG, eqG1, eqG2, eqG3, gdG, gdG1, gnG, gnG1, List.getD_cons_zero, List.getD_cons_succ, List.getElem?_cons_succ, List.getElem?_cons_zero, Option.map_some, Option.getD_some, valsG, List.map_cons, List.map_nil, List.length_cons, List.length_nil]; exact ⟨_, rfl, (by first | with_reducible assumption | exact krg _ | exact Keep.al (krg _) _), fun _ _ => rfl⟩)
      · (intro us W h9 hW hE hd hs K hK; obtain ⟨u0, u1, u2, u3, u4, u5, u6, u7, u8, u9, u10, u11, u12, u13, u14, u15, u16, u17, u18, u19, u20, u21, rfl⟩ := rog 22 h9 rfl; clear h9; simp only [DepG, AtG, and_true, relG, eqG, eqG1, eqG2, eqG3, gdG, gdG1, gnG, gnG1, List.getD_cons_zero, List.getD_cons_succ, List.getElem?_cons_succ, List.getElem?_cons_zero, Option.map_some, Option.getD_some, valsG, List.map_cons, List.map_nil, List.length_cons, List.length_nil] at hd; have d10 := hd; clear hd; subst d10; clear hs; simp only [fillG, List.set_cons_zero, List.set_cons_succ]; refine want_y rfl ?_; go_wp2_with (first | fail); simp only [DoneG, fillG, List.set_cons_zero, List.set_cons_succ, relG, eqG, eqG1, eqG2, eqG3, gdG, gdG1, gnG, gnG1, List.getD_cons_zero, List.getD_cons_succ, List.getElem?_cons_succ, List.getElem?_cons_zero, Option.map_some, Option.getD_some, valsG, List.map_cons, List.map_nil, List.length_cons, List.length_nil]; exact ⟨_, rfl, (by first | with_reducible assumption | exact krg _ | exact Keep.al (krg _) _), fun _ _ => rfl⟩)
      · (intro us W h9 hW hE hd hs K hK; obtain ⟨u0, u1, u2, u3, u4, u5, u6, u7, u8, u9, u10, u11, u12, u13, u14, u15, u16, u17, u18, u19, u20, u21, rfl⟩ := rog 22 h9 rfl; clear h9; simp only [DepG, AtG, and_true, relG, eqG, eqG1, eqG2, eqG3, gdG, gdG1, gnG, gnG1, List.getD_cons_zero, List.getD_cons_succ, List.getElem?_cons_succ, List.getElem?_cons_zero, Option.map_some, Option.getD_some, valsG, List.map_cons, List.map_nil, List.length_cons, List.length_nil] at hd; have d10 := hd; clear hd; subst d10; clear hs; simp only [fillG, List.set_cons_zero, List.set_cons_succ]; refine want_y rfl ?_; go_wp2_with (first | fail); simp only [DoneG, fillG, List.set_cons_zero, List.set_cons_succ, relG, eqG, eqG1, eqG2, eqG3, gdG, gdG1, gnG, gnG1, List.getD_cons_zero, List.getD_cons_succ, List.getElem?_cons_succ, List.getElem?_cons_zero, Option.map_some, Option.getD_some, valsG, List.map_cons, List.map_nil, List.length_cons, List.length_nil]; exact ⟨_, rfl, (by first | with_reducible assumption | exact krg _ | exact Keep.al (krg _) _), fun _ _ => rfl⟩)
      · (intro us W h9 hW hE hd hs K hK; obtain ⟨u0, u1, u2, u3, u4, u5, u6, u7, u8, u9, u10, u11, u12, u13, u14, u15, u16, u17, u18, u19, u20, u21, rfl⟩ := rog 22 h9 rfl; clear h9; simp only [DepG, AtG, and_true, relG, eqG, eqG1, eqG2, eqG3, gdG, gdG1, gnG, gnG1, List.getD_cons_zero, List.getD_cons_succ, List.getElem?_cons_succ, List.getElem?_cons_zero, Option.map_some, Option.getD_some, valsG, List.map_cons, List.map_nil, List.length_cons, List.length_nil] at hd; obtain ⟨d10, d11, d12⟩ := hd; subst d10; subst d11; subst d12; clear hs; simp only [fillG, List.set_cons_zero, List.set_cons_succ]; have hKW := Keep.tr (Keep.dr (Keep.rf _)) (hE rfl); have a0 := Keep.cell hKW a0; have a1 := Keep.cell hKW a1; have a2 := Keep.cell hKW a2; refine want_y rfl ?_; go_wp2_with (first | fail); simp only [DoneG, fillG, List.set_cons_zero, List.set_cons_succ, relG, eqG, eqG1, eqG2, eqG3, gdG, gdG1, gnG, gnG1, List.getD_cons_zero, List.getD_cons_succ, List.getElem?_cons_succ, List.getElem?_cons_zero, Option.map_some, Option.getD_some, valsG, List.map_cons, List.map_nil, List.length_cons, List.length_nil]; exact ⟨_, rfl, (by first | with_reducible assumption | exact krg _ | exact Keep.al (krg _) _), fun _ _ => rfl⟩)
      · (intro us W h9 hW hE hd hs K hK; obtain ⟨u0, u1, u2, u3, u4, u5, u6, u7, u8, u9, u10, u11, u12, u13, u14, u15, u16, u17, u18, u19, u20, u21, rfl⟩ := rog 22 h9 rfl; clear h9; simp only [DepG, AtG, and_true, relG, eqG, eqG1, eqG2, eqG3, gdG, gdG1, gnG, gnG1, List.getD_cons_zero, List.getD_cons_succ, List.getElem?_cons_succ, List.getElem?_cons_zero, Option.map_some, Option.getD_some, valsG, List.map_cons, List.map_nil, List.length_cons, List.length_nil] at hd; obtain ⟨d10, d13⟩ := hd; subst d10; subst d13; clear hs; simp only [fillG, List.set_cons_zero, List.set_cons_succ]; refine want_n rfl ?_; go_wp2_with (first | fail); simp only [DoneG, fillG, List.set_cons_zero, List.set_cons_succ, relG, eqG, eqG1, eqG2, eqG3, gdG, gdG1, gnG, gnG1, List.getD_cons_zero, List.getD_cons_succ, List.getElem?_cons_succ, List.getElem?_cons_zero, Option.map_some, Option.getD_some, valsG, List.map_cons, List.map_nil, List.length_cons, List.length_nil]; exact ⟨_, rfl, (by first | with_reducible assumption | exact krg _ | exact Keep.al (krg _) _), fun _ _ => rfl⟩)
      · (intro us W h9 hW hE hd hs K hK; obtain ⟨u0, u1, u2, u3, u4, u5, u6, u7, u8, u9, u10, u11, u12, u13, u14, u15, u16, u17, u18, u19, u20, u21, rfl⟩ := rog 22 h9 rfl; clear h9; simp only [DepG, AtG, and_true, relG, eqG, eqG1, eqG2, eqG3, gdG, gdG1, gnG, gnG1, List.getD_cons_zero, List.getD_cons_succ, List.getElem?_cons_succ, List.getElem?_cons_zero, Option.map_some, Option.getD_some, valsG, List.map_cons, List.map_nil, List.length_cons, List.length_nil] at hd; have d14 := hd; clear hd; subst d14; clear hs; simp only [fillG, List.set_cons_zero, List.set_cons_succ]; refine want_n rfl ?_; go_wp2_with (first | fail); simp only [DoneG, fillG, List.set_cons_zero, List.set_cons_succ, relG, eqG, eqG1, eqG2, eqG3, gdG, gdG1, gnG, gnG1, List.getD_cons_zero, List.getD_cons_succ, List.getElem?_cons_succ, List.getElem?_cons_zero, Option.map_some, Option.getD_some, valsG, List.map_cons, List.map_nil, List.length_cons, List.length_nil]; exact ⟨_, rfl, (by first | with_reducible assumption | exact krg _ | exact Keep.al (krg _) _), fun _ _ => rfl⟩)
      · (intro us W h9 hW hE hd hs K hK; obtain ⟨u0, u1, u2, u3, u4, u5, u6, u7, u8, u9, u10, u11, u12, u13, u14, u15, u16, u17, u18, u19, u20, u21, rfl⟩ := rog 22 h9 rfl; clear h9; simp only [DepG, AtG, and_true, relG, eqG, eqG1, eqG2, eqG3, gdG, gdG1, gnG, gnG1, List.getD_cons_zero, List.getD_cons_succ, List.getElem?_cons_succ, List.getElem?_cons_zero, Option.map_some, Option.getD_some, valsG, List.map_cons, List.map_nil, List.length_cons, List.length_nil] at hd; have d15 := hd; clear hd; subst d15; clear hs; simp only [fillG, List.set_cons_zero, List.set_cons_succ]; refine want_y rfl ?_; go_wp2_with (first | fail); simp only [DoneG, fillG, List.set_cons_zero, List.set_cons_succ, relG, eqG, eqG1, eqG2, eqG3, gdG, gdG1, gnG, gnG1, List.getD_cons_zero, List.getD_cons_succ, List.getElem?_cons_succ, List.getElem?_cons_zero, Option.map_some, Option.getD_some, valsG, List.map_cons, List.map_nil, List.length_cons, List.length_nil]; exact ⟨_, rfl, (by first | with_reducible assumption | exact krg _ | exact Keep.al (krg _) _), fun _ _ => rfl⟩)
      · (intro us W h9 hW hE hd hs K hK; obtain ⟨u0, u1, u2, u3, u4, u5, u6, u7, u8, u9, u10, u11, u12, u13, u14, u15, u16, u17, u18, u19, u20, u21, rfl⟩ := rog 22 h9 rfl; clear h9; simp only [DepG, AtG, and_true, relG, eqG, eqG1, eqG2, eqG3, gdG, gdG1, gnG, gnG1, List.getD_cons_zero, List.getD_cons_succ, List.getElem?_cons_succ, List.getElem?_cons_zero, Option.map_some, Option.getD_some, valsG, List.map_cons, List.map_nil, List.length_cons, List.length_nil] at hd; obtain ⟨d15, d16⟩ := hd; subst d15; subst d16; clear hs; simp only [fillG, List.set_cons_zero, List.set_cons_succ]; have hKW := Keep.tr (Keep.dr (Keep.rf _)) (hE rfl); have a0 := Keep.cell hKW a0; have a1 := Keep.cell hKW a1; have a2 := Keep.cell hKW a2; refine want_y rfl ?_; go_wp2_with (first | (go_at_call 26; refine (heapUsed _ (HB6.out.1.keep hKW)).mono ?_; rintro e w9 ⟨rfl, rfl⟩; rw [HUS.out]) | fail); simp only [DoneG, fillG, List.set_cons_zero, List.set_cons_succ, relG, eqG, eqG1, eqG2, eqG3, gdG, gdG1, gnG, gnG1, List.getD_cons_zero, List.getD_cons_succ, List.getElem?_cons_succ, List.getElem?_cons_zero, Option.map_some, Option.getD_some, valsG, List.map_cons, List.map_nil, List.length_cons, List.length_nil]; exact ⟨_, rfl, (by first | with_reducible assumption | exact krg _ | exact Keep.al (krg _) _), fun _ _ => rfl⟩)
      · (intro us W h9 hW hE hd hs K hK; obtain ⟨u0, u1, u2, u3, u4, u5, u6, u7, u8, u9, u10, u11, u12, u13, u14, u15, u16, u17, u18, u19, u20, u21, rfl⟩ := rog 22 h9 rfl; clear h9; simp only [DepG, AtG, and_true, relG, eqG, eqG1, eqG2, eqG3, gdG, gdG1, gnG, gnG1, List.getD_cons_zero, List.getD_cons_succ, List.getElem?_cons_succ, List.getElem?_cons_zero, Option.map_some, Option.getD_some, valsG, List.map_cons, List.map_nil, List.length_cons, List.length_nil] at hd; have d15 := hd; clear hd; subst d15; clear hs; simp only [fillG, List.set_cons_zero, List.set_cons_succ]; refine want_y rfl ?_; go_wp2_with (first | fail); simp only [DoneG, fillG, List.set_cons_zero, List.set_cons_succ, relG, eqG, eqG1, eqG2, eqG3, gdG, gdG1, gnG, gnG1, List.getD_cons_zero, List.getD_cons_succ, List.getElem?_cons_succ, List.getElem?_cons_zero, Option.map_some, Option.getD_some, valsG, List.map_cons, List.map_nil, List.length_cons, List.length_nil]; exact ⟨_, rfl, (by first | with_reducible assumption | exact krg _ | exact Keep.al (krg _) _), fun _ _ => rfl⟩)
      · (intro us W h9 hW hE hd hs K hK; obtain ⟨u0, u1, u2, u3, u4, u5, u6, u7, u8, u9, u10, u11, u12, u13, u14, u15, u16, u17, u18, u19, u20, u21, rfl⟩ := rog 22 h9 rfl; clear h9; simp only [DepG, AtG, and_true, relG, eqG, eqG1, eqG2, eqG3, gdG, gdG1, gnG, gnG1, List.getD_cons_zero, List.getD_cons_succ, List.getElem?_cons_succ, List.getElem?_cons_zero, Option.map_some, Option.getD_some, valsG, List.map_cons, List.map_nil, List.length_cons, List.length_nil] at hd; obtain ⟨d15, d18⟩ := hd; subst d15; subst d18; clear hs; simp only [fillG, List.set_cons_zero, List.set_cons_succ]; have hKW := Keep.tr (Keep.dr (Keep.rf _)) (hE rfl); have a0 := Keep.cell hKW a0; have a1 := Keep.cell hKW a1; have a2 := Keep.cell hKW a2; refine want_y rfl ?_; go_wp2_with (first | (go_at_call 36; refine (refUsed _ (HB6.out.2.1.keep hKW)).mono ?_; rintro e w9 ⟨rfl, rfl⟩; rw [HUS.out]) | fail); simp only [DoneG, fillG, List.set_cons_zero, List.set_cons_succ, relG, eqG, eqG1, eqG2, eqG3, gdG, gdG1, gnG, gnG1, List.getD_cons_zero, List.getD_cons_succ, List.getElem?_cons_succ, List.getElem?_cons_zero, Option.map_some, Option.getD_some, valsG, List.map_cons, List.map_nil, List.length_cons, List.length_nil]; exact ⟨_, rfl, (by first | with_reducible assumption | exact krg _ | exact Keep.al (krg _) _), fun _ _ => rfl⟩)
      · (intro us W h9 hW hE hd hs K hK; obtain ⟨u0, u1, u2, u3, u4, u5, u6, u7, u8, u9, u10, u11, u12, u13, u14, u15, u16, u17, u18, u19, u20, u21, rfl⟩ := rog 22 h9 rfl; clear h9; simp only [DepG, AtG, and_true, relG, eqG, eqG1, eqG2, eqG3, gdG, gdG1, gnG, gnG1, List.getD_cons_zero, List.getD_cons_succ, List.getElem?_cons_succ, List.getElem?_cons_zero, Option.map_some, Option.getD_some, valsG, List.map_cons, List.map_nil, List.length_cons, List.length_nil] at hd; obtain ⟨d15, d17, d19⟩ := hd; subst d15; subst d17; subst d19; clear hs; simp only [fillG, List.set_cons_zero, List.set_cons_succ]; have hKW := Keep.tr (Keep.dr (Keep.rf _)) (hE rfl); have a0 := Keep.cell hKW a0; have a1 := Keep.cell hKW a1; have a2 := Keep.cell hKW a2; refine want_y rfl ?_; go_wp2_with (first | fail); simp only [DoneG, fillG, List.set_cons_zero, List.set_cons_succ, relG, eqG, eqG1, eqG2, eqG3, gdG, gdG1, gnG, gnG1, List.getD_cons_zero, List.getD_cons_succ, List.getElem?_cons_succ, List.getElem?_cons_zero, Option.map_some, Option.getD_some, valsG, List.map_cons, List.map_nil, List.length_cons, List.length_nil]; exact ⟨_, rfl, (by first | with_reducible assumption | exact krg _ | exact Keep.al (krg _) _), fun _ _ => rfl⟩)
      · (intro us W h9 hW hE hd hs K hK; obtain ⟨u0, u1, u2, u3, u4, u5, u6, u7, u8, u9, u10, u11, u12, u13, u14, u15, u16, u17, u18, u19, u20, u21, rfl⟩ := rog 22 h9 rfl; clear h9; simp only [DepG, AtG, and_true, relG, eqG, eqG1, eqG2, eqG3, gdG, gdG1, gnG, gnG1, List.getD_cons_zero, List.getD_cons_succ, List.getElem?_cons_succ, List.getElem?_cons_zero, Option.map_some, Option.getD_some, valsG, List.map_cons, List.map_nil, List.length_cons, List.length_nil] at hd; obtain ⟨d15, d20⟩ := hd; subst d15; subst d20; clear hs; simp only [fillG, List.set_cons_zero, List.set_cons_succ]; refine want_n rfl ?_; go_wp2_with (first | fail); simp only [DoneG, fillG, List.set_cons_zero, List.set_cons_succ, relG, eqG, eqG1, eqG2, eqG3, gdG, gdG1, gnG, gnG1, List.getD_cons_zero, List.getD_cons_succ, List.getElem?_cons_succ, List.getElem?_cons_zero, Option.map_some, Option.getD_some, valsG, List.map_cons, List.map_nil, List.length_cons, List.length_nil]; exact ⟨_, rfl, (by first | with_reducible assumption | exact krg _ | exact Keep.al (krg _) _), fun _ _ => rfl⟩)
    (intro us W9 h9 hW hE hA; obtain ⟨u0, u1, u2, u3, u4, u5, u6, u7, u8, u9, u10, u11, u12, u13, u14, u15, u16, u17, u18, u19, u20, u21, rfl⟩ := rog 22 h9 rfl; clear h9; simp only [AllG, AtG, and_true, relG, eqG, eqG1, eqG2, eqG3, gdG, gdG1, gnG, gnG1, List.getD_cons_zero, List.getD_cons_succ, List.getElem?_cons_succ, List.getElem?_cons_zero, Option.map_some, Option.getD_some, valsG, List.map_cons, List.map_nil, List.length_cons, List.length_nil] at hA; have d21 := hA; clear hA; subst d21; simp only [fillG, List.set_cons_zero, List.set_cons_succ]; have k9 := Keep.tr (Keep.dr (Keep.rf _)) hW; clear hW hE)
    have HB9 := hide (HB6.out.keep k9)
    have K29 := hide (Keep.tr K26.out k9)
    clear HB6 K26 k9 a0 a1 a2 hbb hcc hww huu
    have a0 := Keep.cell K29.out hA2.out.1
    have a1 := Keep.cell K29.out hA2.out.2.1
    have a2 := Keep.cell K29.out hA2.out.2.2
    rcases HCS.out with ⟨c9, hc9, e9⟩ | ⟨hig, hnd, e9⟩ | h9
    · obtain ⟨rfl, rfl, rfl⟩ : ow = 0 ∧ oc = c9 ∧ oH = [] := by simpa using e9
      have hcn : (oc != 0) = true := by rcases hc9 with rfl | rfl <;> rfl
      clear e9 hc9 HCS
      go_wp2_with fail
      refine (heapUsed _ HB9.out.1).mono ?_
      rintro e w10 ⟨rfl, rfl⟩
      rw [show ((Em.used ([] : Em.Hp) : Nat) : Int) = 0 from rfl]
      go_wp2_with fail
      refine (law18Known _).mono ?_
      rintro e w11 ⟨rfl, k11⟩
      go_wp2_with fail
      go_ret
      exact ⟨rfl, Keep.tr HB9.out.2.2.2.2.2 k11⟩
    · obtain ⟨e1, rfl, e3⟩ : ow = _ ∧ oc = 0 ∧ oH = _ := by simpa using e9
      have HOF := hide (show Em.ofH oH ow = (g, 0) from by rw [e1, e3]; exact Em.of_build (HIG.out.trans hig) (by have := HSM.out.1; omega))
      have hwf := hide (show (Lit.int .i64 ow).wf = true from by rw [e1]; exact wordG_wf (Em.addrs_wf (by omega)) _)
      clear e9 e1 e3 HCS
      go_wp2_with fail
      refine (shapeOf _ HB9.out.1 ow hwf.out).mono ?_
      rintro e w10 ⟨a, rfl, hga, k10⟩
      rw [HOF.out] at hga ⊢
      have HGA := hide hga
      obtain ⟨ua, rfl, _, ⟨aA, ac, rfl, _⟩⟩ := hga
      simp only
      have ka := Keep.al (Keep.rf w10) (.cells #[.bool g.root.1, .int .i64 g.root.2, .slice aA g.blocks.length ac] 34)
      have hxa := heap_alloc_new w10 (.cells #[.bool g.root.1, .int .i64 g.root.2, .slice aA g.blocks.length ac] 34)
      have y0 := top_cells hxa 0
      have y1 := top_cells hxa 1
      have y2 := top_cells hxa 2
      simp only [List.getElem?_toArray, List.getElem?_cons_succ, List.getElem?_cons_zero] at y0 y1 y2
      have k1a := Keep.tr k10 ka
      replace a0 := Keep.cell k1a a0
      replace a1 := Keep.cell k1a a1
      replace a2 := Keep.cell k1a a2
      have HGA2 := hide (HGA.out.keep ka)
      have K12 := hide (Keep.tr HB9.out.2.2.2.2.2 k1a)
      clear ka hxa k1a k10 HGA
      go_wp2_with fail
      refine (refSame18 g g _ _ _ HGA2.out (HG.out.keep K12.out)).mono ?_
      rintro e w13 ⟨rfl, k13⟩
      rw [decide_eq_true rfl]
      go_wp2_with fail
      refine (law18Known _).mono ?_
      rintro e w11 ⟨rfl, k11⟩
      go_wp2_with fail
      go_ret
      exact ⟨rfl, Keep.tr K12.out (Keep.tr k13 k11)⟩
    · exact absurd h9 (Nat.not_lt_zero _)
end Go.Proofs.Ytilhglnfjaablaa
