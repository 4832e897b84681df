/- The law MarkSame: walk. -/
import Derived.Test.YtcbkklfdeloeeaaMarkK
namespace Go.Proofs.Ytcbkklfdeloeeaa
open Go.RowKit
open Em (Ty)
set_option linter.unusedVariables false
set_option linter.unusedSimpArgs false
set_option maxRecDepth 100000
set_option maxHeartbeats 8000000 in
theorem MarkSame_walk0 (d : Nat) (w : World) (cs cs' : List Value) (a b : Ty) (h : TyK d w cs a) (h' : TyK d w cs' b) : Calls Try.prog 4 #[.agg cs.toArray, .agg cs'.toArray] w fun e w' => e = .returned (.bool true) ∧ Keep w w' := by
  cases d with
  | zero => exact h.elim
  | succ d =>
    have HA := hide h
    have HB := hide h'
    have SA := hide fun W (k : Keep w W) => refSizeT (d + 1) a W cs 101 (h.keep k) (by omega) (by omega)
    have SB := hide fun W (k : Keep w W) => refSizeT (d + 1) b W cs' 101 (h'.keep k) (by omega) (by omega)
    have IA := hide fun W (k : Keep w W) => refIsT a W _ ⟨d + 1, cs, rfl, h.keep k⟩
    have IB := hide fun W (k : Keep w W) => refIsT b W _ ⟨d + 1, cs', rfl, h'.keep k⟩
    obtain ⟨kv, rfl, kn, kA, kc, rfl, _⟩ := h
    obtain ⟨kv', rfl, kn', kA', kc', rfl, _⟩ := h'
    generalize hsa : Em.sz 101 a = sa at *
    generalize hsb : Em.sz 101 b = sb at *
    by_cases g1 : 100 < sa
    · go_enter Try.func4, Try.ntmps4
      go_wp2_with fail
      refine (SA.out _ (by repeat (first | exact Keep.rf _ | assumption | apply Keep.al | apply Keep.dr | apply Keep.dn))).mono ?_
      rintro e w1 ⟨rfl, k1⟩
      go_wp2_with fail
      go_ret
      exact ⟨rfl, Keep.tr (by repeat (first | exact Keep.rf _ | assumption | apply Keep.al | apply Keep.dr | apply Keep.dn)) k1⟩
    by_cases g2 : 100 < sb
    · go_enter Try.func4, Try.ntmps4
      go_wp2_with fail
      generalize hW0 : World.alloc (World.alloc w _) _ = W0
      have k0 : Keep w W0 := by rw [← hW0]; exact (by repeat (first | exact Keep.rf _ | assumption | apply Keep.al | apply Keep.dr | apply Keep.dn))
      have b0 : W0.cell? ⟨w.heap.size + 1, 0, none⟩ = some (.string (str b.op)) := by rw [← hW0]; exact lit_cells (by simp) _ rfl
      have b1 : W0.cell? ⟨w.heap.size + 1, 1, none⟩ = some (.int .i64 b.n) := by rw [← hW0]; exact lit_cells (by simp) _ rfl
      have b2 : W0.cell? ⟨w.heap.size + 1, 2, none⟩ = some (.slice kA' b.kids.length kc') := by rw [← hW0]; exact lit_cells (by simp) _ rfl
      clear hW0
      refine (SA.out _ k0).mono ?_
      rintro e w1 ⟨rfl, k1⟩
      have k01 := Keep.tr k0 k1
      replace b0 := Keep.cell k1 b0
      replace b1 := Keep.cell k1 b1
      replace b2 := Keep.cell k1 b2
      go_wp2_with fail
      refine (SB.out _ k01).mono ?_
      rintro e w2 ⟨rfl, k2⟩
      go_wp2_with fail
      go_ret
      exact ⟨rfl, Keep.tr k01 k2⟩
    have hxs : ∀ x : Bool, decide (Em.bytesT a = Em.bytesT b) = x → ((str (Em.bytesT a)).toList == (str (Em.bytesT b)).toList) = x := fun x hx => by rw [str_lbeq]; exact hx
    go_enter Try.func4, Try.ntmps4
    go_wp2_with fail
    generalize hW0 : World.alloc (World.alloc w _) _ = W0
    have k0 : Keep w W0 := by rw [← hW0]; exact (by repeat (first | exact Keep.rf _ | assumption | apply Keep.al | apply Keep.dr | apply Keep.dn))
    have b0 : W0.cell? ⟨w.heap.size + 1, 0, none⟩ = some (.string (str b.op)) := by rw [← hW0]; exact lit_cells (by simp) _ rfl
    have b1 : W0.cell? ⟨w.heap.size + 1, 1, none⟩ = some (.int .i64 b.n) := by rw [← hW0]; exact lit_cells (by simp) _ rfl
    have b2 : W0.cell? ⟨w.heap.size + 1, 2, none⟩ = some (.slice kA' b.kids.length kc') := by rw [← hW0]; exact lit_cells (by simp) _ rfl
    have a0 : W0.cell? ⟨w.heap.size, 0, none⟩ = some (.string (str a.op)) := by rw [← hW0]; exact Keep.cell (Keep.al (Keep.rf _) _) (lit_cells rfl _ rfl)
    have a1 : W0.cell? ⟨w.heap.size, 1, none⟩ = some (.int .i64 a.n) := by rw [← hW0]; exact Keep.cell (Keep.al (Keep.rf _) _) (lit_cells rfl _ rfl)
    have a2 : W0.cell? ⟨w.heap.size, 2, none⟩ = some (.slice kA a.kids.length kc) := by rw [← hW0]; exact Keep.cell (Keep.al (Keep.rf _) _) (lit_cells rfl _ rfl)
    clear hW0
    refine (SA.out _ k0).mono ?_
    rintro e w1 ⟨rfl, k1⟩
    have k01 := Keep.tr k0 k1
    replace b0 := Keep.cell k1 b0
    replace b1 := Keep.cell k1 b1
    replace b2 := Keep.cell k1 b2
    replace a0 := Keep.cell k1 a0
    replace a1 := Keep.cell k1 a1
    replace a2 := Keep.cell k1 a2
    go_wp2_with fail
    refine (SB.out _ k01).mono ?_
    rintro e w2 ⟨rfl, k2⟩
    have k02 := Keep.tr k01 k2
    replace b0 := Keep.cell k2 b0
    replace b1 := Keep.cell k2 b1
    replace b2 := Keep.cell k2 b2
    replace a0 := Keep.cell k2 a0
    replace a1 := Keep.cell k2 a1
    replace a2 := Keep.cell k2 a2
    go_wp2_with fail
    refine (IA.out _ k02).mono ?_
    rintro e w3 ⟨rfl, k3⟩
    have k03 := Keep.tr k02 k3
    replace b0 := Keep.cell k3 b0
    replace b1 := Keep.cell k3 b1
    replace b2 := Keep.cell k3 b2
    replace a0 := Keep.cell k3 a0
    replace a1 := Keep.cell k3 a1
    replace a2 := Keep.cell k3 a2
    cases hia : Em.isT a with
    | false =>
      go_wp2_with fail
      go_ret
      exact ⟨rfl, k03⟩
    | true =>
      go_wp2_with fail
      refine (IB.out _ k03).mono ?_
      rintro e w4 ⟨rfl, k4⟩
      have k04 := Keep.tr k03 k4
      replace b0 := Keep.cell k4 b0
      replace b1 := Keep.cell k4 b1
      replace b2 := Keep.cell k4 b2
      replace a0 := Keep.cell k4 a0
      replace a1 := Keep.cell k4 a1
      replace a2 := Keep.cell k4 a2
      cases hib : Em.isT b with
      | false =>
        go_wp2_with fail
        go_ret
        exact ⟨rfl, k04⟩
      | true =>
        have hn1 : nodes a ≤ 100000 := by have := isT_nodes a hia; omega
        have hn2 : nodes b ≤ 100000 := by have := isT_nodes b hib; omega
        have hxe := bytes_same a b hia hib
        obtain ⟨x, hx⟩ : ∃ x, x = decide (Em.bytesT a = Em.bytesT b) := ⟨_, rfl⟩
        have hs := hxs x hx.symm
        rw [← hx] at hxe
        have HXE := hide hxe
        have HS := hide hs
        clear SA SB IA IB hxs hx hxe hs hsa hsb hia hib
        go_wp2_with fail
        apply region_all (by kernel_rfl) Keep Keep krg ktg krg ktg (fun _ _ h => h) [some 23, some 24, some 25, some 26, some 27, some 28, some 29, some 30, some 31, some 32, some 33, some 34, some 35, some 36, some 37, some 38, some 4] [eqG _ , fun us W v => BsAt (Em.bytesT a) W v, fun us _ v => v = .string (str (Em.bytesT a)), eqG _ , fun us W v => BsAt (Em.bytesT b) W v, fun us _ v => v = .string (str (Em.bytesT b)), fun us _ v => v = .bool x, eqG _ , fun us W v => KidAt w (d + 1) (Em.normT a) v W, eqG _ , fun us W v => KidAt w (d + 1) (Em.normT b) v W, fun us _ v => v = .bool x, fun us _ v => v = .bool true, eqG _ , fun us _ v => v = .bool true, eqG _ , eqG _ ] [⟨[], [], true, false, false⟩, ⟨[0], [], true, false, false⟩, ⟨[1], [], true, false, false⟩, ⟨[], [], true, false, false⟩, ⟨[3], [], true, false, false⟩, ⟨[4], [], true, false, false⟩, ⟨[2, 5], [], true, false, false⟩, ⟨[], [], true, false, false⟩, ⟨[7], [], true, false, false⟩, ⟨[], [], true, false, false⟩, ⟨[9], [], true, false, false⟩, ⟨[8, 10], [], true, false, false⟩, ⟨[6, 11], [], true, false, false⟩, ⟨[12], [], true, false, false⟩, ⟨[13], [], true, false, false⟩, ⟨[13, 14], [], true, false, false⟩, ⟨[15], [], true, false, false⟩] [1, 4, 8, 10, 16] (by kernel_rfl) (by kernel_rfl) 
        · refine ⟨?_, ?_, ?_, ?_, ?_, ?_, ?_, ?_, ?_, ?_, ?_, ?_, ?_, ?_, ?_, ?_, ?_, trivial⟩
          · (intro us W h9 hW hE hd hs K hK; obtain ⟨u0, u1, u2, u3, u4, u5, u6, u7, u8, u9, u10, u11, u12, u13, u14, u15, u16, rfl⟩ := rog 17 h9 rfl; clear h9; clear hd; clear hs; simp only [fillG, List.set_cons_zero, List.set_cons_succ]; have hKW := Keep.tr (Keep.dr (Keep.rf _)) (hE rfl); have a0 := Keep.cell hKW a0; have a1 := Keep.cell hKW a1; have a2 := Keep.cell hKW a2; have b0 := Keep.cell hKW b0; have b1 := Keep.cell hKW b1; have b2 := Keep.cell hKW b2; refine want_n rfl ?_; go_wp2_with (first | fail); simp only [DoneG, fillG, List.set_cons_zero, List.set_cons_succ, relG, eqG, eqG1, eqG2, eqG3, gdG, gdG1, gnG, gnG1, List.getD_cons_zero, List.getD_cons_succ, List.getElem?_cons_succ, List.getElem?_cons_zero, Option.map_some, Option.getD_some, valsG, List.map_cons, List.map_nil, List.length_cons, List.length_nil]; exact ⟨_, rfl, (by first | with_reducible assumption | exact krg _ | exact Keep.al (krg _) _), fun _ _ => rfl⟩)
          · (intro us W h9 hW hE hd hs K hK; obtain ⟨u0, u1, u2, u3, u4, u5, u6, u7, u8, u9, u10, u11, u12, u13, u14, u15, u16, rfl⟩ := rog 17 h9 rfl; clear h9; simp only [DepG, AtG, and_true, relG, eqG, eqG1, eqG2, eqG3, gdG, gdG1, gnG, gnG1, List.getD_cons_zero, List.getD_cons_succ, List.getElem?_cons_succ, List.getElem?_cons_zero, Option.map_some, Option.getD_some, valsG, List.map_cons, List.map_nil, List.length_cons, List.length_nil] at hd; have d0 := hd; clear hd; subst d0; clear hs; simp only [fillG, List.set_cons_zero, List.set_cons_succ]; have hKW := Keep.tr (Keep.dr (Keep.rf _)) (hE rfl); have a0 := Keep.cell hKW a0; have a1 := Keep.cell hKW a1; have a2 := Keep.cell hKW a2; have b0 := Keep.cell hKW b0; have b1 := Keep.cell hKW b1; have b2 := Keep.cell hKW b2; refine want_n rfl ?_; go_wp2_with (first | (go_at_call 20; refine (markBytes (d + 1) a _ _ (HA.out.keep (Keep.tr k04 hKW))).mono ?_; rintro e w9 ⟨v9, rfl, o9, hk9⟩) | fail); simp only [DoneG, fillG, List.set_cons_zero, List.set_cons_succ, relG, eqG, eqG1, eqG2, eqG3, gdG, gdG1, gnG, gnG1, List.getD_cons_zero, List.getD_cons_succ, List.getElem?_cons_succ, List.getElem?_cons_zero, Option.map_some, Option.getD_some, valsG, List.map_cons, List.map_nil, List.length_cons, List.length_nil]; exact ⟨_, rfl, (by first | with_reducible assumption | exact krg _ | exact Keep.al (krg _) _), fun W9 hk9 => (BsAt.of o9).keep hk9⟩)
          · (intro us W h9 hW hE hd hs K hK; obtain ⟨u0, u1, u2, u3, u4, u5, u6, u7, u8, u9, u10, u11, u12, u13, u14, u15, u16, rfl⟩ := rog 17 h9 rfl; clear h9; simp only [DepG, AtG, and_true, relG, eqG, eqG1, eqG2, eqG3, gdG, gdG1, gnG, gnG1, List.getD_cons_zero, List.getD_cons_succ, List.getElem?_cons_succ, List.getElem?_cons_zero, Option.map_some, Option.getD_some, valsG, List.map_cons, List.map_nil, List.length_cons, List.length_nil] at hd; have d1 := hd; clear hd; obtain ⟨A1, n1, c1, rfl, i1⟩ := d1; clear hs; simp only [fillG, List.set_cons_zero, List.set_cons_succ]; have hKW := Keep.tr (Keep.dr (Keep.rf _)) (hE rfl); have a0 := Keep.cell hKW a0; have a1 := Keep.cell hKW a1; have a2 := Keep.cell hKW a2; have b0 := Keep.cell hKW b0; have b1 := Keep.cell hKW b1; have b2 := Keep.cell hKW b2; refine want_n rfl ?_; have hc := run_conv_bs (P := Try.prog) i1 29 5 9 Try.underlying29 Try.underlying5 Try.underlying9; go_wp2_with fail; simp only [DoneG, fillG, List.set_cons_zero, List.set_cons_succ, relG, eqG, eqG1, eqG2, eqG3, gdG, gdG1, gnG, gnG1, List.getD_cons_zero, List.getD_cons_succ, List.getElem?_cons_succ, List.getElem?_cons_zero, Option.map_some, Option.getD_some, valsG, List.map_cons, List.map_nil, List.length_cons, List.length_nil]; exact ⟨_, rfl, (by first | with_reducible assumption | exact krg _ | exact Keep.al (krg _) _), fun _ _ => rfl⟩)
          · (intro us W h9 hW hE hd hs K hK; obtain ⟨u0, u1, u2, u3, u4, u5, u6, u7, u8, u9, u10, u11, u12, u13, u14, u15, u16, rfl⟩ := rog 17 h9 rfl; clear h9; clear hd; clear hs; simp only [fillG, List.set_cons_zero, List.set_cons_succ]; have hKW := Keep.tr (Keep.dr (Keep.rf _)) (hE rfl); have a0 := Keep.cell hKW a0; have a1 := Keep.cell hKW a1; have a2 := Keep.cell hKW a2; have b0 := Keep.cell hKW b0; have b1 := Keep.cell hKW b1; have b2 := Keep.cell hKW b2; refine want_n rfl ?_; go_wp2_with (first | fail); simp only [DoneG, fillG, List.set_cons_zero, List.set_cons_succ, relG, eqG, eqG1, eqG2, eqG3, gdG, gdG1, gnG, gnG1, List.getD_cons_zero, List.getD_cons_succ, List.getElem?_cons_succ, List.getElem?_cons_zero, Option.map_some, Option.getD_some, valsG, List.map_cons, List.map_nil, List.length_cons, List.length_nil]; exact ⟨_, rfl, (by first | with_reducible assumption | exact krg _ | exact Keep.al (krg _) _), fun _ _ => rfl⟩)
          · (intro us W h9 hW hE hd hs K hK; obtain ⟨u0, u1, u2, u3, u4, u5, u6, u7, u8, u9, u10, u11, u12, u13, u14, u15, u16, rfl⟩ := rog 17 h9 rfl; clear h9; simp only [DepG, AtG, and_true, relG, eqG, eqG1, eqG2, eqG3, gdG, gdG1, gnG, gnG1, List.getD_cons_zero, List.getD_cons_succ, List.getElem?_cons_succ, List.getElem?_cons_zero, Option.map_some, Option.getD_some, valsG, List.map_cons, List.map_nil, List.length_cons, List.length_nil] at hd; have d3 := hd; clear hd; subst d3; clear hs; simp only [fillG, List.set_cons_zero, List.set_cons_succ]; have hKW := Keep.tr (Keep.dr (Keep.rf _)) (hE rfl); have a0 := Keep.cell hKW a0; have a1 := Keep.cell hKW a1; have a2 := Keep.cell hKW a2; have b0 := Keep.cell hKW b0; have b1 := Keep.cell hKW b1; have b2 := Keep.cell hKW b2; refine want_n rfl ?_; go_wp2_with (first | (go_at_call 20; refine (markBytes (d + 1) b _ _ (HB.out.keep (Keep.tr k04 hKW))).mono ?_; rintro e w9 ⟨v9, rfl, o9, hk9⟩) | fail); simp only [DoneG, fillG, List.set_cons_zero, List.set_cons_succ, relG, eqG, eqG1, eqG2, eqG3, gdG, gdG1, gnG, gnG1, List.getD_cons_zero, List.getD_cons_succ, List.getElem?_cons_succ, List.getElem?_cons_zero, Option.map_some, Option.getD_some, valsG, List.map_cons, List.map_nil, List.length_cons, List.length_nil]; exact ⟨_, rfl, (by first | with_reducible assumption | exact krg _ | exact Keep.al (krg _) _), fun W9 hk9 => (BsAt.of o9).keep hk9⟩)
          · (intro us W h9 hW hE hd hs K hK; obtain ⟨u0, u1, u2, u3, u4, u5, u6, u7, u8, u9, u10, u11, u12, u13, u14, u15, u16, rfl⟩ := rog 17 h9 rfl; clear h9; simp only [DepG, AtG, and_true, relG, eqG, eqG1, eqG2, eqG3, gdG, gdG1, gnG, gnG1, List.getD_cons_zero, List.getD_cons_succ, List.getElem?_cons_succ, List.getElem?_cons_zero, Option.map_some, Option.getD_some, valsG, List.map_cons, List.map_nil, List.length_cons, List.length_nil] at hd; have d4 := hd; clear hd; obtain ⟨A4, n4, c4, rfl, i4⟩ := d4; clear hs; simp only [fillG, List.set_cons_zero, List.set_cons_succ]; have hKW := Keep.tr (Keep.dr (Keep.rf _)) (hE rfl); have a0 := Keep.cell hKW a0; have a1 := Keep.cell hKW a1; have a2 := Keep.cell hKW a2; have b0 := Keep.cell hKW b0; have b1 := Keep.cell hKW b1; have b2 := Keep.cell hKW b2; refine want_n rfl ?_; have hc := run_conv_bs (P := Try.prog) i4 29 5 9 Try.underlying29 Try.underlying5 Try.underlying9; go_wp2_with fail; simp only [DoneG, fillG, List.set_cons_zero, List.set_cons_succ, relG, eqG, eqG1, eqG2, eqG3, gdG, gdG1, gnG, gnG1, List.getD_cons_zero, List.getD_cons_succ, List.getElem?_cons_succ, List.getElem?_cons_zero, Option.map_some, Option.getD_some, valsG, List.map_cons, List.map_nil, List.length_cons, List.length_nil]; exact ⟨_, rfl, (by first | with_reducible assumption | exact krg _ | exact Keep.al (krg _) _), fun _ _ => rfl⟩)
          · (intro us W h9 hW hE hd hs K hK; obtain ⟨u0, u1, u2, u3, u4, u5, u6, u7, u8, u9, u10, u11, u12, u13, u14, u15, u16, rfl⟩ := rog 17 h9 rfl; clear h9; simp only [DepG, AtG, and_true, relG, eqG, eqG1, eqG2, eqG3, gdG, gdG1, gnG, gnG1, List.getD_cons_zero, List.getD_cons_succ, List.getElem?_cons_succ, List.getElem?_cons_zero, Option.map_some, Option.getD_some, valsG, List.map_cons, List.map_nil, List.length_cons, List.length_nil] at hd; obtain ⟨d2, d5⟩ := hd; subst d2; subst d5; clear hs; simp only [fillG, List.set_cons_zero, List.set_cons_succ]; have hKW := Keep.tr (Keep.dr (Keep.rf _)) (hE rfl); have a0 := Keep.cell hKW a0; have a1 := Keep.cell hKW a1; have a2 := Keep.cell hKW a2; have b0 := Keep.cell hKW b0; have b1 := Keep.cell hKW b1; have b2 := Keep.cell hKW b2; refine want_n rfl ?_; have hs := HS.out; go_wp2_with fail; simp only [DoneG, fillG, List.set_cons_zero, List.set_cons_succ, relG, eqG, eqG1, eqG2, eqG3, gdG, gdG1, gnG, gnG1, List.getD_cons_zero, List.getD_cons_succ, List.getElem?_cons_succ, List.getElem?_cons_zero, Option.map_some, Option.getD_some, valsG, List.map_cons, List.map_nil, List.length_cons, List.length_nil]; exact ⟨_, rfl, (by first | with_reducible assumption | exact krg _ | exact Keep.al (krg _) _), fun _ _ => rfl⟩)
          · (intro us W h9 hW hE hd hs K hK; obtain ⟨u0, u1, u2, u3, u4, u5, u6, u7, u8, u9, u10, u11, u12, u13, u14, u15, u16, rfl⟩ := rog 17 h9 rfl; clear h9; clear hd; clear hs; simp only [fillG, List.set_cons_zero, List.set_cons_succ]; have hKW := Keep.tr (Keep.dr (Keep.rf _)) (hE rfl); have a0 := Keep.cell hKW a0; have a1 := Keep.cell hKW a1; have a2 := Keep.cell hKW a2; have b0 := Keep.cell hKW b0; have b1 := Keep.cell hKW b1; have b2 := Keep.cell hKW b2; refine want_n rfl ?_; go_wp2_with (first | fail); simp only [DoneG, fillG, List.set_cons_zero, List.set_cons_succ, relG, eqG, eqG1, eqG2, eqG3, gdG, gdG1, gnG, gnG1, List.getD_cons_zero, List.getD_cons_succ, List.getElem?_cons_succ, List.getElem?_cons_zero, Option.map_some, Option.getD_some, valsG, List.map_cons, List.map_nil, List.length_cons, List.length_nil]; exact ⟨_, rfl, (by first | with_reducible assumption | exact krg _ | exact Keep.al (krg _) _), fun _ _ => rfl⟩)
          · (intro us W h9 hW hE hd hs K hK; obtain ⟨u0, u1, u2, u3, u4, u5, u6, u7, u8, u9, u10, u11, u12, u13, u14, u15, u16, rfl⟩ := rog 17 h9 rfl; clear h9; simp only [DepG, AtG, and_true, relG, eqG, eqG1, eqG2, eqG3, gdG, gdG1, gnG, gnG1, List.getD_cons_zero, List.getD_cons_succ, List.getElem?_cons_succ, List.getElem?_cons_zero, Option.map_some, Option.getD_some, valsG, List.map_cons, List.map_nil, List.length_cons, List.length_nil] at hd; have d7 := hd; clear hd; subst d7; clear hs; simp only [fillG, List.set_cons_zero, List.set_cons_succ]; have hKW := Keep.tr (Keep.dr (Keep.rf _)) (hE rfl); have a0 := Keep.cell hKW a0; have a1 := Keep.cell hKW a1; have a2 := Keep.cell hKW a2; have b0 := Keep.cell hKW b0; have b1 := Keep.cell hKW b1; have b2 := Keep.cell hKW b2; refine want_n rfl ?_; go_wp2_with (first | (go_at_call 22; refine (refNorm8 (d + 1) a _ _ (HA.out.keep (Keep.tr k04 hKW)) hn1).mono ?_; rintro e w9 ⟨o9, n9, A9, m9, c9, rfl, f9, hk9⟩) | fail); simp only [DoneG, fillG, List.set_cons_zero, List.set_cons_succ, relG, eqG, eqG1, eqG2, eqG3, gdG, gdG1, gnG, gnG1, List.getD_cons_zero, List.getD_cons_succ, List.getElem?_cons_succ, List.getElem?_cons_zero, Option.map_some, Option.getD_some, valsG, List.map_cons, List.map_nil, List.length_cons, List.length_nil]; exact ⟨_, rfl, (by first | with_reducible assumption | exact krg _ | exact Keep.al (krg _) _), fun W9 hk9 => KidAt.keep ⟨o9, n9, A9, m9, c9, rfl, f9.mono fun q hq => ⟨Nat.le_trans (Keep.tr k04 hKW).size hq.1, hq.2⟩⟩ hk9⟩)
          · (intro us W h9 hW hE hd hs K hK; obtain ⟨u0, u1, u2, u3, u4, u5, u6, u7, u8, u9, u10, u11, u12, u13, u14, u15, u16, rfl⟩ := rog 17 h9 rfl; clear h9; clear hd; clear hs; simp only [fillG, List.set_cons_zero, List.set_cons_succ]; have hKW := Keep.tr (Keep.dr (Keep.rf _)) (hE rfl); have a0 := Keep.cell hKW a0; have a1 := Keep.cell hKW a1; have a2 := Keep.cell hKW a2; have b0 := Keep.cell hKW b0; have b1 := Keep.cell hKW b1; have b2 := Keep.cell hKW b2; refine want_n rfl ?_; go_wp2_with (first | fail); simp only [DoneG, fillG, List.set_cons_zero, List.set_cons_succ, relG, eqG, eqG1, eqG2, eqG3, gdG, gdG1, gnG, gnG1, List.getD_cons_zero, List.getD_cons_succ, List.getElem?_cons_succ, List.getElem?_cons_zero, Option.map_some, Option.getD_some, valsG, List.map_cons, List.map_nil, List.length_cons, List.length_nil]; exact ⟨_, rfl, (by first | with_reducible assumption | exact krg _ | exact Keep.al (krg _) _), fun _ _ => rfl⟩)
          · (intro us W h9 hW hE hd hs K hK; obtain ⟨u0, u1, u2, u3, u4, u5, u6, u7, u8, u9, u10, u11, u12, u13, u14, u15, u16, rfl⟩ := rog 17 h9 rfl; clear h9; simp only [DepG, AtG, and_true, relG, eqG, eqG1, eqG2, eqG3, gdG, gdG1, gnG, gnG1, List.getD_cons_zero, List.getD_cons_succ, List.getElem?_cons_succ, List.getElem?_cons_zero, Option.map_some, Option.getD_some, valsG, List.map_cons, List.map_nil, List.length_cons, List.length_nil] at hd; have d9 := hd; clear hd; subst d9; clear hs; simp only [fillG, List.set_cons_zero, List.set_cons_succ]; have hKW := Keep.tr (Keep.dr (Keep.rf _)) (hE rfl); have a0 := Keep.cell hKW a0; have a1 := Keep.cell hKW a1; have a2 := Keep.cell hKW a2; have b0 := Keep.cell hKW b0; have b1 := Keep.cell hKW b1; have b2 := Keep.cell hKW b2; refine want_n rfl ?_; go_wp2_with (first | (go_at_call 22; refine (refNorm8 (d + 1) b _ _ (HB.out.keep (Keep.tr k04 hKW)) hn2).mono ?_; rintro e w9 ⟨o9, n9, A9, m9, c9, rfl, f9, hk9⟩) | fail); simp only [DoneG, fillG, List.set_cons_zero, List.set_cons_succ, relG, eqG, eqG1, eqG2, eqG3, gdG, gdG1, gnG, gnG1, List.getD_cons_zero, List.getD_cons_succ, List.getElem?_cons_succ, List.getElem?_cons_zero, Option.map_some, Option.getD_some, valsG, List.map_cons, List.map_nil, List.length_cons, List.length_nil]; exact ⟨_, rfl, (by first | with_reducible assumption | exact krg _ | exact Keep.al (krg _) _), fun W9 hk9 => KidAt.keep ⟨o9, n9, A9, m9, c9, rfl, f9.mono fun q hq => ⟨Nat.le_trans (Keep.tr k04 hKW).size hq.1, hq.2⟩⟩ hk9⟩)
          · (intro us W h9 hW hE hd hs K hK; obtain ⟨u0, u1, u2, u3, u4, u5, u6, u7, u8, u9, u10, u11, u12, u13, u14, u15, u16, rfl⟩ := rog 17 h9 rfl; clear h9; simp only [DepG, AtG, and_true, relG, eqG, eqG1, eqG2, eqG3, gdG, gdG1, gnG, gnG1, List.getD_cons_zero, List.getD_cons_succ, List.getElem?_cons_succ, List.getElem?_cons_zero, Option.map_some, Option.getD_some, valsG, List.map_cons, List.map_nil, List.length_cons, List.length_nil] at hd; obtain ⟨d8, d10⟩ := hd; obtain ⟨o8, n8, A8, m8, c8, rfl, f8⟩ := d8; obtain ⟨o10, n10, A10, m10, c10, rfl, f10⟩ := d10; clear hs; simp only [fillG, List.set_cons_zero, List.set_cons_succ]; have hKW := Keep.tr (Keep.dr (Keep.rf _)) (hE rfl); have a0 := Keep.cell hKW a0; have a1 := Keep.cell hKW a1; have a2 := Keep.cell hKW a2; have b0 := Keep.cell hKW b0; have b1 := Keep.cell hKW b1; have b2 := Keep.cell hKW b2; refine want_n rfl ?_; go_wp2_with (first | (go_at_call 21; refine (refSame1 (d + 1) _ _ _ _ _ f8.ty f10.ty).mono ?_; rintro e w9 ⟨rfl, hk9⟩; rw [← HXE.out]) | fail); simp only [DoneG, fillG, List.set_cons_zero, List.set_cons_succ, relG, eqG, eqG1, eqG2, eqG3, gdG, gdG1, gnG, gnG1, List.getD_cons_zero, List.getD_cons_succ, List.getElem?_cons_succ, List.getElem?_cons_zero, Option.map_some, Option.getD_some, valsG, List.map_cons, List.map_nil, List.length_cons, List.length_nil]; exact ⟨_, rfl, (by first | with_reducible assumption | exact krg _ | exact Keep.al (krg _) _), fun _ _ => rfl⟩)
          · (intro us W h9 hW hE hd hs K hK; obtain ⟨u0, u1, u2, u3, u4, u5, u6, u7, u8, u9, u10, u11, u12, u13, u14, u15, u16, rfl⟩ := rog 17 h9 rfl; clear h9; simp only [DepG, AtG, and_true, relG, eqG, eqG1, eqG2, eqG3, gdG, gdG1, gnG, gnG1, List.getD_cons_zero, List.getD_cons_succ, List.getElem?_cons_succ, List.getElem?_cons_zero, Option.map_some, Option.getD_some, valsG, List.map_cons, List.map_nil, List.length_cons, List.length_nil] at hd; obtain ⟨d6, d11⟩ := hd; subst d6; subst d11; clear hs; simp only [fillG, List.set_cons_zero, List.set_cons_succ]; have hKW := Keep.tr (Keep.dr (Keep.rf _)) (hE rfl); have a0 := Keep.cell hKW a0; have a1 := Keep.cell hKW a1; have a2 := Keep.cell hKW a2; have b0 := Keep.cell hKW b0; have b1 := Keep.cell hKW b1; have b2 := Keep.cell hKW b2; refine want_n rfl ?_; go_wp2_with (first | fail); simp only [DoneG, fillG, List.set_cons_zero, List.set_cons_succ, relG, eqG, eqG1, eqG2, eqG3, gdG, gdG1, gnG, gnG1, List.getD_cons_zero, List.getD_cons_succ, List.getElem?_cons_succ, List.getElem?_cons_zero, Option.map_some, Option.getD_some, valsG, List.map_cons, List.map_nil, List.length_cons, List.length_nil]; exact ⟨_, rfl, (by first | with_reducible assumption | exact krg _ | exact Keep.al (krg _) _), fun _ _ => rfl⟩)
          · (intro us W h9 hW hE hd hs K hK; obtain ⟨u0, u1, u2, u3, u4, u5, u6, u7, u8, u9, u10, u11, u12, u13, u14, u15, u16, rfl⟩ := rog 17 h9 rfl; clear h9; simp only [DepG, AtG, and_true, relG, eqG, eqG1, eqG2, eqG3, gdG, gdG1, gnG, gnG1, List.getD_cons_zero, List.getD_cons_succ, List.getElem?_cons_succ, List.getElem?_cons_zero, Option.map_some, Option.getD_some, valsG, List.map_cons, List.map_nil, List.length_cons, List.length_nil] at hd; have d12 := hd; clear hd; subst d12; clear hs; simp only [fillG, List.set_cons_zero, List.set_cons_succ]; refine want_n rfl ?_; go_wp2_with (first | fail); simp only [DoneG, fillG, List.set_cons_zero, List.set_cons_succ, relG, eqG, eqG1, eqG2, eqG3, gdG, gdG1, gnG, gnG1, List.getD_cons_zero, List.getD_cons_succ, List.getElem?_cons_succ, List.getElem?_cons_zero, Option.map_some, Option.getD_some, valsG, List.map_cons, List.map_nil, List.length_cons, List.length_nil]; exact ⟨_, rfl, (by first | with_reducible assumption | exact krg _ | exact Keep.al (krg _) _), fun _ _ => rfl⟩)
          · (intro us W h9 hW hE hd hs K hK; obtain ⟨u0, u1, u2, u3, u4, u5, u6, u7, u8, u9, u10, u11, u12, u13, u14, u15, u16, rfl⟩ := rog 17 h9 rfl; clear h9; simp only [DepG, AtG, and_true, relG, eqG, eqG1, eqG2, eqG3, gdG, gdG1, gnG, gnG1, List.getD_cons_zero, List.getD_cons_succ, List.getElem?_cons_succ, List.getElem?_cons_zero, Option.map_some, Option.getD_some, valsG, List.map_cons, List.map_nil, List.length_cons, List.length_nil] at hd; have d13 := hd; clear hd; subst d13; clear hs; simp only [fillG, List.set_cons_zero, List.set_cons_succ]; have hKW := Keep.tr (Keep.dr (Keep.rf _)) (hE rfl); have a0 := Keep.cell hKW a0; have a1 := Keep.cell hKW a1; have a2 := Keep.cell hKW a2; have b0 := Keep.cell hKW b0; have b1 := Keep.cell hKW b1; have b2 := Keep.cell hKW b2; refine want_y rfl ?_; go_wp2_with (first | (go_at_call 23; refine (markKnown _).mono ?_; rintro e w9 ⟨rfl, hk9⟩) | fail); simp only [DoneG, fillG, List.set_cons_zero, List.set_cons_succ, relG, eqG, eqG1, eqG2, eqG3, gdG, gdG1, gnG, gnG1, List.getD_cons_zero, List.getD_cons_succ, List.getElem?_cons_succ, List.getElem?_cons_zero, Option.map_some, Option.getD_some, valsG, List.map_cons, List.map_nil, List.length_cons, List.length_nil]; exact ⟨_, rfl, (by first | with_reducible assumption | exact krg _ | exact Keep.al (krg _) _), fun _ _ => rfl⟩)
          · (intro us W h9 hW hE hd hs K hK; obtain ⟨u0, u1, u2, u3, u4, u5, u6, u7, u8, u9, u10, u11, u12, u13, u14, u15, u16, rfl⟩ := rog 17 h9 rfl; clear h9; simp only [DepG, AtG, and_true, relG, eqG, eqG1, eqG2, eqG3, gdG, gdG1, gnG, gnG1, List.getD_cons_zero, List.getD_cons_succ, List.getElem?_cons_succ, List.getElem?_cons_zero, Option.map_some, Option.getD_some, valsG, List.map_cons, List.map_nil, List.length_cons, List.length_nil] at hd; obtain ⟨d13, d14⟩ := hd; subst d13; subst d14; clear hs; simp only [fillG, List.set_cons_zero, List.set_cons_succ]; refine want_n rfl ?_; go_wp2_with (first | fail); simp only [DoneG, fillG, List.set_cons_zero, List.set_cons_succ, relG, eqG, eqG1, eqG2, eqG3, gdG, gdG1, gnG, gnG1, List.getD_cons_zero, List.getD_cons_succ, List.getElem?_cons_succ, List.getElem?_cons_zero, Option.map_some, Option.getD_some, valsG, List.map_cons, List.map_nil, List.length_cons, List.length_nil]; exact ⟨_, rfl, (by first | with_reducible assumption | exact krg _ | exact Keep.al (krg _) _), fun _ _ => rfl⟩)
          · (intro us W h9 hW hE hd hs K hK; obtain ⟨u0, u1, u2, u3, u4, u5, u6, u7, u8, u9, u10, u11, u12, u13, u14, u15, u16, rfl⟩ := rog 17 h9 rfl; clear h9; simp only [DepG, AtG, and_true, relG, eqG, eqG1, eqG2, eqG3, gdG, gdG1, gnG, gnG1, List.getD_cons_zero, List.getD_cons_succ, List.getElem?_cons_succ, List.getElem?_cons_zero, Option.map_some, Option.getD_some, valsG, List.map_cons, List.map_nil, List.length_cons, List.length_nil] at hd; have d15 := hd; clear hd; subst d15; clear hs; simp only [fillG, List.set_cons_zero, List.set_cons_succ]; refine want_n rfl ?_; go_wp2_with (first | fail); simp only [DoneG, fillG, List.set_cons_zero, List.set_cons_succ, relG, eqG, eqG1, eqG2, eqG3, gdG, gdG1, gnG, gnG1, List.getD_cons_zero, List.getD_cons_succ, List.getElem?_cons_succ, List.getElem?_cons_zero, Option.map_some, Option.getD_some, valsG, List.map_cons, List.map_nil, List.length_cons, List.length_nil]; exact ⟨_, rfl, (by first | with_reducible assumption | exact krg _ | exact Keep.al (krg _) _), fun _ _ => rfl⟩)
        (intro us W7 h9 hW hE hA; obtain ⟨u0, u1, u2, u3, u4, u5, u6, u7, u8, u9, u10, u11, u12, u13, u14, u15, u16, rfl⟩ := rog 17 h9 rfl; clear h9; simp only [AllG, AtG, and_true, relG, eqG, eqG1, eqG2, eqG3, gdG, gdG1, gnG, gnG1, List.getD_cons_zero, List.getD_cons_succ, List.getElem?_cons_succ, List.getElem?_cons_zero, Option.map_some, Option.getD_some, valsG, List.map_cons, List.map_nil, List.length_cons, List.length_nil] at hA; obtain ⟨d1, d4, d8, d10, d16⟩ := hA; obtain ⟨A1, n1, c1, rfl, i1⟩ := d1; obtain ⟨A4, n4, c4, rfl, i4⟩ := d4; obtain ⟨o8, n8, A8, m8, c8, rfl, f8⟩ := d8; obtain ⟨o10, n10, A10, m10, c10, rfl, f10⟩ := d10; subst d16; simp only [fillG, List.set_cons_zero, List.set_cons_succ]; have k7 := Keep.tr (Keep.dr (Keep.rf _)) hW; clear hW hE)
        go_wp2_with fail
        go_ret
        exact ⟨rfl, Keep.tr k04 k7⟩
theorem MarkSame_walk (w : World) (v : Value) (a : Ty) (h : TyV w v a) (_ : True) (v' : Value) (b : Ty) (h' : TyV w v' b) (_ : True) : Calls Try.prog 4 #[v, v'] w fun e w' => e = .returned (.bool true) ∧ Keep w w' := by
  obtain ⟨d, cs, rfl, h⟩ := h
  obtain ⟨d', cs', rfl, h'⟩ := h'
  exact MarkSame_walk0 (d + d') w cs cs' a b (h.le (by omega)) (h'.le (by omega))
end Go.Proofs.Ytcbkklfdeloeeaa
