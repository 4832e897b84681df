/- Walks: are two rows of values one? Walks: are two blocks one? are two graphs? (package shape) Walks: are two values one? (reference of shape) Walks: are two graphs one? (reference of shape) -/
import Derived.Test.YtoehaijmkmdggaaTShapeP
import Derived.Shelf.Abstract
import Derived.Deep.DeepCutAuto
import Derived.Deep.CutBlock
import Derived.Deep.Cut
set_option linter.unusedSimpArgs false
set_option linter.unusedVariables false
set_option linter.unusedSimpArgs false
namespace Go.Proofs.Ytoehaijmkmdggaa
open Go.RowKit
set_option linter.unusedVariables false
set_option maxRecDepth 100000
end Go.Proofs.Ytoehaijmkmdggaa
namespace Go.Proofs.Ytoehaijmkmdggaa
open Go.RowKit
set_option linter.unusedVariables false
set_option maxRecDepth 100000
theorem blk_eq (b c : Em.Blk) : decide (b = c) = (decide (b.tag = c.tag) && (decide (b.str = c.str) && decide (b.kids = c.kids))) := by
  obtain ⟨b1, b2, b3⟩ := b
  obtain ⟨c1, c2, c3⟩ := c
  rw [Bool.eq_iff_iff, Bool.and_eq_true, Bool.and_eq_true, decide_eq_true_iff, decide_eq_true_iff, decide_eq_true_iff, decide_eq_true_iff, Em.Blk.mk.injEq]
end Go.Proofs.Ytoehaijmkmdggaa
namespace Go.Proofs.Ytoehaijmkmdggaa
open Go.RowKit
set_option linter.unusedVariables false
set_option maxRecDepth 100000
theorem rf_eq (x y : Bool × Int) : decide (x = y) = (decide (x.1 = y.1) && decide (x.2 = y.2)) := by
  obtain ⟨x1, x2⟩ := x
  obtain ⟨y1, y2⟩ := y
  rw [Bool.eq_iff_iff, Bool.and_eq_true, decide_eq_true_iff, decide_eq_true_iff, decide_eq_true_iff, Prod.mk.injEq]
set_option maxHeartbeats 4000000 in
theorem refSame1s (x y : Bool × Int) (w : World) : Calls Try.prog 46 #[.agg #[.bool x.1, .int .i64 x.2], .agg #[.bool y.1, .int .i64 y.2]] w fun e w' => e = .returned (.bool (decide (x = y))) ∧ Keep w w' := by
  rw [rf_eq]
  obtain ⟨b1, n1⟩ := x
  obtain ⟨b2, n2⟩ := y
  simp only
  by_cases hn : n1 = n2
  · subst hn
    cases b1 <;> cases b2
    all_goals
      go_enter Try.func46, Try.ntmps46
      go_wp2_with fail
      go_ret
      exact ⟨by simp, (by repeat (first | exact Keep.rf _ | assumption | apply Keep.al | apply Keep.dr | apply Keep.dn))⟩
  · have hn2 : (n1 == n2) = false := by simpa using hn
    rw [decide_eq_false hn, Bool.and_false]
    cases b1 <;> cases b2
    all_goals
      go_enter Try.func46, Try.ntmps46
      go_wp2_with fail
      go_ret
      exact ⟨rfl, (by repeat (first | exact Keep.rf _ | assumption | apply Keep.al | apply Keep.dr | apply Keep.dn))⟩
theorem gr_eq (g h : Em.Gr) : decide (g = h) = (decide (g.root = h.root) && decide (g.blocks = h.blocks)) := by
  obtain ⟨g1, g2⟩ := g
  obtain ⟨h1, h2⟩ := h
  rw [Bool.eq_iff_iff, Bool.and_eq_true, decide_eq_true_iff, decide_eq_true_iff, decide_eq_true_iff, Em.Gr.mk.injEq]
end Go.Proofs.Ytoehaijmkmdggaa
namespace Go.Proofs.Ytoehaijmkmdggaa
open Go.RowKit
set_option linter.unusedVariables false
set_option maxRecDepth 100000
set_option maxHeartbeats 16000000 in
theorem refSame18 (g h : Em.Gr) (w : World) (v v' : Value) (hg : GrV w v g) (hh : GrV w v' h) : Calls Try.prog 18 #[v, v'] w fun e w' => e = .returned (.bool (decide (g = h))) ∧ Keep w w' := by
  have hq := gr_eq g h
  obtain ⟨u, rfl, _, ⟨A, c, rfl, hlc, hcm, hr⟩⟩ := hg
  obtain ⟨u', rfl, _, ⟨A', c', rfl, hlc', hcm', hr'⟩⟩ := hh
  obtain ⟨rg, xs⟩ := g
  obtain ⟨rh, ys⟩ := h
  simp only at hq hr hr' hlc hlc' ⊢
  generalize decide ((⟨rg, xs⟩ : Em.Gr) = ⟨rh, ys⟩) = q at hq ⊢
  have HQ0 := hide hq
  clear hq
  have k0 : Keep w ((w.alloc (.cells #[.bool rg.1, .int .i64 rg.2, .slice A xs.length c] 31)).alloc (.cells #[.bool rh.1, .int .i64 rh.2, .slice A' ys.length c'] 31)) := (by repeat (first | exact Keep.rf _ | assumption | apply Keep.al | apply Keep.dr | apply Keep.dn))
  have ha := ((Keep.al (Keep.rf (w.alloc (.cells #[.bool rg.1, .int .i64 rg.2, .slice A xs.length c] 31))) (.cells #[.bool rh.1, .int .i64 rh.2, .slice A' ys.length c'] 31)).frm fun _ => False).heap (fun h => h) (heap_alloc_new w _)
  have hb := new_second w (.cells #[.bool rg.1, .int .i64 rg.2, .slice A xs.length c] 31) (.cells #[.bool rh.1, .int .i64 rh.2, .slice A' ys.length c'] 31)
  have a2 := top_cells ha 2
  have b2 := top_cells hb 2
  simp only [List.getElem?_toArray, List.getElem?_cons_succ, List.getElem?_cons_zero] at a2 b2
  clear ha hb
  go_enter Try.func18, Try.ntmps18
  go_wp2_with fail
  generalize World.alloc (World.alloc w _) _ = W1 at *
  refine (refSame1s rg rh W1).mono ?_
  rintro e w2 ⟨rfl, k2⟩
  replace a2 := Keep.cell k2 a2
  replace b2 := Keep.cell k2 b2
  have k02 := Keep.tr k0 k2
  clear k0 k2
  cases hroot : decide (rg = rh) with
  | false =>
    have HQ := hide (show q = false by rw [HQ0.out, hroot]; rfl)
    clear hroot
    go_wp2_with fail
    go_ret
    rw [HQ.out]
    exact ⟨rfl, k02⟩
  | true =>
    have HQ1 := hide (show q = decide (xs = ys) by rw [HQ0.out, hroot, Bool.true_and])
    clear hroot
    by_cases hll : xs.length = ys.length
    · have hll1 : xs.length ≤ ys.length := by omega
      have hll2 : ys.length ≤ xs.length := by omega
      have hne : ((xs.length : Int) != (ys.length : Int)) = false := by rw [hll]; simp
      clear hll
      go_wp2_with fail
      go_loopw [5] (fun i W => ∃ (j : Nat), j ≤ xs.length ∧ i = .int .i64 (j : Int) ∧ q = decide (xs.drop j = ys.drop j) ∧ Keep w2 W) (fun i _ => xs.length - (intOf i).toNat)
      case atStart => exact ⟨0, by omega, rfl, by rw [HQ1.out]; simp, Keep.rf _⟩
      case round =>
        obtain ⟨j, hj, rfl, hx, hk⟩ := hrel
        have HX := hide hx
        clear hx
        replace a2 := Keep.cell hk a2
        replace b2 := Keep.cell hk b2
        by_cases hlt : j < xs.length
        · have hlt' : j < ys.length := by omega
          have hlti : (j : Int) < (xs.length : Int) := by omega
          obtain ⟨ad, rfl, hcell⟩ := hr (by omega)
          obtain ⟨ad', rfl, hcell'⟩ := hr' (by omega)
          obtain ⟨cs, hcs, hcl, hkt⟩ := hcell j hlt
          obtain ⟨cs', hcs', hcl', hkt'⟩ := hcell' j hlt'
          have hdr := hide (drop_step hlt hlt')
          generalize xs[j] = x at *
          generalize ys[j] = y at *
          have kw := Keep.tr k02 hk
          obtain ⟨kv, rfl, _, hkx⟩ := hkt
          obtain ⟨kv', rfl, _, hky⟩ := hkt'
          obtain ⟨kA, kc, rfl, _⟩ := id hkx
          obtain ⟨kA', kc', rfl, _⟩ := id hky
          have c0 := Keep.cell kw (hcl 0 _ rfl)
          have e0 := Keep.cell kw (hcl' 0 _ rfl)
          rw [Nat.add_zero] at c0 e0
          have c1 := cell_off (Keep.cell kw (hcl 1 _ rfl))
          have c2 := cell_off (Keep.cell kw (hcl 2 _ rfl))
          have e1 := cell_off (Keep.cell kw (hcl' 1 _ rfl))
          have e2 := cell_off (Keep.cell kw (hcl' 2 _ rfl))
          have HR := hide hr
          have HR' := hide hr'
          have HK2 := hide hk
          have hkxw := hide hkx
          have hkyw := hide hky
          clear hcell hcl hr hcell' hcl' hr' hcs hcs' hkx hky hk k02
          go_wp2_with fail
          have kx : ∀ o, Keep wr (wr.alloc o) := fun o => (Keep.rf wr).al o
          have ky : ∀ o o', Keep wr ((wr.alloc o).alloc o') := fun o o' => ((Keep.rf wr).al o).al o'
          have a2x := fun o => Keep.cell (kx o) a2
          have a2y := fun o o' => Keep.cell (ky o o') a2
          have b2x := fun o => Keep.cell (kx o) b2
          have b2y := fun o o' => Keep.cell (ky o o') b2
          have c0x := fun o => Keep.cell (kx o) c0
          have c0y := fun o o' => Keep.cell (ky o o') c0
          have c1x := fun o => Keep.cell (kx o) c1
          have c1y := fun o o' => Keep.cell (ky o o') c1
          have c2x := fun o => Keep.cell (kx o) c2
          have c2y := fun o o' => Keep.cell (ky o o') c2
          have e0x := fun o => Keep.cell (kx o) e0
          have e0y := fun o o' => Keep.cell (ky o o') e0
          have e1x := fun o => Keep.cell (kx o) e1
          have e1y := fun o o' => Keep.cell (ky o o') e1
          have e2x := fun o => Keep.cell (kx o) e2
          have e2y := fun o o' => Keep.cell (ky o o') e2
          clear kx ky
          go_cut [6, 7] (fun p6 p7 W => ∃ g6 g7 : Nat, p6 = .pointer (some ⟨g6, 0, none⟩) ∧ p7 = .pointer (some ⟨g7, 0, none⟩) ∧ W.heap[g6]? = some (.cells #[.int .i64 x.tag, .string (str x.str), .slice kA x.kids.length kc] 80) ∧ W.heap[g7]? = some (.cells #[.int .i64 y.tag, .string (str y.str), .slice kA' y.kids.length kc'] 80) ∧ Keep wr W)
          case first =>
            go_region
            · go_wp2_with fail
              go_meet
              exact ⟨_, _, rfl, rfl, ((Keep.al (Keep.rf _) _).frm fun _ => False).heap (fun h => h) (heap_alloc_new wr _), new_second wr _ _, (by repeat (first | exact Keep.rf _ | assumption | apply Keep.al | apply Keep.dr | apply Keep.dn))⟩
            · go_wp2_with fail
              go_meet
              exact ⟨_, _, rfl, rfl, new_second wr _ _, ((Keep.al (Keep.rf _) _).frm fun _ => False).heap (fun h => h) (heap_alloc_new wr _), (by repeat (first | exact Keep.rf _ | assumption | apply Keep.al | apply Keep.dr | apply Keep.dn))⟩
          case rest =>
            obtain ⟨g6, g7, rfl, rfl, h6, h7, kc2⟩ := hcut
            have p0 := top_cells h6 0
            have p1 := top_cells h6 1
            have p2 := top_cells h6 2
            have r0 := top_cells h7 0
            have r1 := top_cells h7 1
            have r2 := top_cells h7 2
            simp only [List.getElem?_toArray, List.getElem?_cons_succ, List.getElem?_cons_zero] at p0 p1 p2 r0 r1 r2
            have a2c := Keep.cell kc2 a2
            have b2c := Keep.cell kc2 b2
            have kwc := Keep.tr kw kc2
            have K2C := hide (Keep.tr HK2.out kc2)
            have XE := blk_eq x y
            have HX := hide (HX.out.trans hdr.out)
            have HXE := hide XE
            have HKX2 := hide (hkxw.out.keep kwc fun _ _ h => h)
            have HKY2 := hide (hkyw.out.keep kwc fun _ _ h => h)
            clear XE hdr h6 h7 a2 b2 a2x a2y b2x b2y c0 c0x c0y c1 c1x c1y c2 c2x c2y e0 e0x e0y e1 e1x e1y e2 e2x e2y kc2 kw
            obtain ⟨xt, xstr, xk⟩ := x
            obtain ⟨yt, ystr, yk⟩ := y
            simp only at *
            by_cases h1 : xt = yt
            · by_cases h2 : xstr = ystr
              · by_cases h3 : xk.length = yk.length
                · subst h1 h2
                  have HE := hide (show q = (decide (xk = yk) && decide (xs.drop (j + 1) = ys.drop (j + 1))) by rw [HX.out, HXE.out]; simp)
                  have h3n : ((xk.length : Int) != (yk.length : Int)) = false := by rw [h3]; simp
                  have h31 : xk.length ≤ yk.length := by omega
                  have h32 : yk.length ≤ xk.length := by omega
                  have hsn : ((str xstr).toList != (str xstr).toList) = false := by simp
                  clear h3 HX HXE
                  generalize hkq : decide (xk = yk) = kq at *
                  have HKQ := hide hkq
                  have KWC := hide kwc
                  have hx2 := HKX2.out
                  have hy2 := HKY2.out
                  clear hkq kwc
                  obtain ⟨_, _, ex, _, _, hrx⟩ := hx2
                  cases ex
                  obtain ⟨_, _, ey, _, _, hry⟩ := hy2
                  cases ey
                  go_wp2_with fail
                  go_loopw [8] (fun i W => ∃ (k : Nat), k ≤ xk.length ∧ i = .int .i64 (k : Int) ∧ kq = decide (xk.drop k = yk.drop k) ∧ Keep wc W) (fun i _ => xk.length - (intOf i).toNat)
                  case atStart => exact ⟨0, by omega, rfl, by rw [← HKQ.out]; simp, Keep.rf _⟩
                  case round =>
                    obtain ⟨k, hkl, rfl, hxk, kk⟩ := hrel
                    have HXK := hide hxk
                    clear hxk
                    replace p2 := Keep.cell kk p2
                    replace r2 := Keep.cell kk r2
                    by_cases hltk : k < xk.length
                    · have hltk' : k < yk.length := by omega
                      have hltki : (k : Int) < (xk.length : Int) := by omega
                      obtain ⟨adx, rfl, hcx⟩ := hrx (by omega)
                      obtain ⟨ady, rfl, hcy⟩ := hry (by omega)
                      obtain ⟨csx, hcsx, hclx, hktx, _⟩ := hcx k hltk
                      obtain ⟨csy, hcsy, hcly, hkty, _⟩ := hcy k hltk'
                      have hdk := hide (drop_step hltk hltk')
                      generalize xk[k] = x1 at *
                      generalize yk[k] = y1 at *
                      obtain ⟨b1, n1⟩ := x1
                      obtain ⟨b2, n2⟩ := y1
                      simp only at hktx hkty
                      subst hktx hkty
                      have c0 := Keep.cell kk (hclx 0 _ rfl)
                      have e0 := Keep.cell kk (hcly 0 _ rfl)
                      rw [Nat.add_zero] at c0 e0
                      have c1 := cell_off (Keep.cell kk (hclx 1 _ rfl))
                      have e1 := cell_off (Keep.cell kk (hcly 1 _ rfl))
                      have HRX := hide hrx
                      have HRY := hide hry
                      clear hcx hclx hrx hcy hcly hry hcsx hcsy
                      go_wp2_with fail
                      cases hd : decide (((b1, n1) : Bool × Int) = (b2, n2)) with
                      | true =>
                        have HD := hide hd
                        have HXN := hide (show kq = decide (xk.drop (k + 1) = yk.drop (k + 1)) by rw [HXK.out, hdk.out, hd, Bool.true_and])
                        clear hd hdk
                        apply region_all (by kernel_rfl) Keep Keep krg ktg krg ktg (fun _ _ h => h) [some 69, some 70, some 71, some 72, some 73, some 74, some 75, some 76, some 77, some 78, some 79, some 80] [eqG _ , eqG _ , eqG _ , eqG _ , eqG _ , eqG _ , eqG _ , eqG _ , eqG _ , eqG _ , fun us _ v => v = .bool true, fun us _ v => v = .bool false] [⟨[], [], true, false, false⟩, ⟨[0], [], true, false, false⟩, ⟨[], [], true, false, false⟩, ⟨[1, 2], [], true, false, false⟩, ⟨[3], [], true, false, false⟩, ⟨[], [], true, false, false⟩, ⟨[5], [], true, false, false⟩, ⟨[], [], true, false, false⟩, ⟨[6, 7], [], true, false, false⟩, ⟨[8], [], true, false, false⟩, ⟨[4, 9], [], true, false, false⟩, ⟨[10], [], true, false, false⟩] [11] (by kernel_rfl) (by kernel_rfl) 
                        · refine ⟨?_, ?_, ?_, ?_, ?_, ?_, ?_, ?_, ?_, ?_, ?_, ?_, trivial⟩ <;> (intro us W h9 hW hE hd hs K hK; obtain ⟨u0, u1, u2, u3, u4, u5, u6, u7, u8, u9, u10, u11, rfl⟩ := rog 12 h9 rfl; clear h9; try simp only [DepG, AtG, and_true, relG, eqG, eqG1, eqG2, eqG3, gdG, gdG1, gnG, gnG1, List.getD_cons_zero, List.getD_cons_succ, List.getElem?_cons_succ, List.getElem?_cons_zero, Option.map_some, Option.getD_some, valsG, List.map_cons, List.map_nil, List.length_cons, List.length_nil] at hd)
                          · ((try clear hd); clear hs; simp only [fillG, List.set_cons_zero, List.set_cons_succ]; refine want_n rfl ?_; go_wp2_with (first | fail); simp only [DoneG, fillG, List.set_cons_zero, List.set_cons_succ, relG, eqG, eqG1, eqG2, eqG3, gdG, gdG1, gnG, gnG1, List.getD_cons_zero, List.getD_cons_succ, List.getElem?_cons_succ, List.getElem?_cons_zero, Option.map_some, Option.getD_some, valsG, List.map_cons, List.map_nil, List.length_cons, List.length_nil]; exact ⟨_, rfl, (by first | with_reducible assumption | exact krg _ | exact Keep.al (krg _) _), fun _ _ => rfl⟩)
                          · (have d0 := hd; clear hd; subst d0; clear hs; simp only [fillG, List.set_cons_zero, List.set_cons_succ]; have hKW := Keep.tr (Keep.dr (Keep.rf _)) (hE rfl); have p2 := Keep.cell hKW p2; have r2 := Keep.cell hKW r2; have c0 := Keep.cell hKW c0; have c1 := Keep.cell hKW c1; have e0 := Keep.cell hKW e0; have e1 := Keep.cell hKW e1; refine want_n rfl ?_; go_wp2_with (first | fail); simp only [DoneG, fillG, List.set_cons_zero, List.set_cons_succ, relG, eqG, eqG1, eqG2, eqG3, gdG, gdG1, gnG, gnG1, List.getD_cons_zero, List.getD_cons_succ, List.getElem?_cons_succ, List.getElem?_cons_zero, Option.map_some, Option.getD_some, valsG, List.map_cons, List.map_nil, List.length_cons, List.length_nil]; exact ⟨_, rfl, (by first | with_reducible assumption | exact krg _ | exact Keep.al (krg _) _), fun _ _ => rfl⟩)
                          · ((try clear hd); clear hs; simp only [fillG, List.set_cons_zero, List.set_cons_succ]; refine want_n rfl ?_; go_wp2_with (first | fail); simp only [DoneG, fillG, List.set_cons_zero, List.set_cons_succ, relG, eqG, eqG1, eqG2, eqG3, gdG, gdG1, gnG, gnG1, List.getD_cons_zero, List.getD_cons_succ, List.getElem?_cons_succ, List.getElem?_cons_zero, Option.map_some, Option.getD_some, valsG, List.map_cons, List.map_nil, List.length_cons, List.length_nil]; exact ⟨_, rfl, (by first | with_reducible assumption | exact krg _ | exact Keep.al (krg _) _), fun _ _ => rfl⟩)
                          · (obtain ⟨d1, d2⟩ := hd; subst d1; subst d2; clear hs; simp only [fillG, List.set_cons_zero, List.set_cons_succ]; refine want_n rfl ?_; go_wp2_with (first | fail); simp only [DoneG, fillG, List.set_cons_zero, List.set_cons_succ, relG, eqG, eqG1, eqG2, eqG3, gdG, gdG1, gnG, gnG1, List.getD_cons_zero, List.getD_cons_succ, List.getElem?_cons_succ, List.getElem?_cons_zero, Option.map_some, Option.getD_some, valsG, List.map_cons, List.map_nil, List.length_cons, List.length_nil]; exact ⟨_, rfl, (by first | with_reducible assumption | exact krg _ | exact Keep.al (krg _) _), fun _ _ => rfl⟩)
                          · (have d3 := hd; clear hd; subst d3; clear hs; simp only [fillG, List.set_cons_zero, List.set_cons_succ]; have hKW := Keep.tr (Keep.dr (Keep.rf _)) (hE rfl); have p2 := Keep.cell hKW p2; have r2 := Keep.cell hKW r2; have c0 := Keep.cell hKW c0; have c1 := Keep.cell hKW c1; have e0 := Keep.cell hKW e0; have e1 := Keep.cell hKW e1; refine want_n rfl ?_; go_wp2_with (first | fail); simp only [DoneG, fillG, List.set_cons_zero, List.set_cons_succ, relG, eqG, eqG1, eqG2, eqG3, gdG, gdG1, gnG, gnG1, List.getD_cons_zero, List.getD_cons_succ, List.getElem?_cons_succ, List.getElem?_cons_zero, Option.map_some, Option.getD_some, valsG, List.map_cons, List.map_nil, List.length_cons, List.length_nil]; exact ⟨_, rfl, (by first | with_reducible assumption | exact krg _ | exact Keep.al (krg _) _), fun _ _ => rfl⟩)
                          · ((try clear hd); clear hs; simp only [fillG, List.set_cons_zero, List.set_cons_succ]; refine want_n rfl ?_; go_wp2_with (first | fail); simp only [DoneG, fillG, List.set_cons_zero, List.set_cons_succ, relG, eqG, eqG1, eqG2, eqG3, gdG, gdG1, gnG, gnG1, List.getD_cons_zero, List.getD_cons_succ, List.getElem?_cons_succ, List.getElem?_cons_zero, Option.map_some, Option.getD_some, valsG, List.map_cons, List.map_nil, List.length_cons, List.length_nil]; exact ⟨_, rfl, (by first | with_reducible assumption | exact krg _ | exact Keep.al (krg _) _), fun _ _ => rfl⟩)
                          · (have d5 := hd; clear hd; subst d5; clear hs; simp only [fillG, List.set_cons_zero, List.set_cons_succ]; have hKW := Keep.tr (Keep.dr (Keep.rf _)) (hE rfl); have p2 := Keep.cell hKW p2; have r2 := Keep.cell hKW r2; have c0 := Keep.cell hKW c0; have c1 := Keep.cell hKW c1; have e0 := Keep.cell hKW e0; have e1 := Keep.cell hKW e1; refine want_n rfl ?_; go_wp2_with (first | fail); simp only [DoneG, fillG, List.set_cons_zero, List.set_cons_succ, relG, eqG, eqG1, eqG2, eqG3, gdG, gdG1, gnG, gnG1, List.getD_cons_zero, List.getD_cons_succ, List.getElem?_cons_succ, List.getElem?_cons_zero, Option.map_some, Option.getD_some, valsG, List.map_cons, List.map_nil, List.length_cons, List.length_nil]; exact ⟨_, rfl, (by first | with_reducible assumption | exact krg _ | exact Keep.al (krg _) _), fun _ _ => rfl⟩)
                          · ((try clear hd); clear hs; simp only [fillG, List.set_cons_zero, List.set_cons_succ]; refine want_n rfl ?_; go_wp2_with (first | fail); simp only [DoneG, fillG, List.set_cons_zero, List.set_cons_succ, relG, eqG, eqG1, eqG2, eqG3, gdG, gdG1, gnG, gnG1, List.getD_cons_zero, List.getD_cons_succ, List.getElem?_cons_succ, List.getElem?_cons_zero, Option.map_some, Option.getD_some, valsG, List.map_cons, List.map_nil, List.length_cons, List.length_nil]; exact ⟨_, rfl, (by first | with_reducible assumption | exact krg _ | exact Keep.al (krg _) _), fun _ _ => rfl⟩)
                          · (obtain ⟨d6, d7⟩ := hd; subst d6; subst d7; clear hs; simp only [fillG, List.set_cons_zero, List.set_cons_succ]; refine want_n rfl ?_; go_wp2_with (first | fail); simp only [DoneG, fillG, List.set_cons_zero, List.set_cons_succ, relG, eqG, eqG1, eqG2, eqG3, gdG, gdG1, gnG, gnG1, List.getD_cons_zero, List.getD_cons_succ, List.getElem?_cons_succ, List.getElem?_cons_zero, Option.map_some, Option.getD_some, valsG, List.map_cons, List.map_nil, List.length_cons, List.length_nil]; exact ⟨_, rfl, (by first | with_reducible assumption | exact krg _ | exact Keep.al (krg _) _), fun _ _ => rfl⟩)
                          · (have d8 := hd; clear hd; subst d8; clear hs; simp only [fillG, List.set_cons_zero, List.set_cons_succ]; have hKW := Keep.tr (Keep.dr (Keep.rf _)) (hE rfl); have p2 := Keep.cell hKW p2; have r2 := Keep.cell hKW r2; have c0 := Keep.cell hKW c0; have c1 := Keep.cell hKW c1; have e0 := Keep.cell hKW e0; have e1 := Keep.cell hKW e1; refine want_n rfl ?_; go_wp2_with (first | fail); simp only [DoneG, fillG, List.set_cons_zero, List.set_cons_succ, relG, eqG, eqG1, eqG2, eqG3, gdG, gdG1, gnG, gnG1, List.getD_cons_zero, List.getD_cons_succ, List.getElem?_cons_succ, List.getElem?_cons_zero, Option.map_some, Option.getD_some, valsG, List.map_cons, List.map_nil, List.length_cons, List.length_nil]; exact ⟨_, rfl, (by first | with_reducible assumption | exact krg _ | exact Keep.al (krg _) _), fun _ _ => rfl⟩)
                          · (obtain ⟨d4, d9⟩ := hd; subst d4; subst d9; clear hs; simp only [fillG, List.set_cons_zero, List.set_cons_succ]; have hKW := Keep.tr (Keep.dr (Keep.rf _)) (hE rfl); have p2 := Keep.cell hKW p2; have r2 := Keep.cell hKW r2; have c0 := Keep.cell hKW c0; have c1 := Keep.cell hKW c1; have e0 := Keep.cell hKW e0; have e1 := Keep.cell hKW e1; refine want_n rfl ?_; go_wp2_with (first | (go_at_call 46; refine (refSame1s (b1, n1) (b2, n2) _).mono ?_; rintro e w9 ⟨rfl, hk9⟩; rw [HD.out]) | fail); simp only [DoneG, fillG, List.set_cons_zero, List.set_cons_succ, relG, eqG, eqG1, eqG2, eqG3, gdG, gdG1, gnG, gnG1, List.getD_cons_zero, List.getD_cons_succ, List.getElem?_cons_succ, List.getElem?_cons_zero, Option.map_some, Option.getD_some, valsG, List.map_cons, List.map_nil, List.length_cons, List.length_nil]; exact ⟨_, rfl, (by first | with_reducible assumption | exact krg _ | exact Keep.al (krg _) _), fun _ _ => rfl⟩)
                          · (have d10 := hd; clear hd; subst d10; clear hs; simp only [fillG, List.set_cons_zero, List.set_cons_succ]; have hKW := Keep.tr (Keep.dr (Keep.rf _)) (hE rfl); have p2 := Keep.cell hKW p2; have r2 := Keep.cell hKW r2; have c0 := Keep.cell hKW c0; have c1 := Keep.cell hKW c1; have e0 := Keep.cell hKW e0; have e1 := Keep.cell hKW e1; refine want_n rfl ?_; go_wp2_with (first | fail); simp only [DoneG, fillG, List.set_cons_zero, List.set_cons_succ, relG, eqG, eqG1, eqG2, eqG3, gdG, gdG1, gnG, gnG1, List.getD_cons_zero, List.getD_cons_succ, List.getElem?_cons_succ, List.getElem?_cons_zero, Option.map_some, Option.getD_some, valsG, List.map_cons, List.map_nil, List.length_cons, List.length_nil]; exact ⟨_, rfl, (by first | with_reducible assumption | exact krg _ | exact Keep.al (krg _) _), fun _ _ => rfl⟩)
                        (intro us W9 h9 hW hE hA; obtain ⟨u0, u1, u2, u3, u4, u5, u6, u7, u8, u9, u10, u11, rfl⟩ := rog 12 h9 rfl; clear h9; simp only [AllG, AtG, and_true, relG, eqG, eqG1, eqG2, eqG3, gdG, gdG1, gnG, gnG1, List.getD_cons_zero, List.getD_cons_succ, List.getElem?_cons_succ, List.getElem?_cons_zero, Option.map_some, Option.getD_some, valsG, List.map_cons, List.map_nil, List.length_cons, List.length_nil] at hA; have d11 := hA; clear hA; subst d11; simp only [fillG, List.set_cons_zero, List.set_cons_succ]; have k9 := Keep.tr (Keep.dr (Keep.rf _)) hW; clear hW hE)
                        go_wp2_with fail
                        go_roundw
                        case rel => exact ⟨k + 1, by omega, by go_num, HXN.out, Keep.tr kk k9⟩
                        case measure => simp [intOf]; omega
                      | false =>
                        have HD := hide hd
                        have HXN := hide (show q = false by rw [HE.out, HXK.out, hdk.out, hd, Bool.false_and, Bool.false_and])
                        clear hd hdk
                        apply region_all (by kernel_rfl) Keep Keep krg ktg krg ktg (fun _ _ h => h) [some 69, some 70, some 71, some 72, some 73, some 74, some 75, some 76, some 77, some 78, some 79, some 80] [eqG _ , eqG _ , eqG _ , eqG _ , eqG _ , eqG _ , eqG _ , eqG _ , eqG _ , eqG _ , fun us _ v => v = .bool false, fun us _ v => v = .bool true] [⟨[], [], true, false, false⟩, ⟨[0], [], true, false, false⟩, ⟨[], [], true, false, false⟩, ⟨[1, 2], [], true, false, false⟩, ⟨[3], [], true, false, false⟩, ⟨[], [], true, false, false⟩, ⟨[5], [], true, false, false⟩, ⟨[], [], true, false, false⟩, ⟨[6, 7], [], true, false, false⟩, ⟨[8], [], true, false, false⟩, ⟨[4, 9], [], true, false, false⟩, ⟨[10], [], true, false, false⟩] [11] (by kernel_rfl) (by kernel_rfl) 
                        · refine ⟨?_, ?_, ?_, ?_, ?_, ?_, ?_, ?_, ?_, ?_, ?_, ?_, trivial⟩ <;> (intro us W h9 hW hE hd hs K hK; obtain ⟨u0, u1, u2, u3, u4, u5, u6, u7, u8, u9, u10, u11, rfl⟩ := rog 12 h9 rfl; clear h9; try simp only [DepG, AtG, and_true, relG, eqG, eqG1, eqG2, eqG3, gdG, gdG1, gnG, gnG1, List.getD_cons_zero, List.getD_cons_succ, List.getElem?_cons_succ, List.getElem?_cons_zero, Option.map_some, Option.getD_some, valsG, List.map_cons, List.map_nil, List.length_cons, List.length_nil] at hd)
                          · ((try clear hd); clear hs; simp only [fillG, List.set_cons_zero, List.set_cons_succ]; refine want_n rfl ?_; go_wp2_with (first | fail); simp only [DoneG, fillG, List.set_cons_zero, List.set_cons_succ, relG, eqG, eqG1, eqG2, eqG3, gdG, gdG1, gnG, gnG1, List.getD_cons_zero, List.getD_cons_succ, List.getElem?_cons_succ, List.getElem?_cons_zero, Option.map_some, Option.getD_some, valsG, List.map_cons, List.map_nil, List.length_cons, List.length_nil]; exact ⟨_, rfl, (by first | with_reducible assumption | exact krg _ | exact Keep.al (krg _) _), fun _ _ => rfl⟩)
                          · (have d0 := hd; clear hd; subst d0; clear hs; simp only [fillG, List.set_cons_zero, List.set_cons_succ]; have hKW := Keep.tr (Keep.dr (Keep.rf _)) (hE rfl); have p2 := Keep.cell hKW p2; have r2 := Keep.cell hKW r2; have c0 := Keep.cell hKW c0; have c1 := Keep.cell hKW c1; have e0 := Keep.cell hKW e0; have e1 := Keep.cell hKW e1; refine want_n rfl ?_; go_wp2_with (first | fail); simp only [DoneG, fillG, List.set_cons_zero, List.set_cons_succ, relG, eqG, eqG1, eqG2, eqG3, gdG, gdG1, gnG, gnG1, List.getD_cons_zero, List.getD_cons_succ, List.getElem?_cons_succ, List.getElem?_cons_zero, Option.map_some, Option.getD_some, valsG, List.map_cons, List.map_nil, List.length_cons, List.length_nil]; exact ⟨_, rfl, (by first | with_reducible assumption | exact krg _ | exact Keep.al (krg _) _), fun _ _ => rfl⟩)
                          · ((try clear hd); clear hs; simp only [fillG, List.set_cons_zero, List.set_cons_succ]; refine want_n rfl ?_; go_wp2_with (first | fail); simp only [DoneG, fillG, List.set_cons_zero, List.set_cons_succ, relG, eqG, eqG1, eqG2, eqG3, gdG, gdG1, gnG, gnG1, List.getD_cons_zero, List.getD_cons_succ, List.getElem?_cons_succ, List.getElem?_cons_zero, Option.map_some, Option.getD_some, valsG, List.map_cons, List.map_nil, List.length_cons, List.length_nil]; exact ⟨_, rfl, (by first | with_reducible assumption | exact krg _ | exact Keep.al (krg _) _), fun _ _ => rfl⟩)
                          · (obtain ⟨d1, d2⟩ := hd; subst d1; subst d2; clear hs; simp only [fillG, List.set_cons_zero, List.set_cons_succ]; refine want_n rfl ?_; go_wp2_with (first | fail); simp only [DoneG, fillG, List.set_cons_zero, List.set_cons_succ, relG, eqG, eqG1, eqG2, eqG3, gdG, gdG1, gnG, gnG1, List.getD_cons_zero, List.getD_cons_succ, List.getElem?_cons_succ, List.getElem?_cons_zero, Option.map_some, Option.getD_some, valsG, List.map_cons, List.map_nil, List.length_cons, List.length_nil]; exact ⟨_, rfl, (by first | with_reducible assumption | exact krg _ | exact Keep.al (krg _) _), fun _ _ => rfl⟩)
                          · (have d3 := hd; clear hd; subst d3; clear hs; simp only [fillG, List.set_cons_zero, List.set_cons_succ]; have hKW := Keep.tr (Keep.dr (Keep.rf _)) (hE rfl); have p2 := Keep.cell hKW p2; have r2 := Keep.cell hKW r2; have c0 := Keep.cell hKW c0; have c1 := Keep.cell hKW c1; have e0 := Keep.cell hKW e0; have e1 := Keep.cell hKW e1; refine want_n rfl ?_; go_wp2_with (first | fail); simp only [DoneG, fillG, List.set_cons_zero, List.set_cons_succ, relG, eqG, eqG1, eqG2, eqG3, gdG, gdG1, gnG, gnG1, List.getD_cons_zero, List.getD_cons_succ, List.getElem?_cons_succ, List.getElem?_cons_zero, Option.map_some, Option.getD_some, valsG, List.map_cons, List.map_nil, List.length_cons, List.length_nil]; exact ⟨_, rfl, (by first | with_reducible assumption | exact krg _ | exact Keep.al (krg _) _), fun _ _ => rfl⟩)
                          · ((try clear hd); clear hs; simp only [fillG, List.set_cons_zero, List.set_cons_succ]; refine want_n rfl ?_; go_wp2_with (first | fail); simp only [DoneG, fillG, List.set_cons_zero, List.set_cons_succ, relG, eqG, eqG1, eqG2, eqG3, gdG, gdG1, gnG, gnG1, List.getD_cons_zero, List.getD_cons_succ, List.getElem?_cons_succ, List.getElem?_cons_zero, Option.map_some, Option.getD_some, valsG, List.map_cons, List.map_nil, List.length_cons, List.length_nil]; exact ⟨_, rfl, (by first | with_reducible assumption | exact krg _ | exact Keep.al (krg _) _), fun _ _ => rfl⟩)
                          · (have d5 := hd; clear hd; subst d5; clear hs; simp only [fillG, List.set_cons_zero, List.set_cons_succ]; have hKW := Keep.tr (Keep.dr (Keep.rf _)) (hE rfl); have p2 := Keep.cell hKW p2; have r2 := Keep.cell hKW r2; have c0 := Keep.cell hKW c0; have c1 := Keep.cell hKW c1; have e0 := Keep.cell hKW e0; have e1 := Keep.cell hKW e1; refine want_n rfl ?_; go_wp2_with (first | fail); simp only [DoneG, fillG, List.set_cons_zero, List.set_cons_succ, relG, eqG, eqG1, eqG2, eqG3, gdG, gdG1, gnG, gnG1, List.getD_cons_zero, List.getD_cons_succ, List.getElem?_cons_succ, List.getElem?_cons_zero, Option.map_some, Option.getD_some, valsG, List.map_cons, List.map_nil, List.length_cons, List.length_nil]; exact ⟨_, rfl, (by first | with_reducible assumption | exact krg _ | exact Keep.al (krg _) _), fun _ _ => rfl⟩)
                          · ((try clear hd); clear hs; simp only [fillG, List.set_cons_zero, List.set_cons_succ]; refine want_n rfl ?_; go_wp2_with (first | fail); simp only [DoneG, fillG, List.set_cons_zero, List.set_cons_succ, relG, eqG, eqG1, eqG2, eqG3, gdG, gdG1, gnG, gnG1, List.getD_cons_zero, List.getD_cons_succ, List.getElem?_cons_succ, List.getElem?_cons_zero, Option.map_some, Option.getD_some, valsG, List.map_cons, List.map_nil, List.length_cons, List.length_nil]; exact ⟨_, rfl, (by first | with_reducible assumption | exact krg _ | exact Keep.al (krg _) _), fun _ _ => rfl⟩)
                          · (obtain ⟨d6, d7⟩ := hd; subst d6; subst d7; clear hs; simp only [fillG, List.set_cons_zero, List.set_cons_succ]; refine want_n rfl ?_; go_wp2_with (first | fail); simp only [DoneG, fillG, List.set_cons_zero, List.set_cons_succ, relG, eqG, eqG1, eqG2, eqG3, gdG, gdG1, gnG, gnG1, List.getD_cons_zero, List.getD_cons_succ, List.getElem?_cons_succ, List.getElem?_cons_zero, Option.map_some, Option.getD_some, valsG, List.map_cons, List.map_nil, List.length_cons, List.length_nil]; exact ⟨_, rfl, (by first | with_reducible assumption | exact krg _ | exact Keep.al (krg _) _), fun _ _ => rfl⟩)
                          · (have d8 := hd; clear hd; subst d8; clear hs; simp only [fillG, List.set_cons_zero, List.set_cons_succ]; have hKW := Keep.tr (Keep.dr (Keep.rf _)) (hE rfl); have p2 := Keep.cell hKW p2; have r2 := Keep.cell hKW r2; have c0 := Keep.cell hKW c0; have c1 := Keep.cell hKW c1; have e0 := Keep.cell hKW e0; have e1 := Keep.cell hKW e1; refine want_n rfl ?_; go_wp2_with (first | fail); simp only [DoneG, fillG, List.set_cons_zero, List.set_cons_succ, relG, eqG, eqG1, eqG2, eqG3, gdG, gdG1, gnG, gnG1, List.getD_cons_zero, List.getD_cons_succ, List.getElem?_cons_succ, List.getElem?_cons_zero, Option.map_some, Option.getD_some, valsG, List.map_cons, List.map_nil, List.length_cons, List.length_nil]; exact ⟨_, rfl, (by first | with_reducible assumption | exact krg _ | exact Keep.al (krg _) _), fun _ _ => rfl⟩)
                          · (obtain ⟨d4, d9⟩ := hd; subst d4; subst d9; clear hs; simp only [fillG, List.set_cons_zero, List.set_cons_succ]; have hKW := Keep.tr (Keep.dr (Keep.rf _)) (hE rfl); have p2 := Keep.cell hKW p2; have r2 := Keep.cell hKW r2; have c0 := Keep.cell hKW c0; have c1 := Keep.cell hKW c1; have e0 := Keep.cell hKW e0; have e1 := Keep.cell hKW e1; refine want_n rfl ?_; go_wp2_with (first | (go_at_call 46; refine (refSame1s (b1, n1) (b2, n2) _).mono ?_; rintro e w9 ⟨rfl, hk9⟩; rw [HD.out]) | fail); simp only [DoneG, fillG, List.set_cons_zero, List.set_cons_succ, relG, eqG, eqG1, eqG2, eqG3, gdG, gdG1, gnG, gnG1, List.getD_cons_zero, List.getD_cons_succ, List.getElem?_cons_succ, List.getElem?_cons_zero, Option.map_some, Option.getD_some, valsG, List.map_cons, List.map_nil, List.length_cons, List.length_nil]; exact ⟨_, rfl, (by first | with_reducible assumption | exact krg _ | exact Keep.al (krg _) _), fun _ _ => rfl⟩)
                          · (have d10 := hd; clear hd; subst d10; clear hs; simp only [fillG, List.set_cons_zero, List.set_cons_succ]; have hKW := Keep.tr (Keep.dr (Keep.rf _)) (hE rfl); have p2 := Keep.cell hKW p2; have r2 := Keep.cell hKW r2; have c0 := Keep.cell hKW c0; have c1 := Keep.cell hKW c1; have e0 := Keep.cell hKW e0; have e1 := Keep.cell hKW e1; refine want_n rfl ?_; go_wp2_with (first | fail); simp only [DoneG, fillG, List.set_cons_zero, List.set_cons_succ, relG, eqG, eqG1, eqG2, eqG3, gdG, gdG1, gnG, gnG1, List.getD_cons_zero, List.getD_cons_succ, List.getElem?_cons_succ, List.getElem?_cons_zero, Option.map_some, Option.getD_some, valsG, List.map_cons, List.map_nil, List.length_cons, List.length_nil]; exact ⟨_, rfl, (by first | with_reducible assumption | exact krg _ | exact Keep.al (krg _) _), fun _ _ => rfl⟩)
                        (intro us W9 h9 hW hE hA; obtain ⟨u0, u1, u2, u3, u4, u5, u6, u7, u8, u9, u10, u11, rfl⟩ := rog 12 h9 rfl; clear h9; simp only [AllG, AtG, and_true, relG, eqG, eqG1, eqG2, eqG3, gdG, gdG1, gnG, gnG1, List.getD_cons_zero, List.getD_cons_succ, List.getElem?_cons_succ, List.getElem?_cons_zero, Option.map_some, Option.getD_some, valsG, List.map_cons, List.map_nil, List.length_cons, List.length_nil] at hA; have d11 := hA; clear hA; subst d11; simp only [fillG, List.set_cons_zero, List.set_cons_succ]; have k9 := Keep.tr (Keep.dr (Keep.rf _)) hW; clear hW hE)
                        go_wp2_with fail
                        go_ret
                        rw [HXN.out]
                        exact ⟨rfl, Keep.tr (Keep.tr KWC.out kk) k9⟩
                    · have hltki : ¬ (k : Int) < (xk.length : Int) := by omega
                      have HXN := hide (show q = decide (xs.drop (j + 1) = ys.drop (j + 1)) by
                        rw [HE.out, HXK.out, List.drop_of_length_le (by omega), List.drop_of_length_le (by omega), decide_eq_true rfl, Bool.true_and])
                      go_wp2_with fail
                      go_roundw
                      case rel => exact ⟨j + 1, by omega, by go_num, HXN.out, Keep.tr K2C.out kk⟩
                      case measure => simp [intOf]; omega
                · have HE := hide (show q = false by
                    rw [HX.out, HXE.out, decide_eq_false (p := xk = yk) (fun e => h3 (by rw [e])), Bool.and_false, Bool.and_false, Bool.false_and])
                  have h3n : ((xk.length : Int) != (yk.length : Int)) = true := by rw [bne_iff_ne]; omega
                  subst h1 h2
                  clear h3
                  go_wp2_with fail
                  go_ret
                  rw [HE.out]
                  exact ⟨rfl, kwc⟩
              · have HE := hide (show q = false by
                  rw [HX.out, HXE.out, decide_eq_false (p := xstr = ystr) h2, Bool.false_and, Bool.and_false, Bool.false_and])
                have h2n : ((str xstr).toList == (str ystr).toList) = false := by rw [str_lbeq]; exact decide_eq_false h2
                have h2m : ((str xstr).toList != (str ystr).toList) = true := by rw [bne, h2n]; rfl
                subst h1
                clear h2
                go_wp2_with fail
                go_ret
                rw [HE.out]
                exact ⟨rfl, kwc⟩
            · have HE := hide (show q = false by
                rw [HX.out, HXE.out, decide_eq_false (p := xt = yt) h1, Bool.false_and, Bool.false_and])
              have h1n : (xt == yt) = false := by simpa using h1
              have h1m : (xt != yt) = true := by simpa using h1
              clear h1
              go_wp2_with fail
              go_ret
              rw [HE.out]
              exact ⟨rfl, kwc⟩
        · have hlti : ¬ (j : Int) < (xs.length : Int) := by omega
          have HE := hide (show q = true by rw [HX.out, List.drop_of_length_le (by omega), List.drop_of_length_le (by omega)]; rfl)
          have kw := Keep.tr k02 hk
          go_wp2_with fail
          go_ret
          rw [HE.out]
          exact ⟨rfl, kw⟩
    · have HE := hide (show q = false by rw [HQ1.out]; exact decide_eq_false fun e => hll (by rw [e]))
      have hne : ((xs.length : Int) != (ys.length : Int)) = true := by rw [bne_iff_ne]; omega
      clear hll
      go_wp2_with fail
      go_ret
      rw [HE.out]
      exact ⟨rfl, k02⟩
end Go.Proofs.Ytoehaijmkmdggaa
