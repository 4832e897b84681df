/- The law CodeBytes: walk. -/
import Derived.Test.YtcbkklfdeloeeaaCodeU
namespace Go.Proofs.Ytcbkklfdeloeeaa
open Go.RowKit
open Em (Prg)
set_option linter.unusedVariables false
set_option maxRecDepth 100000
set_option maxHeartbeats 16000000 in
theorem CodeBytes_walk (w : World) (v : Value) (p : Prg) (h : PrgV w v p) (_ : True) : Calls Try.prog 7 #[v] w fun e w' => e = .returned (.bool true) ∧ Keep w w' := by
  obtain ⟨cs, rfl, h⟩ := h
  have hin := h.inn
  have HP := hide h
  obtain ⟨vf, vs, rfl, hwf, ⟨fA, fc, rfl, _⟩, ⟨sA, sc, rfl, _⟩⟩ := h
  have hb := heap_alloc_new w (.cells #[.int .i64 p.depth, .slice fA p.funs.length fc, .slice sA p.strs.length sc] 36)
  have k0 : Keep w (w.alloc (.cells #[.int .i64 p.depth, .slice fA p.funs.length fc, .slice sA p.strs.length sc] 36)) := (by repeat (first | exact Keep.rf _ | assumption | apply Keep.al | apply Keep.dr | apply Keep.dn))
  have t0 := top_cells hb 0
  have t1 := top_cells hb 1
  have t2 := top_cells hb 2
  simp only [List.getElem?_toArray, List.getElem?_cons_succ, List.getElem?_cons_zero] at t0 t1 t2
  have hrp := readP_put p hin
  generalize hbt : Em.bytesP p = bt at *
  have HBT := hide hbt
  have HRP := hide hrp
  have HIN := hide hin
  clear hb hbt hrp hin
  go_enter Try.func7, Try.ntmps7
  go_wp2_with fail
  generalize World.alloc w _ = W1 at *
  refine (lawLong13 W1 _ p (HP.out.keep k0)).mono ?_
  rintro e w2 ⟨⟨b, rfl⟩, k2⟩
  have k02 := Keep.tr k0 k2
  replace t0 := Keep.cell k2 t0
  replace t1 := Keep.cell k2 t1
  replace t2 := Keep.cell k2 t2
  cases b with
  | true =>
    go_wp2_with fail
    go_ret
    exact ⟨rfl, k02⟩
  | false =>
    go_wp2_with fail
    refine (codeBytes w2 _ p (HP.out.keep k02) HIN.out).mono ?_
    rintro e w3 ⟨v3, rfl, o3, k3⟩
    rw [HBT.out] at o3
    obtain ⟨A3, c3, rfl⟩ := own_slice (show w3.ownsRow _ _ _ _ _ _ from o3)
    have hb3 := o3.bs
    have k03 := Keep.tr k02 k3
    replace t0 := Keep.cell k3 t0
    replace t1 := Keep.cell k3 t1
    replace t2 := Keep.cell k3 t2
    clear o3
    go_wp2_with fail
    refine (refBytes13 w3 _ p (HP.out.keep k03) HIN.out).mono ?_
    rintro e w4 ⟨v4, rfl, o4, k4⟩
    rw [HBT.out] at o4
    obtain ⟨A4, c4, rfl⟩ := own_slice (show w4.ownsRow _ _ _ _ _ _ from o4)
    have hb4 := o4.bs
    have hb34 := hb3.keep k4
    have k04 := Keep.tr k03 k4
    replace t0 := Keep.cell k4 t0
    replace t1 := Keep.cell k4 t1
    replace t2 := Keep.cell k4 t2
    have hcA := run_conv_bs (P := Try.prog) hb34 29 5 9 Try.underlying29 Try.underlying5 Try.underlying9
    have hcB := run_conv_bs (P := Try.prog) hb4 29 5 9 Try.underlying29 Try.underlying5 Try.underlying9
    have hss : ((str bt).toList == (str bt).toList) = true := by simp
    have HB3 := hide hb34
    have HB4 := hide hb4
    clear o4 hb3 hb4 hb34
    go_wp2_with fail
    refine (codeMark w4 _ p (HP.out.keep k04)).mono ?_
    rintro e w5 ⟨rfl, k5⟩
    rw [HBT.out]
    have k05 := Keep.tr k04 k5
    replace t0 := Keep.cell k5 t0
    replace t1 := Keep.cell k5 t1
    replace t2 := Keep.cell k5 t2
    clear hcA hcB
    go_wp2_with fail
    refine (refMark _ bt _ (HB4.out.keep k5)).mono ?_
    rintro e w6 ⟨rfl, rfl⟩
    go_wp2_with fail
    refine (codeRead _ _ bt (HB3.out.keep k5)).mono ?_
    rintro e w7 ⟨d7, gA, gn, gc, tA, tn, tc, rfl, k7, hp7, hi7⟩
    rw [HRP.out] at hp7 ⊢
    have hx7 := heap_alloc_new w7 (.cells #[.int .i64 d7, .slice gA gn gc, .slice tA tn tc] 36)
    have k78 : Keep w7 (w7.alloc (.cells #[.int .i64 d7, .slice gA gn gc, .slice tA tn tc] 36)) := (by repeat (first | exact Keep.rf _ | assumption | apply Keep.al | apply Keep.dr | apply Keep.dn))
    have hp8 := hp7.keep k78
    have k08 := Keep.tr (Keep.tr k05 k7) k78
    have k58 := Keep.tr k7 k78
    replace t0 := Keep.cell k58 t0
    replace t1 := Keep.cell k58 t1
    replace t2 := Keep.cell k58 t2
    have x0 := top_cells hx7 0
    have x1 := top_cells hx7 1
    have x2 := top_cells hx7 2
    simp only [List.getElem?_toArray, List.getElem?_cons_succ, List.getElem?_cons_zero] at x0 x1 x2
    have HP8 := hide hp8
    have HIS := hide fun W (k : Keep w W) => refIs13 W _ p (HP.out.keep k)
    clear hx7 k78 hp7 hp8 k7 k58
    generalize hok : Em.okP p = ok at *
    clear hok
    cases ok with
    | false =>
      go_wp2_with fail
      generalize World.alloc w7 _ = W8 at *
      refine (HIS.out _ k08).mono ?_
      rintro e w9 ⟨rfl, k9⟩
      go_wp2_with fail
      refine (codeKnown _).mono ?_
      rintro e w10 ⟨rfl, k10⟩
      go_wp2_with fail
      go_ret
      exact ⟨rfl, Keep.tr (Keep.tr k08 k9) k10⟩
    | true =>
      go_wp2_with fail
      generalize World.alloc w7 _ = W8 at *
      refine (HIS.out _ k08).mono ?_
      rintro e w9 ⟨rfl, k9⟩
      replace t0 := Keep.cell k9 t0
      replace t1 := Keep.cell k9 t1
      replace t2 := Keep.cell k9 t2
      replace x0 := Keep.cell k9 x0
      replace x1 := Keep.cell k9 x1
      replace x2 := Keep.cell k9 x2
      have HSM := hide (refSame13 w9 _ _ p (HP8.out.keep k9) (HP.out.keep (Keep.tr k08 k9)))
      go_wp2_with fail
      refine HSM.out.mono ?_
      rintro e w10 ⟨rfl, k10⟩
      go_wp2_with fail
      refine (codeKnown _).mono ?_
      rintro e w11 ⟨rfl, k11⟩
      go_wp2_with fail
      go_ret
      exact ⟨rfl, Keep.tr (Keep.tr (Keep.tr k08 k9) k10) k11⟩
end Go.Proofs.Ytcbkklfdeloeeaa
