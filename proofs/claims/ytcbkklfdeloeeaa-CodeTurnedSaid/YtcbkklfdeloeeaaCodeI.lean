/- Walks: no program's bytes; the law CodeHas. -/
import Derived.Test.YtcbkklfdeloeeaaCodeH
namespace Go.Proofs.Ytcbkklfdeloeeaa
open Go.RowKit
set_option linter.unusedVariables false
set_option linter.unusedSimpArgs false
set_option maxRecDepth 100000
/-- Bytes of the call's own, above w's heap, and all else as it was. -/
def Two0 (w : World) (W : World) (v : Value) : Prop := ∃ A c, v = .slice A 2 c ∧ Ob W w.heap.size 5 (.slice A 2 c) [0, 0] ∧ Keep w W
theorem Two0.keep {w W W' : World} {v : Value} (h : Two0 w W v) (k : Keep W W') : Two0 w W' v := by
  obtain ⟨A, c, h1, h2, h3⟩ := h
  exact ⟨A, c, h1, h2.keep k, Keep.tr h3 k⟩
theorem Two0.mk {w Wb W : World} {u v : Value} (k : Keep w Wb) (ho : Ob Wb w.heap.size 5 u [0]) (h : App Wb w.heap.size 5 1 u (1 + 1) ([(0 : UInt8)].map bv ++ [(0 : UInt8)].map bv) v W) : Two0 w W v := by
  have hk : Keep w W := App.below h k k.size fun q hq => (World.ownsRow.lt (show Wb.ownsRow _ _ _ _ _ _ from ho) q hq).1
  have ho2 : Ob W w.heap.size 5 v [0, 0] := App.ob (l := [0]) (m := [0]) h rfl
  obtain ⟨A, c, rfl⟩ := own_slice (show W.ownsRow _ _ _ _ _ _ from ho2)
  exact ⟨A, c, rfl, ho2, hk⟩
set_option maxHeartbeats 4000000 in
theorem codeBytes0 (w : World) : Calls Try.prog 27 #[.agg #[.int .i64 0, .slice none 0 0, .slice none 0 0]] w fun e w' => ∃ v, e = .returned v ∧ Bs w' v [0, 0, 0] ∧ Keep w w' := by
  go_enter Try.func27, Try.ntmps27
  go_wp2_with fail
  generalize hW1 : World.alloc w _ = W1
  have k1 : Keep w W1 := by rw [← hW1]; exact (by repeat (first | exact Keep.rf _ | assumption | apply Keep.al | apply Keep.dr | apply Keep.dn))
  have t0 : W1.cell? ⟨w.heap.size, 0, none⟩ = some (.int .i64 0) := by rw [← hW1]; exact lit_cells rfl _ rfl
  have t1 : W1.cell? ⟨w.heap.size, 1, none⟩ = some (.slice none 0 0) := by rw [← hW1]; exact lit_cells rfl _ rfl
  have t2 : W1.cell? ⟨w.heap.size, 2, none⟩ = some (.slice none 0 0) := by rw [← hW1]; exact lit_cells rfl _ rfl
  have hw1 : w.heap.size < W1.heap.size := by rw [← hW1]; simp
  clear hW1
  refine (codeMay0 _).mono ?_
  rintro e w2 ⟨rfl, k2⟩
  have k12 := Keep.tr k1 k2
  replace t0 := Keep.cell k2 t0
  replace t1 := Keep.cell k2 t1
  replace t2 := Keep.cell k2 t2
  go_wp2_with fail
  apply region_all (by kernel_rfl) Keep AnyW krg ktg anyrf anytr anyk [some 13, some 14, some 15, some 16, some 17, some 18, some 19, some 20, some 3] [eqG _ , eqG _ , fun us W v => ∃ A c, v = .slice A 1 c ∧ Ob W w2.heap.size 5 (.slice A 1 c) [0], eqG _ , eqG _ , eqG _ , fun us W v => ∃ A c, v = .slice A 1 c ∧ Ob W w2.heap.size 5 (.slice A 1 c) [0], fun us W v => Two0 w2 W v, fun us _ v => v = (us.getD 0 undef)] [⟨[], [], true, false, false⟩, ⟨[0], [], true, false, false⟩, ⟨[1], [], true, false, true⟩, ⟨[], [], true, false, false⟩, ⟨[3], [], true, false, false⟩, ⟨[4], [], true, false, false⟩, ⟨[5], [], true, false, true⟩, ⟨[2, 6], [], true, true, true⟩, ⟨[7], [], false, false, false⟩] [7, 8] (by kernel_rfl) (by kernel_rfl) 
  · refine ⟨?_, ?_, ?_, ?_, ?_, ?_, ?_, ?_, ?_, trivial⟩
    · (intro us W h9 hW hE hd hs K hK; obtain ⟨u0, u1, u2, u3, u4, u5, u6, u7, u8, rfl⟩ := rog 9 h9 rfl; clear h9; clear hd; clear hs; simp only [fillG, List.set_cons_zero, List.set_cons_succ]; refine want_n rfl ?_; go_wp2_with (first | fail); simp only [DoneG, fillG, List.set_cons_zero, List.set_cons_succ, relG, eqG, eqG1, eqG2, eqG3, gdG, gdG1, gnG, gnG1, List.getD_cons_zero, List.getD_cons_succ, List.getElem?_cons_succ, List.getElem?_cons_zero, Option.map_some, Option.getD_some, valsG, List.map_cons, List.map_nil, List.length_cons, List.length_nil]; exact ⟨_, rfl, (by first | with_reducible assumption | exact krg _ | exact Keep.al (krg _) _), fun _ _ => rfl⟩)
    · (intro us W h9 hW hE hd hs K hK; obtain ⟨u0, u1, u2, u3, u4, u5, u6, u7, u8, rfl⟩ := rog 9 h9 rfl; clear h9; simp only [DepG, AtG, and_true, relG, eqG, eqG1, eqG2, eqG3, gdG, gdG1, gnG, gnG1, List.getD_cons_zero, List.getD_cons_succ, List.getElem?_cons_succ, List.getElem?_cons_zero, Option.map_some, Option.getD_some, valsG, List.map_cons, List.map_nil, List.length_cons, List.length_nil] at hd; have d0 := hd; clear hd; subst d0; clear hs; simp only [fillG, List.set_cons_zero, List.set_cons_succ]; have hKW := Keep.tr (Keep.dr (Keep.rf _)) (hE rfl); have t0 := Keep.cell hKW t0; have t2 := Keep.cell hKW t2; refine want_n rfl ?_; go_wp2_with (first | fail); simp only [DoneG, fillG, List.set_cons_zero, List.set_cons_succ, relG, eqG, eqG1, eqG2, eqG3, gdG, gdG1, gnG, gnG1, List.getD_cons_zero, List.getD_cons_succ, List.getElem?_cons_succ, List.getElem?_cons_zero, Option.map_some, Option.getD_some, valsG, List.map_cons, List.map_nil, List.length_cons, List.length_nil]; exact ⟨_, rfl, (by first | with_reducible assumption | exact krg _ | exact Keep.al (krg _) _), fun _ _ => rfl⟩)
    · (intro us W h9 hW hE hd hs K hK; obtain ⟨u0, u1, u2, u3, u4, u5, u6, u7, u8, rfl⟩ := rog 9 h9 rfl; clear h9; simp only [DepG, AtG, and_true, relG, eqG, eqG1, eqG2, eqG3, gdG, gdG1, gnG, gnG1, List.getD_cons_zero, List.getD_cons_succ, List.getElem?_cons_succ, List.getElem?_cons_zero, Option.map_some, Option.getD_some, valsG, List.map_cons, List.map_nil, List.length_cons, List.length_nil] at hd; have d1 := hd; clear hd; subst d1; clear hs; simp only [fillG, List.set_cons_zero, List.set_cons_succ]; have hKW := Keep.tr (Keep.dr (Keep.rf _)) (hE rfl); have t0 := Keep.cell hKW t0; have t2 := Keep.cell hKW t2; refine want_n rfl ?_; go_wp2_with (first | (go_at_call 71; refine (codeCount0 _).mono ?_; rintro e w9 ⟨A9, c9, rfl, o9, hk9⟩) | fail); simp only [DoneG, fillG, List.set_cons_zero, List.set_cons_succ, relG, eqG, eqG1, eqG2, eqG3, gdG, gdG1, gnG, gnG1, List.getD_cons_zero, List.getD_cons_succ, List.getElem?_cons_succ, List.getElem?_cons_zero, Option.map_some, Option.getD_some, valsG, List.map_cons, List.map_nil, List.length_cons, List.length_nil]; exact ⟨_, rfl, (by first | with_reducible assumption | exact krg _ | exact Keep.al (krg _) _), fun W9 hk9 => ⟨A9, c9, rfl, (o9.lower (Below.size hKW)).keep hk9⟩⟩)
    · (intro us W h9 hW hE hd hs K hK; obtain ⟨u0, u1, u2, u3, u4, u5, u6, u7, u8, rfl⟩ := rog 9 h9 rfl; clear h9; clear hd; clear hs; simp only [fillG, List.set_cons_zero, List.set_cons_succ]; refine want_n rfl ?_; go_wp2_with (first | fail); simp only [DoneG, fillG, List.set_cons_zero, List.set_cons_succ, relG, eqG, eqG1, eqG2, eqG3, gdG, gdG1, gnG, gnG1, List.getD_cons_zero, List.getD_cons_succ, List.getElem?_cons_succ, List.getElem?_cons_zero, Option.map_some, Option.getD_some, valsG, List.map_cons, List.map_nil, List.length_cons, List.length_nil]; exact ⟨_, rfl, (by first | with_reducible assumption | exact krg _ | exact Keep.al (krg _) _), fun _ _ => rfl⟩)
    · (intro us W h9 hW hE hd hs K hK; obtain ⟨u0, u1, u2, u3, u4, u5, u6, u7, u8, rfl⟩ := rog 9 h9 rfl; clear h9; simp only [DepG, AtG, and_true, relG, eqG, eqG1, eqG2, eqG3, gdG, gdG1, gnG, gnG1, List.getD_cons_zero, List.getD_cons_succ, List.getElem?_cons_succ, List.getElem?_cons_zero, Option.map_some, Option.getD_some, valsG, List.map_cons, List.map_nil, List.length_cons, List.length_nil] at hd; have d3 := hd; clear hd; subst d3; clear hs; simp only [fillG, List.set_cons_zero, List.set_cons_succ]; have hKW := Keep.tr (Keep.dr (Keep.rf _)) (hE rfl); have t0 := Keep.cell hKW t0; have t2 := Keep.cell hKW t2; refine want_n rfl ?_; go_wp2_with (first | fail); simp only [DoneG, fillG, List.set_cons_zero, List.set_cons_succ, relG, eqG, eqG1, eqG2, eqG3, gdG, gdG1, gnG, gnG1, List.getD_cons_zero, List.getD_cons_succ, List.getElem?_cons_succ, List.getElem?_cons_zero, Option.map_some, Option.getD_some, valsG, List.map_cons, List.map_nil, List.length_cons, List.length_nil]; exact ⟨_, rfl, (by first | with_reducible assumption | exact krg _ | exact Keep.al (krg _) _), fun _ _ => rfl⟩)
    · (intro us W h9 hW hE hd hs K hK; obtain ⟨u0, u1, u2, u3, u4, u5, u6, u7, u8, rfl⟩ := rog 9 h9 rfl; clear h9; simp only [DepG, AtG, and_true, relG, eqG, eqG1, eqG2, eqG3, gdG, gdG1, gnG, gnG1, List.getD_cons_zero, List.getD_cons_succ, List.getElem?_cons_succ, List.getElem?_cons_zero, Option.map_some, Option.getD_some, valsG, List.map_cons, List.map_nil, List.length_cons, List.length_nil] at hd; have d4 := hd; clear hd; subst d4; clear hs; simp only [fillG, List.set_cons_zero, List.set_cons_succ]; have hKW := Keep.tr (Keep.dr (Keep.rf _)) (hE rfl); have t0 := Keep.cell hKW t0; have t2 := Keep.cell hKW t2; refine want_n rfl ?_; go_wp2_with (first | fail); simp only [DoneG, fillG, List.set_cons_zero, List.set_cons_succ, relG, eqG, eqG1, eqG2, eqG3, gdG, gdG1, gnG, gnG1, List.getD_cons_zero, List.getD_cons_succ, List.getElem?_cons_succ, List.getElem?_cons_zero, Option.map_some, Option.getD_some, valsG, List.map_cons, List.map_nil, List.length_cons, List.length_nil]; exact ⟨_, rfl, (by first | with_reducible assumption | exact krg _ | exact Keep.al (krg _) _), fun _ _ => rfl⟩)
    · (intro us W h9 hW hE hd hs K hK; obtain ⟨u0, u1, u2, u3, u4, u5, u6, u7, u8, rfl⟩ := rog 9 h9 rfl; clear h9; simp only [DepG, AtG, and_true, relG, eqG, eqG1, eqG2, eqG3, gdG, gdG1, gnG, gnG1, List.getD_cons_zero, List.getD_cons_succ, List.getElem?_cons_succ, List.getElem?_cons_zero, Option.map_some, Option.getD_some, valsG, List.map_cons, List.map_nil, List.length_cons, List.length_nil] at hd; have d5 := hd; clear hd; subst d5; clear hs; simp only [fillG, List.set_cons_zero, List.set_cons_succ]; have hKW := Keep.tr (Keep.dr (Keep.rf _)) (hE rfl); have t0 := Keep.cell hKW t0; have t2 := Keep.cell hKW t2; refine want_n rfl ?_; go_wp2_with (first | (go_at_call 71; refine (codeCount0 _).mono ?_; rintro e w9 ⟨A9, c9, rfl, o9, hk9⟩) | fail); simp only [DoneG, fillG, List.set_cons_zero, List.set_cons_succ, relG, eqG, eqG1, eqG2, eqG3, gdG, gdG1, gnG, gnG1, List.getD_cons_zero, List.getD_cons_succ, List.getElem?_cons_succ, List.getElem?_cons_zero, Option.map_some, Option.getD_some, valsG, List.map_cons, List.map_nil, List.length_cons, List.length_nil]; exact ⟨_, rfl, (by first | with_reducible assumption | exact krg _ | exact Keep.al (krg _) _), fun W9 hk9 => ⟨A9, c9, rfl, (o9.lower (Below.size hKW)).keep hk9⟩⟩)
    · (intro us W h9 hW hE hd hs K hK; obtain ⟨u0, u1, u2, u3, u4, u5, u6, u7, u8, rfl⟩ := rog 9 h9 rfl; clear h9; simp only [DepG, AtG, and_true, relG, eqG, eqG1, eqG2, eqG3, gdG, gdG1, gnG, gnG1, List.getD_cons_zero, List.getD_cons_succ, List.getElem?_cons_succ, List.getElem?_cons_zero, Option.map_some, Option.getD_some, valsG, List.map_cons, List.map_nil, List.length_cons, List.length_nil] at hd; obtain ⟨d2, d6⟩ := hd; obtain ⟨A2, c2, rfl, o2⟩ := d2; obtain ⟨A6, c6, rfl, o6⟩ := d6; clear hs; simp only [fillG, List.set_cons_zero, List.set_cons_succ]; have hKW := Keep.tr (Keep.dr (Keep.rf _)) (hE rfl); have t0 := Keep.cell hKW t0; have t2 := Keep.cell hKW t2; refine want_n rfl ?_; refine wp_app (.tmp 15) (.tmp 19) 29 rfl w2.heap.size 5 _ 1 1 Try.underlying29 infoU8 rfl (by omega) _ 1 _ rfl (show World.ownsRow _ _ _ _ _ _ _ from o2) _ 1 _ rfl (Bs.src (l := [0]) o6.bs) (fun u hu => bv_one u [0] hu) (by simp only [maxLen]; omega) (by omega) (Below.size hKW) ?_; intro v12 w12 ha; refine hK _ _ ?_; simp only [DoneG, fillG, List.set_cons_zero, List.set_cons_succ, relG, eqG, eqG1, eqG2, eqG3, gdG, gdG1, gnG, gnG1, List.getD_cons_zero, List.getD_cons_succ, List.getElem?_cons_succ, List.getElem?_cons_zero, Option.map_some, Option.getD_some, valsG, List.map_cons, List.map_nil, List.length_cons, List.length_nil]; exact ⟨_, rfl, (by first | with_reducible assumption | exact trivial), fun W9 hk9 => (Two0.mk hKW o2 ha).keep hk9⟩)
    · (intro us W h9 hW hE hd hs K hK; obtain ⟨u0, u1, u2, u3, u4, u5, u6, u7, u8, rfl⟩ := rog 9 h9 rfl; clear h9; simp only [DepG, AtG, and_true, relG, eqG, eqG1, eqG2, eqG3, gdG, gdG1, gnG, gnG1, List.getD_cons_zero, List.getD_cons_succ, List.getElem?_cons_succ, List.getElem?_cons_zero, Option.map_some, Option.getD_some, valsG, List.map_cons, List.map_nil, List.length_cons, List.length_nil] at hd; have d7 := hd; clear hd; clear hs; simp only [fillG, List.set_cons_zero, List.set_cons_succ]; refine want_n rfl ?_; go_wp2_with (first | fail); simp only [DoneG, fillG, List.set_cons_zero, List.set_cons_succ, relG, eqG, eqG1, eqG2, eqG3, gdG, gdG1, gnG, gnG1, List.getD_cons_zero, List.getD_cons_succ, List.getElem?_cons_succ, List.getElem?_cons_zero, Option.map_some, Option.getD_some, valsG, List.map_cons, List.map_nil, List.length_cons, List.length_nil]; exact ⟨_, rfl, (by first | with_reducible assumption | exact krg _ | exact Keep.al (krg _) _), fun _ _ => rfl⟩)
  (intro us W3 h9 hW hE hA; obtain ⟨u0, u1, u2, u3, u4, u5, u6, u7, u8, rfl⟩ := rog 9 h9 rfl; clear h9; simp only [AllG, AtG, and_true, relG, eqG, eqG1, eqG2, eqG3, gdG, gdG1, gnG, gnG1, List.getD_cons_zero, List.getD_cons_succ, List.getElem?_cons_succ, List.getElem?_cons_zero, Option.map_some, Option.getD_some, valsG, List.map_cons, List.map_nil, List.length_cons, List.length_nil] at hA; obtain ⟨d7, d8⟩ := hA; subst d8; simp only [fillG, List.set_cons_zero, List.set_cons_succ])
  obtain ⟨A7, c7, rfl, o7, k7⟩ := d7
  have k3 := Keep.tr k12 k7
  replace t0 := Keep.cell k7 t0
  replace t1 := Keep.cell k7 t1
  replace t2 := Keep.cell k7 t2
  have o8 : Ob W3 w.heap.size 5 (.slice A7 2 c7) [0, 0] := o7.lower k12.size
  have hne : ∀ k, (Value.slice A7 2 c7).ownBlock = some k → k ≠ w.heap.size := fun k hk e => by
    have := (World.ownsRow.lt (show W3.ownsRow _ _ _ _ _ _ from o7) k hk).1
    have := k2.size
    omega
  have HNE := hide hne
  clear hW hE o7 k7 hne
  go_wp2_with fail
  go_loopw [3, 24] (fun v i W => v = .slice A7 2 c7 ∧ i = .int .i64 0 ∧ W = W3) (fun _ _ _ => 0)
  case atStart => exact ⟨rfl, rfl, rfl⟩
  case round =>
    obtain ⟨rfl, rfl, rfl⟩ := hrel
    go_wp2_with fail
    refine (codeCount0 _).mono ?_
    rintro e w4 ⟨A9, c9, rfl, o9, k4⟩
    have t14 := Keep.cell k4 t1
    have k34 := Keep.tr k3 k4
    go_wp2_with (first
      | (at_builtin; go_loud (refine appB (w0 := w) rfl (.tmp 36) (.tmp 40) rfl _ [0, 0] rfl (o8.keep k4) _ [0] rfl o9.bs k34 (by simp) ?_); intro v5 w5 ho5 hk5 hg5 hat5; have t15 := (Frm.of_grown (S := fun k => (Value.slice A7 2 c7).ownBlock = some k) hg5 fun _ e => e).cell (a := ⟨w.heap.size, 1, none⟩) (fun e => HNE.out _ e rfl) t14)
      | fail)
    have HO5 := hide ho5
    clear hg5 hat5 ho5
    go_loopw [3, 45] (fun v i W => v = v5 ∧ i = .int .i64 0 ∧ W = w5) (fun _ _ _ => 0)
    case atStart => exact ⟨rfl, rfl, rfl⟩
    case round =>
      obtain ⟨rfl, rfl, rfl⟩ := hrel
      go_wp2_with fail
      go_ret
      exact ⟨_, rfl, Ob.bs HO5.out, hk5⟩
set_option maxHeartbeats 1000000 in
theorem codeKnown (w : World) : Calls Try.prog 17 #[] w fun e w' => e = .returned (.bool true) ∧ Keep w w' := by
  go_enter Try.func17, Try.ntmps17
  go_wp2_with fail
  refine (codeBytes0 _).mono ?_
  rintro e w1 ⟨v, rfl, hb, k1⟩
  have hc := run_conv_bs (P := Try.prog) hb 29 5 9 Try.underlying29 Try.underlying5 Try.underlying9
  have hstr : (str [0, 0, 0]).toList = [0, 0, 0] := str_list _
  obtain ⟨A, c, rfl, _⟩ := hb
  simp only [List.length_cons, List.length_nil] at hc ⊢
  go_wp2_with fail
  refine (codeHasN 3 _).mono ?_
  rintro e w' ⟨rfl, rfl⟩
  simp only [show Em.hasN 3 = true from rfl]
  go_wp2_with fail
  refine (codeHasN 17 _).mono ?_
  rintro e w' ⟨rfl, rfl⟩
  simp only [show Em.hasN 17 = false from rfl]
  go_wp2_with fail
  go_ret
  exact ⟨rfl, k1⟩
theorem CodeHas_walk (w : World) (n : Int) (hn : (Lit.int .i64 n).wf = true) : Calls Try.prog 3 #[.int .i64 n] w fun e w' => e = .returned (.bool true) ∧ Keep w w' := by
  have H1 := codeHasN n w
  have H2 := refHasN n w
  generalize Em.hasN n = x at *
  go_enter Try.func3, Try.ntmps3
  go_wp2_with fail
  refine H1.mono ?_
  rintro e w' ⟨rfl, rfl⟩
  go_wp2_with fail
  refine H2.mono ?_
  rintro e w' ⟨rfl, rfl⟩
  go_wp2_with fail
  refine (codeKnown _).mono ?_
  rintro e w1 ⟨rfl, k1⟩
  go_wp2_with fail
  go_ret
  exact ⟨by simp, k1⟩
end Go.Proofs.Ytcbkklfdeloeeaa
