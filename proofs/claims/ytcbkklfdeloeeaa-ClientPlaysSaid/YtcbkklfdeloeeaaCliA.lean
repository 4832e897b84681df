/- Walks: which calls may be; a call's bytes. -/
import Derived.Test.YtcbkklfdeloeeaaFrameW
import Derived.Test.YtcbkklfdeloeeaaCliP
import Derived.Test.YtcbkklfdeloeeaaProg
import Derived.Test.YtcbkklfdeloeeaaLibS
import Derived.Test.YtcbkklfdeloeeaaLibK
import Derived.Test.YtcbkklfdeloeeaaReg
import Derived.Test.YtcbkklfdeloeeaaOpen3
namespace Go.Proofs.Ytcbkklfdeloeeaa
open Go.RowKit
set_option linter.unusedVariables false
set_option linter.unusedSimpArgs false
set_option maxRecDepth 100000
/-- Bytes of the call's own. -/
def OwnC (w0 : World) (l : List UInt8) (W : World) (v : Value) : Prop := ∃ A c, v = .slice A l.length c ∧ Obs W w0.heap.size (.slice A l.length c) l
theorem OwnC.keep {w0 W W' : World} {l : List UInt8} {v : Value} (h : OwnC w0 l W v) (k : Keep W W') : OwnC w0 l W' v := by
  obtain ⟨A, c, e, h⟩ := h
  exact ⟨A, c, e, h.keep k⟩
theorem OwnC.of {w0 W : World} {l : List UInt8} {v : Value} (h : Obs W w0.heap.size v l) : OwnC w0 l W v := by
  obtain ⟨A, c, rfl⟩ := own_slice (show W.ownsRow _ _ _ _ _ _ from h)
  exact ⟨A, c, rfl, h⟩
/-- Bytes of the call's own, and all else as it was. -/
def AccC (w0 : World) (l : List UInt8) (W : World) (v : Value) : Prop := OwnC w0 l W v ∧ Keep w0 W
theorem AccC.keep {w0 W W' : World} {l : List UInt8} {v : Value} (h : AccC w0 l W v) (k : Keep W W') : AccC w0 l W' v := ⟨h.1.keep k, Keep.tr h.2 k⟩
theorem AccC.mk' {w0 Wb W : World} {l m : List UInt8} {n : Nat} {u v : Value} (k : Keep w0 Wb) (ho : Obs Wb w0.heap.size u l) (h : App Wb w0.heap.size 5 1 u n (l.map bv ++ m.map bv) v W) (hn : n = l.length + m.length) : AccC w0 (l ++ m) W v :=
  ⟨OwnC.of (App.ob h hn), App.below h k k.size fun q hq => (World.ownsRow.lt (show Wb.ownsRow _ _ _ _ _ _ from ho) q hq).1⟩
theorem srvIs (e s : Int) (w : World) : Calls Try.prog 107 #[.agg #[.int .i64 e, .int .i64 s]] w fun x w' => x = .returned (.bool (Em.isC e s)) ∧ Keep w w' := by
  by_cases h1 : 0 ≤ e
  · by_cases h2 : e ≤ 2147483647
    · by_cases h3 : 0 ≤ s
      · have hf := hide (show Em.isC e s = decide (s ≤ 2147483647) from by simp [Em.isC, h1, h2, h3])
        generalize Em.isC e s = r at *
        go_enter Try.func107, Try.ntmps107
        go_wp2
        go_ret
        exact ⟨by rw [hf.out]; rfl, (by repeat (first | exact Keep.rf _ | assumption | apply Keep.al | apply Keep.dr | apply Keep.dn))⟩
      · have hf := hide (show Em.isC e s = false from by simp [Em.isC, h1, h2, h3])
        generalize Em.isC e s = r at *
        go_enter Try.func107, Try.ntmps107
        go_wp2
        go_ret
        exact ⟨by rw [hf.out]; rfl, (by repeat (first | exact Keep.rf _ | assumption | apply Keep.al | apply Keep.dr | apply Keep.dn))⟩
    · have hf := hide (show Em.isC e s = false from by simp [Em.isC, h1, h2])
      generalize Em.isC e s = r at *
      go_enter Try.func107, Try.ntmps107
      go_wp2
      go_ret
      exact ⟨by rw [hf.out]; rfl, (by repeat (first | exact Keep.rf _ | assumption | apply Keep.al | apply Keep.dr | apply Keep.dn))⟩
  · have hf := hide (show Em.isC e s = false from by simp [Em.isC, h1])
    generalize Em.isC e s = r at *
    go_enter Try.func107, Try.ntmps107
    go_wp2
    go_ret
    exact ⟨by rw [hf.out]; rfl, (by repeat (first | exact Keep.rf _ | assumption | apply Keep.al | apply Keep.dr | apply Keep.dn))⟩
theorem ref5Is (e s : Int) (w : World) : Calls Try.prog 113 #[.agg #[.int .i64 e, .int .i64 s]] w fun x w' => x = .returned (.bool (Em.isC e s)) ∧ Keep w w' := by
  by_cases h1 : 0 ≤ e
  · by_cases h2 : e < 2147483648
    · have h2' := hide (show e ≤ 2147483647 from by omega)
      by_cases h3 : 0 ≤ s
      · have hf := hide (show Em.isC e s = decide (s < 2147483648) from by
          have := h2'.out
          simp only [Em.isC, h1, h3, this, decide_true, Bool.true_and]
          exact decide_eq_decide.mpr (by omega))
        generalize Em.isC e s = r at *
        clear h2'
        go_enter Try.func113, Try.ntmps113
        go_wp2
        go_ret
        exact ⟨by rw [hf.out]; rfl, (by repeat (first | exact Keep.rf _ | assumption | apply Keep.al | apply Keep.dr | apply Keep.dn))⟩
      · have hf := hide (show Em.isC e s = false from by simp [Em.isC, h1, h3])
        generalize Em.isC e s = r at *
        clear h2'
        go_enter Try.func113, Try.ntmps113
        go_wp2
        go_ret
        exact ⟨by rw [hf.out]; rfl, (by repeat (first | exact Keep.rf _ | assumption | apply Keep.al | apply Keep.dr | apply Keep.dn))⟩
    · have hf := hide (show Em.isC e s = false from by
        have : ¬ e ≤ 2147483647 := by omega
        simp [Em.isC, this])
      generalize Em.isC e s = r at *
      go_enter Try.func113, Try.ntmps113
      go_wp2
      go_ret
      exact ⟨by rw [hf.out]; rfl, (by repeat (first | exact Keep.rf _ | assumption | apply Keep.al | apply Keep.dr | apply Keep.dn))⟩
  · have hf := hide (show Em.isC e s = false from by simp [Em.isC, h1])
    generalize Em.isC e s = r at *
    go_enter Try.func113, Try.ntmps113
    go_wp2
    go_ret
    exact ⟨by rw [hf.out]; rfl, (by repeat (first | exact Keep.rf _ | assumption | apply Keep.al | apply Keep.dr | apply Keep.dn))⟩
set_option maxHeartbeats 4000000 in
theorem ref5Call (e s : Nat) (he : e < 2147483648) (hs : s < 2147483648) (w : World) : Calls Try.prog 114 #[.agg #[.int .i64 (e : Int), .int .i64 (s : Int)]] w (RetB w (Em.putN e ++ Em.putN s)) := by
  have L1 := Em.putN_len10 (v := e) (by omega)
  have L2 := Em.putN_len10 (v := s) (by omega)
  have P1 := fun w => refPut e (by omega) w
  have P2 := fun w => refPut s (by omega) w
  go_enter Try.func114, Try.ntmps114
  go_wp2_with fail
  have hb1 := heap_alloc_new w (.cells #[.int .i64 (e : Int), .int .i64 (s : Int)] 54)
  have k0 : Keep w (w.alloc (.cells #[.int .i64 (e : Int), .int .i64 (s : Int)] 54)) := (by repeat (first | exact Keep.rf _ | assumption | apply Keep.al | apply Keep.dr | apply Keep.dn))
  generalize World.alloc w _ = W1 at *
  have t0 := top_cells hb1 0
  have t1 := top_cells hb1 1
  simp only [List.getElem?_toArray, List.getElem?_cons_succ, List.getElem?_cons_zero] at t0 t1
  clear hb1
  have hsz := k0.size
  apply region_all (by kernel_rfl) Keep AnyW krg ktg anyrf anytr anyk [some 3, some 4, some 5, some 6, some 7, some 8, some 9, some 10, some 11, some 2] [eqG _ , eqG _ , eqG _ , fun us W v => OwnC W1 (Em.putN e) W v, eqG _ , eqG _ , eqG _ , fun us W v => OwnC W1 (Em.putN s) W v, fun us W v => AccC W1 (Em.putN e ++ Em.putN s) W v, fun us _ v => v = (us.getD 0 undef)] [⟨[], [], true, false, false⟩, ⟨[0], [], true, false, false⟩, ⟨[1], [], true, false, false⟩, ⟨[2], [], true, false, true⟩, ⟨[], [], true, false, false⟩, ⟨[4], [], true, false, false⟩, ⟨[5], [], true, false, false⟩, ⟨[6], [], true, false, true⟩, ⟨[3, 7], [], true, true, true⟩, ⟨[8], [], false, false, false⟩] [8, 9] (by kernel_rfl) (by kernel_rfl) 
  · refine ⟨?_, ?_, ?_, ?_, ?_, ?_, ?_, ?_, ?_, ?_, trivial⟩
    · (intro us W h9 hW hE hd hs K hK; obtain ⟨u0, u1, u2, u3, u4, u5, u6, u7, u8, u9, rfl⟩ := rog 10 h9 rfl; clear h9; clear hd; clear hs; simp only [fillG, List.set_cons_zero, List.set_cons_succ]; refine want_n rfl ?_; go_wp2_with (first | fail); simp only [DoneG, fillG, List.set_cons_zero, List.set_cons_succ, relG, eqG, eqG1, eqG2, eqG3, gdG, gdG1, gnG, gnG1, List.getD_cons_zero, List.getD_cons_succ, List.getElem?_cons_succ, List.getElem?_cons_zero, Option.map_some, Option.getD_some, valsG, List.map_cons, List.map_nil, List.length_cons, List.length_nil]; exact ⟨_, rfl, (by first | with_reducible assumption | exact krg _ | exact Keep.al (krg _) _), fun _ _ => rfl⟩)
    · (intro us W h9 hW hE hd hs K hK; obtain ⟨u0, u1, u2, u3, u4, u5, u6, u7, u8, u9, rfl⟩ := rog 10 h9 rfl; clear h9; simp only [DepG, AtG, and_true, relG, eqG, eqG1, eqG2, eqG3, gdG, gdG1, gnG, gnG1, List.getD_cons_zero, List.getD_cons_succ, List.getElem?_cons_succ, List.getElem?_cons_zero, Option.map_some, Option.getD_some, valsG, List.map_cons, List.map_nil, List.length_cons, List.length_nil] at hd; have d0 := hd; clear hd; subst d0; clear hs; simp only [fillG, List.set_cons_zero, List.set_cons_succ]; have hKW := Keep.tr (Keep.dr (Keep.rf _)) (hE rfl); have t0 := Keep.cell hKW t0; have t1 := Keep.cell hKW t1; refine want_n rfl ?_; go_wp2_with (first | fail); simp only [DoneG, fillG, List.set_cons_zero, List.set_cons_succ, relG, eqG, eqG1, eqG2, eqG3, gdG, gdG1, gnG, gnG1, List.getD_cons_zero, List.getD_cons_succ, List.getElem?_cons_succ, List.getElem?_cons_zero, Option.map_some, Option.getD_some, valsG, List.map_cons, List.map_nil, List.length_cons, List.length_nil]; exact ⟨_, rfl, (by first | with_reducible assumption | exact krg _ | exact Keep.al (krg _) _), fun _ _ => rfl⟩)
    · (intro us W h9 hW hE hd hs K hK; obtain ⟨u0, u1, u2, u3, u4, u5, u6, u7, u8, u9, rfl⟩ := rog 10 h9 rfl; clear h9; simp only [DepG, AtG, and_true, relG, eqG, eqG1, eqG2, eqG3, gdG, gdG1, gnG, gnG1, List.getD_cons_zero, List.getD_cons_succ, List.getElem?_cons_succ, List.getElem?_cons_zero, Option.map_some, Option.getD_some, valsG, List.map_cons, List.map_nil, List.length_cons, List.length_nil] at hd; have d1 := hd; clear hd; subst d1; clear hs; simp only [fillG, List.set_cons_zero, List.set_cons_succ]; refine want_n rfl ?_; go_wp2_with (first | fail); simp only [DoneG, fillG, List.set_cons_zero, List.set_cons_succ, relG, eqG, eqG1, eqG2, eqG3, gdG, gdG1, gnG, gnG1, List.getD_cons_zero, List.getD_cons_succ, List.getElem?_cons_succ, List.getElem?_cons_zero, Option.map_some, Option.getD_some, valsG, List.map_cons, List.map_nil, List.length_cons, List.length_nil]; exact ⟨_, rfl, (by first | with_reducible assumption | exact krg _ | exact Keep.al (krg _) _), fun _ _ => rfl⟩)
    · (intro us W h9 hW hE hd hs K hK; obtain ⟨u0, u1, u2, u3, u4, u5, u6, u7, u8, u9, rfl⟩ := rog 10 h9 rfl; clear h9; simp only [DepG, AtG, and_true, relG, eqG, eqG1, eqG2, eqG3, gdG, gdG1, gnG, gnG1, List.getD_cons_zero, List.getD_cons_succ, List.getElem?_cons_succ, List.getElem?_cons_zero, Option.map_some, Option.getD_some, valsG, List.map_cons, List.map_nil, List.length_cons, List.length_nil] at hd; have d2 := hd; clear hd; subst d2; clear hs; simp only [fillG, List.set_cons_zero, List.set_cons_succ]; have hKW := Keep.tr (Keep.dr (Keep.rf _)) (hE rfl); have t0 := Keep.cell hKW t0; have t1 := Keep.cell hKW t1; refine want_n rfl ?_; go_wp2_with (first | (go_at_call 75; refine (refPut e (by omega) _).mono ?_; rintro e w9 ⟨v9, rfl, o9, hk9⟩) | fail); simp only [DoneG, fillG, List.set_cons_zero, List.set_cons_succ, relG, eqG, eqG1, eqG2, eqG3, gdG, gdG1, gnG, gnG1, List.getD_cons_zero, List.getD_cons_succ, List.getElem?_cons_succ, List.getElem?_cons_zero, Option.map_some, Option.getD_some, valsG, List.map_cons, List.map_nil, List.length_cons, List.length_nil]; exact ⟨_, rfl, (by first | with_reducible assumption | exact krg _ | exact Keep.al (krg _) _), fun W9 hk9 => (OwnC.of (Ob.lower o9 (Below.size hKW))).keep hk9⟩)
    · (intro us W h9 hW hE hd hs K hK; obtain ⟨u0, u1, u2, u3, u4, u5, u6, u7, u8, u9, rfl⟩ := rog 10 h9 rfl; clear h9; clear hd; clear hs; simp only [fillG, List.set_cons_zero, List.set_cons_succ]; refine want_n rfl ?_; go_wp2_with (first | fail); simp only [DoneG, fillG, List.set_cons_zero, List.set_cons_succ, relG, eqG, eqG1, eqG2, eqG3, gdG, gdG1, gnG, gnG1, List.getD_cons_zero, List.getD_cons_succ, List.getElem?_cons_succ, List.getElem?_cons_zero, Option.map_some, Option.getD_some, valsG, List.map_cons, List.map_nil, List.length_cons, List.length_nil]; exact ⟨_, rfl, (by first | with_reducible assumption | exact krg _ | exact Keep.al (krg _) _), fun _ _ => rfl⟩)
    · (intro us W h9 hW hE hd hs K hK; obtain ⟨u0, u1, u2, u3, u4, u5, u6, u7, u8, u9, rfl⟩ := rog 10 h9 rfl; clear h9; simp only [DepG, AtG, and_true, relG, eqG, eqG1, eqG2, eqG3, gdG, gdG1, gnG, gnG1, List.getD_cons_zero, List.getD_cons_succ, List.getElem?_cons_succ, List.getElem?_cons_zero, Option.map_some, Option.getD_some, valsG, List.map_cons, List.map_nil, List.length_cons, List.length_nil] at hd; have d4 := hd; clear hd; subst d4; clear hs; simp only [fillG, List.set_cons_zero, List.set_cons_succ]; have hKW := Keep.tr (Keep.dr (Keep.rf _)) (hE rfl); have t0 := Keep.cell hKW t0; have t1 := Keep.cell hKW t1; refine want_n rfl ?_; go_wp2_with (first | fail); simp only [DoneG, fillG, List.set_cons_zero, List.set_cons_succ, relG, eqG, eqG1, eqG2, eqG3, gdG, gdG1, gnG, gnG1, List.getD_cons_zero, List.getD_cons_succ, List.getElem?_cons_succ, List.getElem?_cons_zero, Option.map_some, Option.getD_some, valsG, List.map_cons, List.map_nil, List.length_cons, List.length_nil]; exact ⟨_, rfl, (by first | with_reducible assumption | exact krg _ | exact Keep.al (krg _) _), fun _ _ => rfl⟩)
    · (intro us W h9 hW hE hd hs K hK; obtain ⟨u0, u1, u2, u3, u4, u5, u6, u7, u8, u9, rfl⟩ := rog 10 h9 rfl; clear h9; simp only [DepG, AtG, and_true, relG, eqG, eqG1, eqG2, eqG3, gdG, gdG1, gnG, gnG1, List.getD_cons_zero, List.getD_cons_succ, List.getElem?_cons_succ, List.getElem?_cons_zero, Option.map_some, Option.getD_some, valsG, List.map_cons, List.map_nil, List.length_cons, List.length_nil] at hd; have d5 := hd; clear hd; subst d5; clear hs; simp only [fillG, List.set_cons_zero, List.set_cons_succ]; refine want_n rfl ?_; go_wp2_with (first | fail); simp only [DoneG, fillG, List.set_cons_zero, List.set_cons_succ, relG, eqG, eqG1, eqG2, eqG3, gdG, gdG1, gnG, gnG1, List.getD_cons_zero, List.getD_cons_succ, List.getElem?_cons_succ, List.getElem?_cons_zero, Option.map_some, Option.getD_some, valsG, List.map_cons, List.map_nil, List.length_cons, List.length_nil]; exact ⟨_, rfl, (by first | with_reducible assumption | exact krg _ | exact Keep.al (krg _) _), fun _ _ => rfl⟩)
    · (intro us W h9 hW hE hd hs K hK; obtain ⟨u0, u1, u2, u3, u4, u5, u6, u7, u8, u9, rfl⟩ := rog 10 h9 rfl; clear h9; simp only [DepG, AtG, and_true, relG, eqG, eqG1, eqG2, eqG3, gdG, gdG1, gnG, gnG1, List.getD_cons_zero, List.getD_cons_succ, List.getElem?_cons_succ, List.getElem?_cons_zero, Option.map_some, Option.getD_some, valsG, List.map_cons, List.map_nil, List.length_cons, List.length_nil] at hd; have d6 := hd; clear hd; subst d6; clear hs; simp only [fillG, List.set_cons_zero, List.set_cons_succ]; have hKW := Keep.tr (Keep.dr (Keep.rf _)) (hE rfl); have t0 := Keep.cell hKW t0; have t1 := Keep.cell hKW t1; refine want_n rfl ?_; go_wp2_with (first | (go_at_call 75; refine (refPut s (by omega) _).mono ?_; rintro e w9 ⟨v9, rfl, o9, hk9⟩) | fail); simp only [DoneG, fillG, List.set_cons_zero, List.set_cons_succ, relG, eqG, eqG1, eqG2, eqG3, gdG, gdG1, gnG, gnG1, List.getD_cons_zero, List.getD_cons_succ, List.getElem?_cons_succ, List.getElem?_cons_zero, Option.map_some, Option.getD_some, valsG, List.map_cons, List.map_nil, List.length_cons, List.length_nil]; exact ⟨_, rfl, (by first | with_reducible assumption | exact krg _ | exact Keep.al (krg _) _), fun W9 hk9 => (OwnC.of (Ob.lower o9 (Below.size hKW))).keep hk9⟩)
    · (intro us W h9 hW hE hd hs K hK; obtain ⟨u0, u1, u2, u3, u4, u5, u6, u7, u8, u9, rfl⟩ := rog 10 h9 rfl; clear h9; simp only [DepG, AtG, and_true, relG, eqG, eqG1, eqG2, eqG3, gdG, gdG1, gnG, gnG1, List.getD_cons_zero, List.getD_cons_succ, List.getElem?_cons_succ, List.getElem?_cons_zero, Option.map_some, Option.getD_some, valsG, List.map_cons, List.map_nil, List.length_cons, List.length_nil] at hd; obtain ⟨d3, d7⟩ := hd; obtain ⟨A3, c3, rfl, o3⟩ := d3; obtain ⟨A7, c7, rfl, o7⟩ := d7; clear hs; simp only [fillG, List.set_cons_zero, List.set_cons_succ]; have hKW := Keep.tr (Keep.dr (Keep.rf _)) (hE rfl); have t0 := Keep.cell hKW t0; have t1 := Keep.cell hKW t1; refine want_n rfl ?_; refine wp_app (.tmp 6) (.tmp 10) 29 rfl W1.heap.size 5 _ 1 1 Try.underlying29 infoU8 rfl (by omega) _ (Em.putN e).length _ rfl (show World.ownsRow _ _ _ _ _ _ _ from o3) _ (Em.putN s).length _ rfl (Bs.src o7.bs) (fun u hu => bv_one u _ hu) (by simp only [maxLen]; omega) (by omega) (Below.size hKW) ?_; intro v12 w12 ha; refine hK _ _ ?_; simp only [DoneG, fillG, List.set_cons_zero, List.set_cons_succ, relG, eqG, eqG1, eqG2, eqG3, gdG, gdG1, gnG, gnG1, List.getD_cons_zero, List.getD_cons_succ, List.getElem?_cons_succ, List.getElem?_cons_zero, Option.map_some, Option.getD_some, valsG, List.map_cons, List.map_nil, List.length_cons, List.length_nil]; exact ⟨_, rfl, (by first | with_reducible assumption | exact trivial), fun W9 hk9 => (AccC.mk' hKW o3 ha rfl).keep hk9⟩)
    · (intro us W h9 hW hE hd hs K hK; obtain ⟨u0, u1, u2, u3, u4, u5, u6, u7, u8, u9, rfl⟩ := rog 10 h9 rfl; clear h9; simp only [DepG, AtG, and_true, relG, eqG, eqG1, eqG2, eqG3, gdG, gdG1, gnG, gnG1, List.getD_cons_zero, List.getD_cons_succ, List.getElem?_cons_succ, List.getElem?_cons_zero, Option.map_some, Option.getD_some, valsG, List.map_cons, List.map_nil, List.length_cons, List.length_nil] at hd; have d8 := hd; clear hd; clear hs; simp only [fillG, List.set_cons_zero, List.set_cons_succ]; refine want_n rfl ?_; go_wp2_with (first | fail); simp only [DoneG, fillG, List.set_cons_zero, List.set_cons_succ, relG, eqG, eqG1, eqG2, eqG3, gdG, gdG1, gnG, gnG1, List.getD_cons_zero, List.getD_cons_succ, List.getElem?_cons_succ, List.getElem?_cons_zero, Option.map_some, Option.getD_some, valsG, List.map_cons, List.map_nil, List.length_cons, List.length_nil]; exact ⟨_, rfl, (by first | with_reducible assumption | exact krg _ | exact Keep.al (krg _) _), fun _ _ => rfl⟩)
  (intro us W3 h9 hW hE hA; obtain ⟨u0, u1, u2, u3, u4, u5, u6, u7, u8, u9, rfl⟩ := rog 10 h9 rfl; clear h9; simp only [AllG, AtG, and_true, relG, eqG, eqG1, eqG2, eqG3, gdG, gdG1, gnG, gnG1, List.getD_cons_zero, List.getD_cons_succ, List.getElem?_cons_succ, List.getElem?_cons_zero, Option.map_some, Option.getD_some, valsG, List.map_cons, List.map_nil, List.length_cons, List.length_nil] at hA; obtain ⟨d8, d9⟩ := hA; subst d9; simp only [fillG, List.set_cons_zero, List.set_cons_succ])
  obtain ⟨⟨A8, c8, rfl, o8⟩, k8⟩ := d8
  go_wp2_with fail
  go_ret
  exact ⟨_, rfl, Ob.lower o8 k0.size, Keep.tr k0 k8⟩
end Go.Proofs.Ytcbkklfdeloeeaa
