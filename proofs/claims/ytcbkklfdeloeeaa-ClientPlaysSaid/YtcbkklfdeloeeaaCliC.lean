/- Walks: a request (the reference). -/
import Derived.Test.YtcbkklfdeloeeaaCliB
namespace Go.Proofs.Ytcbkklfdeloeeaa
open Go.RowKit
set_option linter.unusedVariables false
set_option maxRecDepth 100000
set_option maxHeartbeats 8000000 in
theorem ref5Req (e s : Int) (m : Nat) (hm : m < 18446744073709551616) (v : Value) (l : List UInt8) (w : World) (h : Bs w v l) (hl : l.length ≤ 100000) : Calls Try.prog 82 #[.agg #[.int .i64 e, .int .i64 s], .int .u64 (m : Int), v] w (RetQ w (Em.req e s m l)) := by
  have h0 := h
  obtain ⟨A, c, rfl, hlc, hcm, hr⟩ := h
  clear hr
  have HI := hide fun W => ref5Is e s W
  cases hok : Em.isC e s with
  | false =>
    rw [req_no hok]
    rw [hok] at HI
    clear hok
    go_enter Try.func82, Try.ntmps82
    go_wp2_with fail
    refine (HI.out _).mono ?_
    rintro x w1 ⟨rfl, k1⟩
    have k01 : Keep w w1 := Keep.tr (by repeat (first | exact Keep.rf _ | assumption | apply Keep.al | apply Keep.dr | apply Keep.dn)) k1
    clear HI k1
    go_wp2_with fail
    go_ret2
    exact ⟨k01, rfl⟩
  | true =>
    obtain ⟨a, b, rfl, rfl, ha, hb⟩ := isC_nat hok
    rw [req_yes hok]
    rw [hok] at HI
    clear hok
    have L1 := Em.putN_len10 (v := a) (by omega)
    have L2 := Em.putN_len10 (v := b) (by omega)
    go_enter Try.func82, Try.ntmps82
    go_wp2_with fail
    have hb1 := heap_alloc_new w (.cells #[.int .i64 (a : Int), .int .i64 (b : Int)] 54)
    have k0 : Keep w (w.alloc (.cells #[.int .i64 (a : Int), .int .i64 (b : Int)] 54)) := (by repeat (first | exact Keep.rf _ | assumption | apply Keep.al | apply Keep.dr | apply Keep.dn))
    generalize World.alloc w _ = W1 at *
    refine (HI.out _).mono ?_
    rintro x w2 ⟨rfl, k1⟩
    have hb2 := (k1.frm fun _ => False).heap (fun h => h) hb1
    have t0 := top_cells hb2 0
    have t1 := top_cells hb2 1
    simp only [List.getElem?_toArray, List.getElem?_cons_succ, List.getElem?_cons_zero] at t0 t1
    have k02 := Keep.tr k0 k1
    clear hb1 hb2 HI k0 k1
    go_wp2_with fail
    refine (ref5Call a b ha hb _).mono ?_
    rintro x w3 ⟨r3, rfl, ho3, hk3⟩
    have k03 : Keep w w3 := Keep.tr k02 hk3
    have o3 : Obs w3 w.heap.size r3 (Em.putN a ++ Em.putN b) := Ob.lower ho3 k02.size
    have hdl : (Em.putN a ++ Em.putN b).length ≤ 20 := by rw [List.length_append]; omega
    clear hk3 ho3 L1 L2
    generalize Em.putN a ++ Em.putN b = hd at *
    go_wp2_with fail
    go_loopw [8, 9] (fun b i W => ∃ j : Nat, j ≤ 8 ∧ i = .int .i64 (7 - (j : Int)) ∧ Obs W w.heap.size b (hd ++ (Em.be8 m).take j) ∧ Keep w W) (fun _ i _ => (intOf i + 1).toNat)
    case atStart => exact ⟨0, by omega, rfl, by simpa using o3, k03⟩
    case round =>
      obtain ⟨j, hj, rfl, ho, hk4⟩ := hrel
      by_cases hlt : j < 8
      · have hb := hide (be8_at m j hlt)
        have hs := hide (List.append_assoc hd ((Em.be8 m).take j) [UInt8.ofNat (m / 256 ^ (7 - j))])
        rw [← hb.out] at hs
        have hu := hide (be_u8 (m / 256 ^ (7 - j)))
        have hlen : (hd ++ (Em.be8 m).take j).length ≤ 28 := by simp [Em.be8_len]; omega
        have HM := hide hm
        generalize UInt8.ofNat (m / 256 ^ (7 - j)) = b at hu hs hb
        generalize hd ++ (Em.be8 m).take j = Q at ho hs hlen
        have h8 : j = 0 ∨ j = 1 ∨ j = 2 ∨ j = 3 ∨ j = 4 ∨ j = 5 ∨ j = 6 ∨ j = 7 := by omega
        rcases h8 with rfl | rfl | rfl | rfl | rfl | rfl | rfl | rfl
        all_goals
          go_wp2_with (at_builtin; refine appB (w0 := w) rfl (.tmp 19) (.tmp 26) rfl _ _ rfl (ho.keep (by repeat (first | exact Keep.rf _ | assumption | apply Keep.al | apply Keep.dr | apply Keep.dn))) _ [b] rfl (Bs.box (by rw [← hu.out]; congr 1; try omega) (by first | rfl | simp)) (Keep.al hk4 _) (by simp; omega) ?_; intro v5 w5 ho5 hk5 hg5 hat5; rw [hs.out] at ho5)
          go_roundw
          case rel => exact ⟨_, by omega, by go_num, ho5, hk5⟩
          case measure => simp [intOf]
      · have e8 : j = 8 := by omega
        subst e8
        rw [show (Em.be8 m).take 8 = Em.be8 m from rfl] at ho
        have hlen : (hd ++ Em.be8 m).length ≤ 28 := by simp [Em.be8_len]; omega
        generalize hd ++ Em.be8 m = Q at *
        clear hm
        by_cases hlong : (Q ++ l).length ≤ 4000
        · rw [reqO_pos hlong]
          go_wp2_with (first
            | (at_builtin; refine appB (w0 := w) rfl (.tmp 28) (.tmp 29) rfl _ _ rfl ho _ _ rfl (h0.keep hk4) hk4 (by omega) ?_; intro v5 w5 ho5 hk5 hg5 hat5)
            | fail)
          refine (refFPut 1 _ _ _ ho5.bs hlong).mono ?_
          rintro x w6 ⟨r6, rfl, ho6, hk6⟩
          have k06 := Keep.tr hk5 hk6
          have o6 := Ob.lower ho6 hk5.size
          clear hk6 ho6
          go_wp2_with fail
          go_ret2
          exact RetQ.of (reqO_pos hlong) ⟨k06, _, rfl, o6⟩
        · rw [reqO_neg hlong]
          go_wp2_with (first
            | (at_builtin; refine appB (w0 := w) rfl (.tmp 28) (.tmp 29) rfl _ _ rfl ho _ _ rfl (h0.keep hk4) hk4 (by omega) ?_; intro v5 w5 ho5 hk5 hg5 hat5)
            | fail)
          refine (refFPut_long 1 _ _ _ ho5.bs (by omega)).mono ?_
          rintro x w6 ⟨rfl, rfl⟩
          go_wp2_with fail
          go_ret2
          exact RetQ.of (reqO_neg hlong) ⟨hk5, rfl⟩
end Go.Proofs.Ytcbkklfdeloeeaa
