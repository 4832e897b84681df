/- The law ClientCalls: walk. -/
import Derived.Test.YtcbkklfdeloeeaaCliV
import Derived.Test.YtcbkklfdeloeeaaLibN
import Derived.Test.YtcbkklfdeloeeaaAudW
import Derived.Test.YtcbkklfdeloeeaaLibR
import Derived.Test.YtcbkklfdeloeeaaRowLib
import Derived.Laws.Bits128
namespace Go.Proofs.Ytcbkklfdeloeeaa
open Go.ChangeShapes Go.WideShapes Go.RowKit
set_option linter.unusedVariables false
set_option linter.unusedSimpArgs false
set_option maxRecDepth 100000
section
variable {H : Type} {enc : TypeId × Value → H} {W : World} {base : Nat}
theorem open_bools {t : TypeId} {v : Value} {d : DataW H} {p : List MemPlace} (ht : Try.prog.underlying t = some (.slice 4))
    (hv : Value.okWide Try.prog W .any base t v) (h : DataW.Trod enc Try.prog W 0 (fun _ => true) true t v d p) (hz : ∀ n ∈ d.weights Try.prog t, n ≤ reachBytes) : ∃ l, Sl 1 KBool W v l ∧ True :=
  open_sl (K' := fun w v l => Sl 1 KBool w v l ∧ True) (Opn.imp (opn_slice (opn_bool Try.underlying4) ht (sz := 1) (by kernel_rfl) rfl) fun w cs l ⟨v, h1, h2, h3⟩ => ⟨l, v, h1, h2, trivial⟩) ht hv h hz
end
theorem smallByteF (n : Nat) (hn : n < 128) (w : World) : Calls Try.prog 48 #[.int .i64 (n : Int)] w fun e w' => e = .returned (.slice (some ⟨w.heap.size, 0, none⟩) 1 1) ∧ Bs w' (.slice (some ⟨w.heap.size, 0, none⟩) 1 1) [UInt8.ofNat n] ∧ Keep w w' := by
  have he : Value.int .u8 (bits .and .i64 (n : Int) 127 % 256) = bv (UInt8.ofNat n) := by
    rw [i64_and127, ← u8_bv n (by omega)]
    congr 1
    omega
  have HE := hide he
  clear he
  go_enter Try.func48, Try.ntmps48
  go_wp2_with fail
  go_ret
  exact ⟨rfl, Bs.lit [UInt8.ofNat n] (by simp only [List.map_cons, List.map_nil, ← HE.out]) rfl rfl (by simp) (by omega), (by repeat (first | exact Keep.rf _ | assumption | apply Keep.al | apply Keep.dr | apply Keep.dn))⟩
theorem CRep.off {tt : Nat} {w w' : World} {p q : Nat} {c : Cl} {cs : Array Value} {t : TypeId} (h : CRep tt w p c) (F : Frm (· = q) w w') (hq : p ≠ q) (hL : w.heap[q]? = some (.cells cs t)) (hcs : ∀ (j : Nat) (x : UInt8), cs[j]? ≠ some (bv x)) : CRep tt w' p c := by
  obtain ⟨A, k, h1, h2⟩ := h
  exact ⟨A, k, F.heap hq h1, h2.away F hL hcs⟩
/-- Bytes of one place, full. -/
def OneAt (b : UInt8) (W : World) (v : Value) : Prop := ∃ g, v = .slice (some ⟨g, 0, none⟩) 1 1 ∧ Bs W (.slice (some ⟨g, 0, none⟩) 1 1) [b]
theorem OneAt.keep {b : UInt8} {W W' : World} {v : Value} (h : OneAt b W v) (k : Keep W W') : OneAt b W' v := by
  obtain ⟨g, e, hb⟩ := h
  exact ⟨g, e, hb.keep k⟩
/-- The clients' state ahead of a round; the last call, in its block. -/
def CallsR (w W : World) (p L i : Nat) : Prop := Keep w W ∧ ∃ (e s le ls n : Nat) (b : List UInt8), e ≤ i ∧ s ≤ i ∧ (le < e ∨ (le = e ∧ ls = s)) ∧ CRep 103 W p ⟨1, e, s, false, b, n⟩ ∧ W.heap[L]? = some (.cells #[.int .i64 (le : Int), .int .i64 (ls : Int)] 54)
set_option maxHeartbeats 8000000 in
theorem ClientCalls_walk (w : World) (v : Value) (l : List Bool) (h : Sl 1 KBool w v l) (_ : True) : Calls Try.prog 11 #[v] w fun e w' => e = .returned (.bool true) ∧ Keep w w' := by
  obtain ⟨A, c, rfl, hlc, hcm, hr⟩ := h
  by_cases hl : 50 < l.length
  · have hg : (l.length : Int) > 50 := by omega
    go_enter Try.func11, Try.ntmps11
    go_wp2_with fail
    go_ret
    exact ⟨rfl, (by repeat (first | exact Keep.rf _ | assumption | apply Keep.al | apply Keep.dr | apply Keep.dn))⟩
  have hg : ¬ ((l.length : Int) > 50) := by omega
  go_enter Try.func11, Try.ntmps11
  go_wp2_with fail
  refine (cliNew 1 w).mono ?_
  rintro e w1 ⟨rfl, k1, r1⟩
  go_wp2_with fail
  have hpL := r1.lt
  have k1l := Keep.al (Keep.rf w1) (.cells #[.int .i64 0, .int .i64 0] 54)
  have hL1 := heap_alloc_new w1 (.cells #[.int .i64 0, .int .i64 0] 54)
  have hq0 : CallsR w (w1.alloc (.cells #[.int .i64 0, .int .i64 0] 54)) w.heap.size w1.heap.size 0 := ⟨Keep.tr k1 k1l, 0, 0, 0, 0, 0, [], by omega, by omega, .inr ⟨rfl, rfl⟩, r1.keep k1l, hL1⟩
  clear hL1 k1l r1 k1
  have hwL := hpL
  generalize w1.heap.size = L at *
  go_loopw [5] (fun k W => ∃ i : Nat, i ≤ l.length ∧ k = .int .i64 (i : Int) ∧ CallsR w W w.heap.size L i) (fun k _ => (60 - intOf k).toNat)
  case atStart => exact ⟨0, by omega, rfl, hq0⟩
  case round =>
    clear hq0
    obtain ⟨i, hi, rfl, km, e, s, le, ls, n, b, he, hs, hnew, rm, hL⟩ := hrel
    by_cases hlt : i < l.length
    · have hltI : (i : Int) < (l.length : Int) := by omega
      obtain ⟨ad, rfl, hcell⟩ := hr (by omega)
      obtain ⟨cs, hcs, hcl, hkt⟩ := hcell i hlt
      have hkt : cs = [.bool l[i]] := hkt
      subst hkt
      have c0 := Keep.cell km (hcl 0 _ rfl)
      rw [Nat.add_zero, Nat.mul_one] at c0
      have HR := hide hr
      clear hcell hr hcl
      generalize l[i] = lb at *
      cases lb with
      | true =>
        go_wp2_with fail
        refine (cliRestart _ _ _ (by simp; omega) rm).mono ?_
        rintro e w2 ⟨rfl, F2, r2⟩
        have r2' : CRep 103 w2 w.heap.size ⟨1, e + 1, 0, false, b, n⟩ := r2
        have k2 := km.cl F2 (Nat.le_refl _)
        have hL2 := F2.heap (by omega : ¬ L = w.heap.size) hL
        clear F2 km rm hL r2 c0
        go_wp2_with fail
        refine (cliPending _ _ _ r2').mono ?_
        intro e3 w3 R
        obtain ⟨k3, rfl⟩ := R.off rfl
        have k3l := Keep.al k3 (.cells #[.int .i64 0, .int .i64 0] 54)
        have hq3 : CallsR w (w3.alloc (.cells #[.int .i64 0, .int .i64 0] 54)) w.heap.size L (i + 1) := ⟨Keep.tr k2 k3l, e + 1, 0, le, ls, n, b, by omega, by omega, .inl (by omega), r2'.keep k3l, (k3l.frm fun _ => False).heap (fun h => h) hL2⟩
        have HQ3 := hide hq3
        clear hq3 k3l k3 hL2 r2' k2 R hnew
        go_wp2_with fail
        go_roundw
        case rel => exact ⟨i + 1, by omega, by go_num, HQ3.out⟩
        case measure => simp [intOf]; omega
      | false =>
        go_wp2_with fail
        obtain ⟨q, hq⟩ : ∃ q, callO ⟨1, e, s, false, b, n⟩ [] = some q := ⟨_, callO_small _ _ rfl (by simp; omega) (by simp; omega) (by simp)⟩
        refine (cliCall_free _ _ _ rfl (by simp; omega) (by simp) _ [] (Bs.nil _) (by simp) rm).mono ?_
        intro e2 w2 R
        rw [callC_some hq, hq] at R
        obtain ⟨F2, r2, A2, n2, c2, rfl, hb2⟩ := R
        have k2 := km.cl F2 (Nat.le_refl _)
        have r2' : CRep 103 w2 w.heap.size ⟨1, e, s + 1, true, q, 0⟩ := r2
        have hL2 := F2.heap (by omega : ¬ L = w.heap.size) hL
        clear F2 km rm hb2 r2 hq hL c0
        go_wp2_with fail
        refine (cliCall_pending _ _ _ rfl _ r2').mono ?_
        rintro e3 w3 ⟨F3, r3, rfl⟩
        have k3 := k2.cl F3 (Nat.le_refl _)
        have hL3 := F3.heap (by omega : ¬ L = w.heap.size) hL2
        clear F3 r2' k2 hL2
        go_wp2_with fail
        obtain ⟨s1, hs1⟩ : ∃ s1, s + 1 = s1 := ⟨_, rfl⟩
        rw [hs1] at r3
        refine (cliPending _ _ _ r3).mono ?_
        intro e4 w4 R
        obtain ⟨k4, rfl⟩ := R.on rfl
        have k4l := Keep.al k4 (.cells #[.int .i64 (e : Int), .int .i64 (s1 : Int)] 54)
        have r5 := r3.keep k4l
        have hL5 := (k4l.frm fun _ => False).heap (fun h => h) hL3
        have hD5 := heap_alloc_new w4 (.cells #[.int .i64 (e : Int), .int .i64 (s1 : Int)] 54)
        have k5 := Keep.tr k3 k4l
        have hw4 := k4.size
        have hL4 := (Array.getElem?_eq_some_iff.1 hL3).1
        have hDL : w4.heap.size ≠ L := by omega
        have hDp : w4.heap.size ≠ w.heap.size := by omega
        have x0 := top_cells hD5 0
        have x1 := top_cells hD5 1
        have y0 := top_cells hL5 0
        have y1 := top_cells hL5 1
        simp only [List.getElem?_toArray, List.getElem?_cons_succ, List.getElem?_cons_zero] at x0 x1 y0 y1
        have R5 := hide r5
        have HL5 := hide hL5
        have HD5 := hide hD5
        have HN := hide (show Em.newer ((e : Int), (s1 : Int)) ((le : Int), (ls : Int)) = true by
          unfold Em.newer
          rcases hnew with h | ⟨h1, h2⟩
          · rw [decide_eq_true (by simp; omega)]; rfl
          · rw [decide_eq_true (p := ((e : Int) = (le : Int))) (by omega), decide_eq_true (p := ((s1 : Int) > (ls : Int))) (by omega)]; simp)
        clear R k4l r5 hL5 hD5 hL3 r3 k3 k4 hnew hL4 hw4
        go_wp2_with fail
        generalize World.alloc w4 _ = w5 at *
        generalize w4.heap.size = D at *
        refine (refNewer w5 ((e : Int), (s1 : Int)) ((le : Int), (ls : Int))).mono ?_
        rintro e6 w6 ⟨rfl, k6⟩
        rw [HN.out]
        have R6 := hide (R5.out.keep k6)
        have HL6 := hide ((k6.frm fun _ => False).heap (fun h => h) HL5.out)
        have HD6 := hide ((k6.frm fun _ => False).heap (fun h => h) HD5.out)
        have k06 := Keep.tr k5 k6
        replace x0 := Keep.cell k6 x0
        replace x1 := Keep.cell k6 x1
        replace y0 := Keep.cell k6 y0
        replace y1 := Keep.cell k6 y1
        have f1 := top_free HL6.out 1
        have f2 := top_free HL6.out 0
        go_wp2_with fail
        have F67 := frm_set2 w6 L (.int .i64 (e : Int)) (.int .i64 (s1 : Int))
        have HL7 := hide (heap_set2 HL6.out (.int .i64 (e : Int)) (.int .i64 (s1 : Int)))
        have HD7 := F67.heap hDL HD6.out
        have R7 := hide (R6.out.off F67 (by omega : w.heap.size ≠ L) HL6.out (call_noB _ _))
        have k07 := Frm.keep k06 F67 (fun i e => by have e : i = L := e; omega)
        have hEe : e < 128 := by omega
        have hSs : s1 < 128 := by omega
        clear x0 x1 y0 y1 f1 f2 R6 HL6 HD6 k06 F67 HD5 HL5 R5 k5
        generalize World.setCell (World.setCell w6 _ _) _ _ = w7 at *
        have x0 := top_cells HD7 0
        have x1 := top_cells HD7 1
        simp only [List.getElem?_toArray, List.getElem?_cons_succ, List.getElem?_cons_zero] at x0 x1
        have HD7 := hide HD7
        apply region_all (by kernel_rfl) Keep Keep krg ktg krg ktg (fun _ _ h => h) [some 82, some 83, some 84, some 85, some 86, some 87, some 88, some 89, some 90, some 91, some 81, some 92, some 93, some 14, some 15] [eqG _ , eqG _ , fun us W v => OneAt (UInt8.ofNat e) W v, eqG _ , eqG _ , fun us W v => OneAt (UInt8.ofNat s1) W v, fun us W v => OneAt 0 W v, fun us W v => SlQ W ([UInt8.ofNat s1] ++ [0]) v, fun us W v => SlQ W ([UInt8.ofNat e] ++ ([UInt8.ofNat s1] ++ [0])) v, fun us W v => QAt W (Em.frame 2 ([UInt8.ofNat e] ++ ([UInt8.ofNat s1] ++ [0]))) v, fun us _ v => v = (us.getD 0 undef), fun us W v => SlQ W (Em.frame 2 ([UInt8.ofNat e] ++ ([UInt8.ofNat s1] ++ [0]))) v, fun us _ v => v = .bool true, fun us _ v => v = (us.getD 0 undef), fun us _ v => v = .bool true] [⟨[], [], true, false, false⟩, ⟨[0], [], true, false, false⟩, ⟨[1], [], true, false, false⟩, ⟨[], [], true, false, false⟩, ⟨[3], [], true, false, false⟩, ⟨[4], [], true, false, false⟩, ⟨[], [], true, false, false⟩, ⟨[5, 6], [], true, false, false⟩, ⟨[2, 7], [], true, false, false⟩, ⟨[8], [], true, false, false⟩, ⟨[9], [], true, false, false⟩, ⟨[9, 10], [], true, false, false⟩, ⟨[9, 10], [], true, false, false⟩, ⟨[11], [], true, false, false⟩, ⟨[12], [], true, false, false⟩] [2, 5, 6, 7, 8, 9, 11, 13] (by kernel_rfl) (by kernel_rfl) 
        · refine ⟨?_, ?_, ?_, ?_, ?_, ?_, ?_, ?_, ?_, ?_, ?_, ?_, ?_, ?_, ?_, trivial⟩
          · (intro us W h9 hW hE hd hs K hK; obtain ⟨u0, u1, u2, u3, u4, u5, u6, u7, u8, u9, u10, u11, u12, u13, u14, rfl⟩ := rog 15 h9 rfl; clear h9; clear hd; clear hs; simp only [fillG, List.set_cons_zero, List.set_cons_succ]; refine want_n rfl ?_; go_wp2_with (first | fail); simp only [DoneG, fillG, List.set_cons_zero, List.set_cons_succ, relG, eqG, eqG1, eqG2, eqG3, gdG, gdG1, gnG, gnG1, List.getD_cons_zero, List.getD_cons_succ, List.getElem?_cons_succ, List.getElem?_cons_zero, Option.map_some, Option.getD_some, valsG, List.map_cons, List.map_nil, List.length_cons, List.length_nil]; exact ⟨_, rfl, (by first | with_reducible assumption | exact krg _ | exact Keep.al (krg _) _), fun _ _ => rfl⟩)
          · (intro us W h9 hW hE hd hs K hK; obtain ⟨u0, u1, u2, u3, u4, u5, u6, u7, u8, u9, u10, u11, u12, u13, u14, rfl⟩ := rog 15 h9 rfl; clear h9; simp only [DepG, AtG, and_true, relG, eqG, eqG1, eqG2, eqG3, gdG, gdG1, gnG, gnG1, List.getD_cons_zero, List.getD_cons_succ, List.getElem?_cons_succ, List.getElem?_cons_zero, Option.map_some, Option.getD_some, valsG, List.map_cons, List.map_nil, List.length_cons, List.length_nil] at hd; have d0 := hd; clear hd; subst d0; clear hs; simp only [fillG, List.set_cons_zero, List.set_cons_succ]; have hKW := Keep.tr (Keep.dr (Keep.rf _)) (hE rfl); have x0 := Keep.cell hKW x0; have x1 := Keep.cell hKW x1; refine want_n rfl ?_; go_wp2_with (first | fail); simp only [DoneG, fillG, List.set_cons_zero, List.set_cons_succ, relG, eqG, eqG1, eqG2, eqG3, gdG, gdG1, gnG, gnG1, List.getD_cons_zero, List.getD_cons_succ, List.getElem?_cons_succ, List.getElem?_cons_zero, Option.map_some, Option.getD_some, valsG, List.map_cons, List.map_nil, List.length_cons, List.length_nil]; exact ⟨_, rfl, (by first | with_reducible assumption | exact krg _ | exact Keep.al (krg _) _), fun _ _ => rfl⟩)
          · (intro us W h9 hW hE hd hs K hK; obtain ⟨u0, u1, u2, u3, u4, u5, u6, u7, u8, u9, u10, u11, u12, u13, u14, rfl⟩ := rog 15 h9 rfl; clear h9; simp only [DepG, AtG, and_true, relG, eqG, eqG1, eqG2, eqG3, gdG, gdG1, gnG, gnG1, List.getD_cons_zero, List.getD_cons_succ, List.getElem?_cons_succ, List.getElem?_cons_zero, Option.map_some, Option.getD_some, valsG, List.map_cons, List.map_nil, List.length_cons, List.length_nil] at hd; have d1 := hd; clear hd; subst d1; clear hs; simp only [fillG, List.set_cons_zero, List.set_cons_succ]; have hKW := Keep.tr (Keep.dr (Keep.rf _)) (hE rfl); have x0 := Keep.cell hKW x0; have x1 := Keep.cell hKW x1; refine want_n rfl ?_; go_wp2_with (first | (go_at_call 48; refine (smallByteF e hEe _).mono ?_; rintro e9 w9 ⟨rfl, hb9, hk9⟩) | fail); simp only [DoneG, fillG, List.set_cons_zero, List.set_cons_succ, relG, eqG, eqG1, eqG2, eqG3, gdG, gdG1, gnG, gnG1, List.getD_cons_zero, List.getD_cons_succ, List.getElem?_cons_succ, List.getElem?_cons_zero, Option.map_some, Option.getD_some, valsG, List.map_cons, List.map_nil, List.length_cons, List.length_nil]; exact ⟨_, rfl, (by first | with_reducible assumption | exact krg _ | exact Keep.al (krg _) _), fun W9 hk9 => ⟨_, rfl, hb9.keep hk9⟩⟩)
          · (intro us W h9 hW hE hd hs K hK; obtain ⟨u0, u1, u2, u3, u4, u5, u6, u7, u8, u9, u10, u11, u12, u13, u14, rfl⟩ := rog 15 h9 rfl; clear h9; clear hd; clear hs; simp only [fillG, List.set_cons_zero, List.set_cons_succ]; refine want_n rfl ?_; go_wp2_with (first | fail); simp only [DoneG, fillG, List.set_cons_zero, List.set_cons_succ, relG, eqG, eqG1, eqG2, eqG3, gdG, gdG1, gnG, gnG1, List.getD_cons_zero, List.getD_cons_succ, List.getElem?_cons_succ, List.getElem?_cons_zero, Option.map_some, Option.getD_some, valsG, List.map_cons, List.map_nil, List.length_cons, List.length_nil]; exact ⟨_, rfl, (by first | with_reducible assumption | exact krg _ | exact Keep.al (krg _) _), fun _ _ => rfl⟩)
          · (intro us W h9 hW hE hd hs K hK; obtain ⟨u0, u1, u2, u3, u4, u5, u6, u7, u8, u9, u10, u11, u12, u13, u14, rfl⟩ := rog 15 h9 rfl; clear h9; simp only [DepG, AtG, and_true, relG, eqG, eqG1, eqG2, eqG3, gdG, gdG1, gnG, gnG1, List.getD_cons_zero, List.getD_cons_succ, List.getElem?_cons_succ, List.getElem?_cons_zero, Option.map_some, Option.getD_some, valsG, List.map_cons, List.map_nil, List.length_cons, List.length_nil] at hd; have d3 := hd; clear hd; subst d3; clear hs; simp only [fillG, List.set_cons_zero, List.set_cons_succ]; have hKW := Keep.tr (Keep.dr (Keep.rf _)) (hE rfl); have x0 := Keep.cell hKW x0; have x1 := Keep.cell hKW x1; refine want_n rfl ?_; go_wp2_with (first | fail); simp only [DoneG, fillG, List.set_cons_zero, List.set_cons_succ, relG, eqG, eqG1, eqG2, eqG3, gdG, gdG1, gnG, gnG1, List.getD_cons_zero, List.getD_cons_succ, List.getElem?_cons_succ, List.getElem?_cons_zero, Option.map_some, Option.getD_some, valsG, List.map_cons, List.map_nil, List.length_cons, List.length_nil]; exact ⟨_, rfl, (by first | with_reducible assumption | exact krg _ | exact Keep.al (krg _) _), fun _ _ => rfl⟩)
          · (intro us W h9 hW hE hd hs K hK; obtain ⟨u0, u1, u2, u3, u4, u5, u6, u7, u8, u9, u10, u11, u12, u13, u14, rfl⟩ := rog 15 h9 rfl; clear h9; simp only [DepG, AtG, and_true, relG, eqG, eqG1, eqG2, eqG3, gdG, gdG1, gnG, gnG1, List.getD_cons_zero, List.getD_cons_succ, List.getElem?_cons_succ, List.getElem?_cons_zero, Option.map_some, Option.getD_some, valsG, List.map_cons, List.map_nil, List.length_cons, List.length_nil] at hd; have d4 := hd; clear hd; subst d4; clear hs; simp only [fillG, List.set_cons_zero, List.set_cons_succ]; have hKW := Keep.tr (Keep.dr (Keep.rf _)) (hE rfl); have x0 := Keep.cell hKW x0; have x1 := Keep.cell hKW x1; refine want_n rfl ?_; go_wp2_with (first | (go_at_call 48; refine (smallByteF s1 hSs _).mono ?_; rintro e9 w9 ⟨rfl, hb9, hk9⟩) | fail); simp only [DoneG, fillG, List.set_cons_zero, List.set_cons_succ, relG, eqG, eqG1, eqG2, eqG3, gdG, gdG1, gnG, gnG1, List.getD_cons_zero, List.getD_cons_succ, List.getElem?_cons_succ, List.getElem?_cons_zero, Option.map_some, Option.getD_some, valsG, List.map_cons, List.map_nil, List.length_cons, List.length_nil]; exact ⟨_, rfl, (by first | with_reducible assumption | exact krg _ | exact Keep.al (krg _) _), fun W9 hk9 => ⟨_, rfl, hb9.keep hk9⟩⟩)
          · (intro us W h9 hW hE hd hs K hK; obtain ⟨u0, u1, u2, u3, u4, u5, u6, u7, u8, u9, u10, u11, u12, u13, u14, rfl⟩ := rog 15 h9 rfl; clear h9; clear hd; clear hs; simp only [fillG, List.set_cons_zero, List.set_cons_succ]; have hKW := Keep.tr (Keep.dr (Keep.rf _)) (hE rfl); have x0 := Keep.cell hKW x0; have x1 := Keep.cell hKW x1; refine want_n rfl ?_; go_wp2_with (first | fail); simp only [DoneG, fillG, List.set_cons_zero, List.set_cons_succ, relG, eqG, eqG1, eqG2, eqG3, gdG, gdG1, gnG, gnG1, List.getD_cons_zero, List.getD_cons_succ, List.getElem?_cons_succ, List.getElem?_cons_zero, Option.map_some, Option.getD_some, valsG, List.map_cons, List.map_nil, List.length_cons, List.length_nil]; exact ⟨_, rfl, (by first | with_reducible assumption | exact krg _ | exact Keep.al (krg _) _), fun W9 hk9 => ⟨_, rfl, (Bs.lit [0] rfl rfl rfl (by simp) (by omega)).keep hk9⟩⟩)
          · (intro us W h9 hW hE hd hs K hK; obtain ⟨u0, u1, u2, u3, u4, u5, u6, u7, u8, u9, u10, u11, u12, u13, u14, rfl⟩ := rog 15 h9 rfl; clear h9; simp only [DepG, AtG, and_true, relG, eqG, eqG1, eqG2, eqG3, gdG, gdG1, gnG, gnG1, List.getD_cons_zero, List.getD_cons_succ, List.getElem?_cons_succ, List.getElem?_cons_zero, Option.map_some, Option.getD_some, valsG, List.map_cons, List.map_nil, List.length_cons, List.length_nil] at hd; obtain ⟨d5, d6⟩ := hd; obtain ⟨g5, rfl, b5⟩ := d5; obtain ⟨g6, rfl, b6⟩ := d6; clear hs; simp only [fillG, List.set_cons_zero, List.set_cons_succ]; have hKW := Keep.tr (Keep.dr (Keep.rf _)) (hE rfl); have x0 := Keep.cell hKW x0; have x1 := Keep.cell hKW x1; refine want_n rfl ?_; refine wp_appF (.tmp 87) (.tmp 88) 29 rfl 5 _ Try.underlying29 infoU8 rfl _ 1 [UInt8.ofNat s1] rfl b5 _ [0] rfl b6 (by simp) ?_; intro A12 c12 w12 hb12 hk12; refine hK _ _ ?_; simp only [DoneG, fillG, List.set_cons_zero, List.set_cons_succ, relG, eqG, eqG1, eqG2, eqG3, gdG, gdG1, gnG, gnG1, List.getD_cons_zero, List.getD_cons_succ, List.getElem?_cons_succ, List.getElem?_cons_zero, Option.map_some, Option.getD_some, valsG, List.map_cons, List.map_nil, List.length_cons, List.length_nil]; exact ⟨_, rfl, (by first | with_reducible assumption | exact krg _ | exact Keep.al (krg _) _), fun W9 hk9 => ⟨A12, c12, rfl, hb12.keep hk9⟩⟩)
          · (intro us W h9 hW hE hd hs K hK; obtain ⟨u0, u1, u2, u3, u4, u5, u6, u7, u8, u9, u10, u11, u12, u13, u14, rfl⟩ := rog 15 h9 rfl; clear h9; simp only [DepG, AtG, and_true, relG, eqG, eqG1, eqG2, eqG3, gdG, gdG1, gnG, gnG1, List.getD_cons_zero, List.getD_cons_succ, List.getElem?_cons_succ, List.getElem?_cons_zero, Option.map_some, Option.getD_some, valsG, List.map_cons, List.map_nil, List.length_cons, List.length_nil] at hd; obtain ⟨d2, d7⟩ := hd; obtain ⟨g2, rfl, b2⟩ := d2; obtain ⟨A7, c7, rfl, b7⟩ := d7; clear hs; simp only [fillG, List.set_cons_zero, List.set_cons_succ]; have hKW := Keep.tr (Keep.dr (Keep.rf _)) (hE rfl); have x0 := Keep.cell hKW x0; have x1 := Keep.cell hKW x1; refine want_n rfl ?_; refine wp_appF (.tmp 84) (.tmp 89) 29 rfl 5 _ Try.underlying29 infoU8 rfl _ 1 [UInt8.ofNat e] rfl b2 _ ([UInt8.ofNat s1] ++ [0]) rfl b7 (by simp) ?_; intro A12 c12 w12 hb12 hk12; refine hK _ _ ?_; simp only [DoneG, fillG, List.set_cons_zero, List.set_cons_succ, relG, eqG, eqG1, eqG2, eqG3, gdG, gdG1, gnG, gnG1, List.getD_cons_zero, List.getD_cons_succ, List.getElem?_cons_succ, List.getElem?_cons_zero, Option.map_some, Option.getD_some, valsG, List.map_cons, List.map_nil, List.length_cons, List.length_nil]; exact ⟨_, rfl, (by first | with_reducible assumption | exact krg _ | exact Keep.al (krg _) _), fun W9 hk9 => ⟨A12, c12, rfl, hb12.keep hk9⟩⟩)
          · (intro us W h9 hW hE hd hs K hK; obtain ⟨u0, u1, u2, u3, u4, u5, u6, u7, u8, u9, u10, u11, u12, u13, u14, rfl⟩ := rog 15 h9 rfl; clear h9; simp only [DepG, AtG, and_true, relG, eqG, eqG1, eqG2, eqG3, gdG, gdG1, gnG, gnG1, List.getD_cons_zero, List.getD_cons_succ, List.getElem?_cons_succ, List.getElem?_cons_zero, Option.map_some, Option.getD_some, valsG, List.map_cons, List.map_nil, List.length_cons, List.length_nil] at hd; have d8 := hd; clear hd; obtain ⟨A8, c8, rfl, b8⟩ := d8; clear hs; simp only [fillG, List.set_cons_zero, List.set_cons_succ]; have hKW := Keep.tr (Keep.dr (Keep.rf _)) (hE rfl); have x0 := Keep.cell hKW x0; have x1 := Keep.cell hKW x1; refine want_n rfl ?_; go_wp2_with (first | (go_at_call 36; refine (refFPut 2 _ _ _ b8 (by simp)).mono ?_; rintro e9 w9 ⟨v9, rfl, o9, hk9⟩; obtain ⟨A19, c19, rfl⟩ := own_slice (show w9.ownsRow _ _ _ _ _ _ from o9)) | fail); simp only [DoneG, fillG, List.set_cons_zero, List.set_cons_succ, relG, eqG, eqG1, eqG2, eqG3, gdG, gdG1, gnG, gnG1, List.getD_cons_zero, List.getD_cons_succ, List.getElem?_cons_succ, List.getElem?_cons_zero, Option.map_some, Option.getD_some, valsG, List.map_cons, List.map_nil, List.length_cons, List.length_nil]; exact ⟨_, rfl, (by first | with_reducible assumption | exact krg _ | exact Keep.al (krg _) _), fun W9 hk9 => ⟨A19, c19, rfl, o9.bs.keep hk9⟩⟩)
          · (intro us W h9 hW hE hd hs K hK; obtain ⟨u0, u1, u2, u3, u4, u5, u6, u7, u8, u9, u10, u11, u12, u13, u14, rfl⟩ := rog 15 h9 rfl; clear h9; simp only [DepG, AtG, and_true, relG, eqG, eqG1, eqG2, eqG3, gdG, gdG1, gnG, gnG1, List.getD_cons_zero, List.getD_cons_succ, List.getElem?_cons_succ, List.getElem?_cons_zero, Option.map_some, Option.getD_some, valsG, List.map_cons, List.map_nil, List.length_cons, List.length_nil] at hd; have d9 := hd; clear hd; obtain ⟨A9, c9, rfl, b9⟩ := d9; clear hs; simp only [fillG, List.set_cons_zero, List.set_cons_succ]; have hKW := Keep.tr (Keep.dr (Keep.rf _)) (hE rfl); have x0 := Keep.cell hKW x0; have x1 := Keep.cell hKW x1; refine want_n rfl ?_; go_wp2_with (first | fail); simp only [DoneG, fillG, List.set_cons_zero, List.set_cons_succ, relG, eqG, eqG1, eqG2, eqG3, gdG, gdG1, gnG, gnG1, List.getD_cons_zero, List.getD_cons_succ, List.getElem?_cons_succ, List.getElem?_cons_zero, Option.map_some, Option.getD_some, valsG, List.map_cons, List.map_nil, List.length_cons, List.length_nil]; exact ⟨_, rfl, (by first | with_reducible assumption | exact krg _ | exact Keep.al (krg _) _), fun _ _ => rfl⟩)
          · (intro us W h9 hW hE hd hs K hK; obtain ⟨u0, u1, u2, u3, u4, u5, u6, u7, u8, u9, u10, u11, u12, u13, u14, rfl⟩ := rog 15 h9 rfl; clear h9; simp only [DepG, AtG, and_true, relG, eqG, eqG1, eqG2, eqG3, gdG, gdG1, gnG, gnG1, List.getD_cons_zero, List.getD_cons_succ, List.getElem?_cons_succ, List.getElem?_cons_zero, Option.map_some, Option.getD_some, valsG, List.map_cons, List.map_nil, List.length_cons, List.length_nil] at hd; obtain ⟨d9, d10⟩ := hd; obtain ⟨A9, c9, rfl, b9⟩ := d9; subst d10; clear hs; simp only [fillG, List.set_cons_zero, List.set_cons_succ]; have hKW := Keep.tr (Keep.dr (Keep.rf _)) (hE rfl); have x0 := Keep.cell hKW x0; have x1 := Keep.cell hKW x1; refine want_n rfl ?_; go_wp2_with (first | fail); simp only [DoneG, fillG, List.set_cons_zero, List.set_cons_succ, relG, eqG, eqG1, eqG2, eqG3, gdG, gdG1, gnG, gnG1, List.getD_cons_zero, List.getD_cons_succ, List.getElem?_cons_succ, List.getElem?_cons_zero, Option.map_some, Option.getD_some, valsG, List.map_cons, List.map_nil, List.length_cons, List.length_nil]; exact ⟨_, rfl, (by first | with_reducible assumption | exact krg _ | exact Keep.al (krg _) _), fun W9 hk9 => ⟨A9, c9, rfl, b9.keep hk9⟩⟩)
          · (intro us W h9 hW hE hd hs K hK; obtain ⟨u0, u1, u2, u3, u4, u5, u6, u7, u8, u9, u10, u11, u12, u13, u14, rfl⟩ := rog 15 h9 rfl; clear h9; simp only [DepG, AtG, and_true, relG, eqG, eqG1, eqG2, eqG3, gdG, gdG1, gnG, gnG1, List.getD_cons_zero, List.getD_cons_succ, List.getElem?_cons_succ, List.getElem?_cons_zero, Option.map_some, Option.getD_some, valsG, List.map_cons, List.map_nil, List.length_cons, List.length_nil] at hd; obtain ⟨d9, d10⟩ := hd; obtain ⟨A9, c9, rfl, b9⟩ := d9; subst d10; clear hs; simp only [fillG, List.set_cons_zero, List.set_cons_succ]; have hKW := Keep.tr (Keep.dr (Keep.rf _)) (hE rfl); have x0 := Keep.cell hKW x0; have x1 := Keep.cell hKW x1; refine want_n rfl ?_; go_wp2_with (first | fail); simp only [DoneG, fillG, List.set_cons_zero, List.set_cons_succ, relG, eqG, eqG1, eqG2, eqG3, gdG, gdG1, gnG, gnG1, List.getD_cons_zero, List.getD_cons_succ, List.getElem?_cons_succ, List.getElem?_cons_zero, Option.map_some, Option.getD_some, valsG, List.map_cons, List.map_nil, List.length_cons, List.length_nil]; exact ⟨_, rfl, (by first | with_reducible assumption | exact krg _ | exact Keep.al (krg _) _), fun _ _ => rfl⟩)
          · (intro us W h9 hW hE hd hs K hK; obtain ⟨u0, u1, u2, u3, u4, u5, u6, u7, u8, u9, u10, u11, u12, u13, u14, rfl⟩ := rog 15 h9 rfl; clear h9; simp only [DepG, AtG, and_true, relG, eqG, eqG1, eqG2, eqG3, gdG, gdG1, gnG, gnG1, List.getD_cons_zero, List.getD_cons_succ, List.getElem?_cons_succ, List.getElem?_cons_zero, Option.map_some, Option.getD_some, valsG, List.map_cons, List.map_nil, List.length_cons, List.length_nil] at hd; have d11 := hd; clear hd; obtain ⟨A11, c11, rfl, b11⟩ := d11; clear hs; simp only [fillG, List.set_cons_zero, List.set_cons_succ]; have hKW := Keep.tr (Keep.dr (Keep.rf _)) (hE rfl); have x0 := Keep.cell hKW x0; have x1 := Keep.cell hKW x1; refine want_n rfl ?_; go_wp2_with (first | fail); simp only [DoneG, fillG, List.set_cons_zero, List.set_cons_succ, relG, eqG, eqG1, eqG2, eqG3, gdG, gdG1, gnG, gnG1, List.getD_cons_zero, List.getD_cons_succ, List.getElem?_cons_succ, List.getElem?_cons_zero, Option.map_some, Option.getD_some, valsG, List.map_cons, List.map_nil, List.length_cons, List.length_nil]; exact ⟨_, rfl, (by first | with_reducible assumption | exact krg _ | exact Keep.al (krg _) _), fun _ _ => rfl⟩)
          · (intro us W h9 hW hE hd hs K hK; obtain ⟨u0, u1, u2, u3, u4, u5, u6, u7, u8, u9, u10, u11, u12, u13, u14, rfl⟩ := rog 15 h9 rfl; clear h9; simp only [DepG, AtG, and_true, relG, eqG, eqG1, eqG2, eqG3, gdG, gdG1, gnG, gnG1, List.getD_cons_zero, List.getD_cons_succ, List.getElem?_cons_succ, List.getElem?_cons_zero, Option.map_some, Option.getD_some, valsG, List.map_cons, List.map_nil, List.length_cons, List.length_nil] at hd; have d12 := hd; clear hd; subst d12; clear hs; simp only [fillG, List.set_cons_zero, List.set_cons_succ]; have hKW := Keep.tr (Keep.dr (Keep.rf _)) (hE rfl); have x0 := Keep.cell hKW x0; have x1 := Keep.cell hKW x1; refine want_n rfl ?_; go_wp2_with (first | fail); simp only [DoneG, fillG, List.set_cons_zero, List.set_cons_succ, relG, eqG, eqG1, eqG2, eqG3, gdG, gdG1, gnG, gnG1, List.getD_cons_zero, List.getD_cons_succ, List.getElem?_cons_succ, List.getElem?_cons_zero, Option.map_some, Option.getD_some, valsG, List.map_cons, List.map_nil, List.length_cons, List.length_nil]; exact ⟨_, rfl, (by first | with_reducible assumption | exact krg _ | exact Keep.al (krg _) _), fun _ _ => rfl⟩)
        (intro us W8 h9 hW hE hA; obtain ⟨u0, u1, u2, u3, u4, u5, u6, u7, u8, u9, u10, u11, u12, u13, u14, rfl⟩ := rog 15 h9 rfl; clear h9; simp only [AllG, AtG, and_true, relG, eqG, eqG1, eqG2, eqG3, gdG, gdG1, gnG, gnG1, List.getD_cons_zero, List.getD_cons_succ, List.getElem?_cons_succ, List.getElem?_cons_zero, Option.map_some, Option.getD_some, valsG, List.map_cons, List.map_nil, List.length_cons, List.length_nil] at hA; obtain ⟨d2, d5, d6, d7, d8, d9, d11, d13⟩ := hA; obtain ⟨g2, rfl, b2⟩ := d2; obtain ⟨g5, rfl, b5⟩ := d5; obtain ⟨g6, rfl, b6⟩ := d6; obtain ⟨A7, c7, rfl, b7⟩ := d7; obtain ⟨A8, c8, rfl, b8⟩ := d8; obtain ⟨A9, c9, rfl, b9⟩ := d9; obtain ⟨A11, c11, rfl, b11⟩ := d11; subst d13; simp only [fillG, List.set_cons_zero, List.set_cons_succ]; have k8 := Keep.tr (Keep.dr (Keep.rf _)) hW; clear hW hE)
        have k08 := Keep.tr k07 k8
        have r8 := R7.out.keep k8
        have hL8 := (k8.frm fun _ => False).heap (fun h => h) HL7.out
        have hD8 := (k8.frm fun _ => False).heap (fun h => h) HD7.out
        have hfl := frame2_len ([UInt8.ofNat e] ++ ([UInt8.ofNat s1] ++ [0])) (by simp)
        have hta : takeO ⟨1, e, s1, true, q, 0⟩ (Em.frame 2 ([UInt8.ofNat e] ++ ([UInt8.ofNat s1] ++ [0]))) = some ((e, s1), 0, []) := (takeO_small ⟨1, e, s1, true, q, 0⟩ e s1 0 [] hEe hSs (by omega) (by simp)).trans (if_pos ⟨⟨by omega, .inl rfl⟩, rfl, rfl⟩)
        have B11 := hide b11
        clear b11 b9 b8 b7 b6 b5 b2 x0 x1 k07 k8
        generalize Em.frame 2 _ = fr at *
        go_wp2_with fail
        refine (cliTake W8 _ _ _ fr B11.out hfl r8).mono ?_
        intro e10 w10 R
        rw [takeC_some hta, hta] at R
        obtain ⟨F10, r10, A10, n10, c10, rfl, hb10⟩ := R
        have k010 := k08.cl F10 (Nat.le_refl _)
        have r10' : CRep 103 w10 w.heap.size ⟨1, e, s1, false, q, 0⟩ := r10
        have hL10 := F10.heap (by omega : ¬ L = w.heap.size) hL8
        have hD10 := F10.heap (by omega : ¬ D = w.heap.size) hD8
        have kal := Keep.al (Keep.rf w10) (.cells #[.int .i64 (e : Int), .int .i64 (s1 : Int), .int .i64 0, .slice A10 n10 c10] 57)
        have hD11 := (kal.frm fun _ => False).heap (fun h => h) hD10
        have hZ11 := heap_alloc_new w10 (.cells #[.int .i64 (e : Int), .int .i64 (s1 : Int), .int .i64 0, .slice A10 n10 c10] 57)
        have x0 := top_cells hD11 0
        have x1 := top_cells hD11 1
        have z0 := top_cells hZ11 0
        have z1 := top_cells hZ11 1
        simp only [List.getElem?_toArray, List.getElem?_cons_succ, List.getElem?_cons_zero] at x0 x1 z0 z1
        have HQ := hide (show CallsR w (w10.alloc (.cells #[.int .i64 (e : Int), .int .i64 (s1 : Int), .int .i64 0, .slice A10 n10 c10] 57)) w.heap.size L (i + 1) from ⟨Keep.tr k010 kal, e, s1, e, s1, 0, q, by omega, by omega, .inr ⟨rfl, rfl⟩, r10'.keep kal, (kal.frm fun _ => False).heap (fun h => h) hL10⟩)
        clear F10 r8 r10 hL8 hD8 hL10 hD10 hD11 hZ11 kal k010 r10' hb10 k08 R7 HL7 HD7 B11 hta hfl
        go_wp2_with fail
        go_roundw
        case rel => exact ⟨i + 1, by omega, by go_num, HQ.out⟩
        case measure => simp [intOf]; omega
    · have hltI : ¬ (i : Int) < (l.length : Int) := by omega
      go_wp2_with fail
      refine (cliCall_nil _ _).mono ?_
      rintro e2 w2 ⟨rfl, rfl⟩
      go_wp2_with fail
      refine (cliTick_nil _).mono ?_
      rintro e2 w2 ⟨rfl, rfl⟩
      go_wp2_with fail
      refine (cliRestart_nil _).mono ?_
      rintro e2 w2 ⟨rfl, rfl⟩
      go_wp2_with fail
      refine (law26Known _).mono ?_
      rintro e w10 ⟨rfl, k10⟩
      go_wp2_with fail
      go_ret
      exact ⟨rfl, Keep.tr km k10⟩
end Go.Proofs.Ytcbkklfdeloeeaa
