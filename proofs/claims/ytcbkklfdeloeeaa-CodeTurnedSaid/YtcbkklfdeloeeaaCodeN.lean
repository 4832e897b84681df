/- Walks: the reader of the reference (code): texts, an instruction. -/
import Derived.Test.YtcbkklfdeloeeaaCodeM
namespace Go.Proofs.Ytcbkklfdeloeeaa
open Go.RowKit
open Em (Prg)
set_option linter.unusedVariables false
set_option maxRecDepth 100000
def texS (st : Option (List UInt8)) : Option (List UInt8 × List UInt8) := st.bind Em.rdTx
set_option maxHeartbeats 4000000 in
theorem refText13 (w0 w : World) (p : Nat) (st : Option (List UInt8)) (hk : Keep w0 w) (hp0 : w0.heap.size ≤ p) (h : StC 96 w0 w p st) : Calls Try.prog 68 #[.pointer (some ⟨p, 0, none⟩)] w fun e w' =>
    (∃ x, e = .returned (.string (str x)) ∧ x.length ≤ 2000 ∧ ∀ t r, texS st = some (t, r) → x = t) ∧ StC 96 w0 w' p ((texS st).map fun x => x.2) ∧ Frm (· = p) w w' := by
  have HN := hide (refNum13 w0 w p 2000 st hk hp0 h)
  have htx : texS st = (cntS 2000 st).bind fun y => if y.2.length < y.1 then none else some (y.2.take y.1, y.2.drop y.1) := by
    cases st with
    | none => rfl
    | some l =>
      show Em.rdTx l = (Em.rdC 2000 l).bind _
      unfold Em.rdTx
      cases Em.rdC 2000 l with
      | none => rfl
      | some y => rfl
  have HTX := hide htx
  clear h htx
  cases hc : cntS 2000 st with
  | none =>
    have hv : cntV 2000 st = 0 := by rw [cntV, hc]; rfl
    have hno : texS st = none := by rw [HTX.out, hc]; rfl
    rw [hc, hv] at HN
    have HNO := hide hno
    clear hc hv hno
    go_enter Try.func68, Try.ntmps68
    go_wp2_with fail
    refine HN.out.mono ?_
    rintro e w1 ⟨rfl, hs, hf⟩
    obtain ⟨A, c, l, hs, hb⟩ := hs
    have d1 := top_cells hb 1
    have f1 := top_free hb 1
    simp only [List.getElem?_toArray, List.getElem?_cons_succ, List.getElem?_cons_zero] at d1
    have HB := hide hb
    have HS := hide hs
    have HF := hide hf
    clear hb hs hf HN
    go_wp2_with fail
    go_ret
    refine ⟨⟨[], rfl, by simp, fun t r e => by rw [HNO.out] at e; cases e⟩, ?_, Frm.st (S := (· = p)) (p := ⟨p, 1, none⟩) HF.out (.inl rfl) _⟩
    rw [HNO.out]
    exact StB.no ⟨A, c, HS.out, heap_setT (j := 1) HB.out (.bool false)⟩
  | some y =>
    obtain ⟨n, r⟩ := y
    have hn2 : n ≤ 2000 := by
      cases st with
      | none => cases hc
      | some l => exact (rdC_put (show Em.rdC 2000 l = some (n, r) from hc)).2
    have hv : cntV 2000 st = n := by rw [cntV, hc]; rfl
    rw [hc, hv] at HN
    have hyes : texS st = if r.length < n then none else some (r.take n, r.drop n) := by rw [HTX.out, hc]; rfl
    have HY := hide hyes
    clear hc hv hyes
    by_cases hl : r.length < n
    · go_enter Try.func68, Try.ntmps68
      go_wp2_with fail
      refine HN.out.mono ?_
      rintro e w1 ⟨rfl, ⟨A, c, hs, hb⟩, hf⟩
      have d0 := top_cells hb 0
      have d1 := top_cells hb 1
      have f1 := top_free hb 1
      simp only [List.getElem?_toArray, List.getElem?_cons_succ, List.getElem?_cons_zero] at d0 d1
      have hg : decide ((n : Int) > (r.length : Int)) = true := decide_eq_true (by omega)
      have HB := hide hb
      have HS := hide hs
      have HF := hide hf
      have HNO := hide (show texS st = none from by rw [HY.out, if_pos hl])
      clear hb hs hf HN
      go_wp2_with fail
      go_ret
      refine ⟨⟨[], rfl, by simp, fun t r e => by rw [HNO.out] at e; cases e⟩, ?_, Frm.st (S := (· = p)) (p := ⟨p, 1, none⟩) HF.out (.inl rfl) _⟩
      rw [HNO.out]
      exact StB.no ⟨A, c, HS.out, heap_setT (j := 1) HB.out (.bool false)⟩
    · go_enter Try.func68, Try.ntmps68
      go_wp2_with fail
      refine HN.out.mono ?_
      rintro e w1 ⟨rfl, ⟨A, c, hs, hb⟩, hf⟩
      have d0 := top_cells hb 0
      have d1 := top_cells hb 1
      have f0 := top_free hb 0
      simp only [List.getElem?_toArray, List.getElem?_cons_succ, List.getElem?_cons_zero] at d0 d1
      have hg : decide ((n : Int) > (r.length : Int)) = false := decide_eq_false (by omega)
      have k1 : Keep w0 w1 := Frm.keep hk hf fun i e => by have e : i = p := e; omega
      have HB := hide hb
      have HS := hide hs
      have HF := hide hf
      have HLE := hide (show r.length = n + (r.length - n) from by omega)
      have HDL := hide (show (r.drop n).length = r.length - n from List.length_drop)
      have HYES := hide (show texS st = some (r.take n, r.drop n) from by rw [HY.out, if_neg hl])
      have hrl : r.length ≤ 9223372036854775807 := hs.len
      clear hb hs hf HN
      go_wp2_with (first
        | (refine slTo0 rfl (.tmp 28) (.tmp 29) _ _ rfl Try.underlying29 sizeB8 _ _ rfl HS.out _ _ rfl n rfl (by omega) ?_; intro A2 c2 hd2; have hcv := run_conv_bs (P := Try.prog) (l := r.take n) (v := .slice A2 n c2) (hd2.keep k1) 29 5 9 Try.underlying29 Try.underlying5 Try.underlying9)
        | (refine slFrom0 rfl (.tmp 36) (.tmp 37) _ _ rfl Try.underlying29 sizeB8 _ _ rfl HS.out _ _ rfl n rfl _ HLE.out ?_; intro A1 c1 hd hd1 hd3)
        | fail)
      go_ret
      refine ⟨⟨r.take n, rfl, by simp; omega, fun t r' e => by rw [HYES.out] at e; injection e with e; injection e with e1 e2⟩, ?_, Frm.st (S := (· = p)) (p := ⟨p, 0, none⟩) HF.out (.inl rfl) _⟩
      rw [HYES.out]
      exact ⟨A1, c1, by rw [HDL.out]; exact hd, by rw [HDL.out]; exact heap_setT (j := 0) HB.out _⟩
theorem cntS_all (r : List UInt8) : cntS 18446744073709551615 (some r) = (match Em.getN r with | none => none | some (v, n) => some (v, r.drop n)) := by
  show Em.rdC _ r = _
  unfold Em.rdC
  cases h : Em.getN r with
  | none => rfl
  | some y =>
    obtain ⟨v, n⟩ := y
    have := (Em.get_some h).1
    simp only
    rw [if_neg (by omega)]
set_option maxHeartbeats 4000000 in
theorem refInstr13 (w0 w : World) (p : Nat) (st : Option (List UInt8)) (hk : Keep w0 w) (hp0 : w0.heap.size ≤ p) (h : StC 96 w0 w p st) : Calls Try.prog 69 #[.pointer (some ⟨p, 0, none⟩)] w (InsR 96 w0 w p st) := by
  have hp := h.lt
  have hz := heap_alloc_new w (.cells #[.int .i64 0, .int .i64 0] 91)
  have k1 : Keep w (w.alloc (.cells #[.int .i64 0, .int .i64 0] 91)) := (by repeat (first | exact Keep.rf _ | assumption | apply Keep.al | apply Keep.dr | apply Keep.dn))
  have hst := h.keep k1
  have k01 := Keep.tr hk k1
  by_cases hbad : st = none ∨ st = some []
  · have hno : insS st = none := by rcases hbad with rfl | rfl <;> rfl
    have HNO := hide hno
    obtain ⟨l, ⟨A, c, hs, hb⟩, hl⟩ := h.bits
    have hg : st.isSome = false ∨ st.isSome = true ∧ l.length = 0 := by
      rcases hbad with rfl | rfl
      · exact .inl rfl
      · exact .inr ⟨rfl, by rw [← hl [] rfl]; rfl⟩
    have d0 : (w.alloc (.cells #[.int .i64 0, .int .i64 0] 91)).cell? ⟨p, 0, none⟩ = some (.slice A l.length c) := Keep.cell k1 ((top_cells hb 0).trans rfl)
    have d1 : (w.alloc (.cells #[.int .i64 0, .int .i64 0] 91)).cell? ⟨p, 1, none⟩ = some (.bool st.isSome) := Keep.cell k1 ((top_cells hb 1).trans rfl)
    have f1 := top_free ((k1.frm fun _ => False).heap (fun h => h) hb) 1
    have hb1 : ((w.setCell ⟨p, 1, none⟩ (.bool false)).alloc (.cells #[.int .i64 0, .int .i64 0] 91)).heap[p]? = some (.cells #[.slice A l.length c, .bool false] 96) := ((Keep.al (Keep.rf _) _).frm fun _ => False).heap (fun h => h) (heap_setT (j := 1) hb (.bool false))
    have hz1 : ((w.setCell ⟨p, 1, none⟩ (.bool false)).alloc (.cells #[.int .i64 0, .int .i64 0] 91)).heap[w.heap.size]? = some (.cells #[.int .i64 0, .int .i64 0] 91) := new_behind (size_set _ _ _) _
    have HZ1 := hide hz1
    have HB1 := hide hb1
    have HS := hide hs
    have HF1 := hide (show Frm (· = p) w ((w.setCell ⟨p, 1, none⟩ (.bool false)).alloc (.cells #[.int .i64 0, .int .i64 0] 91)) from (Frm.st (S := (· = p)) (p := ⟨p, 1, none⟩) (Frm.rf _ w) (.inl rfl) (.bool false)).al _)
    clear hst hno hbad hs hb hl hz hb1 hz1 h
    generalize st.isSome = ok at *
    rcases hg with rfl | ⟨rfl, hl0⟩
    · go_enter Try.func69, Try.ntmps69
      go_wp2_with fail
      refine bodyPost_ret_by (results_cell_row rfl _ _ w.heap.size 91 _ (0, 0) _ rfl HZ1.out Try.underlying91 rfl ?_) rfl ?_
      · kernel_rfl
      · refine ⟨_, _, rfl, by decide, by decide, (fun x r e => by rw [HNO.out] at e; cases e), ?_, HF1.out⟩
        rw [HNO.out]
        exact StB.no ⟨A, c, HS.out, HB1.out⟩
    · rw [hl0] at d0
      go_enter Try.func69, Try.ntmps69
      go_wp2_with fail
      refine bodyPost_ret_by (results_cell_row rfl _ _ w.heap.size 91 _ (0, 0) _ rfl HZ1.out Try.underlying91 rfl ?_) rfl ?_
      · kernel_rfl
      · refine ⟨_, _, rfl, by decide, by decide, (fun x r e => by rw [HNO.out] at e; cases e), ?_, HF1.out⟩
        rw [HNO.out]
        exact StB.no ⟨A, c, HS.out, HB1.out⟩
  · obtain ⟨b, r, rfl⟩ : ∃ b r, st = some (b :: r) := by
      rcases st with _ | _ | ⟨b, r⟩
      · exact (hbad (.inl rfl)).elim
      · exact (hbad (.inr rfl)).elim
      · exact ⟨b, r, rfl⟩
    obtain ⟨A, c, hs, hbw⟩ := h
    have hb := (k1.frm fun _ => False).heap (fun h => h) hbw
    have HBW := hide hbw
    have HS := hide hs
    obtain ⟨-, ad, rfl, hx0⟩ := bs_first hs
    have hxa := Keep.cell k01 hx0
    have hxb : ad.block ≠ p := fun e => by have := World.block_lt_of_cell? _ _ hx0; omega
    obtain ⟨A', c', e, q1, q2, _⟩ := hs
    injection e with e1 e2 e3
    subst e3
    clear e1 e2 hbad hx0 hbw hst
    have x256 := b.toNat_lt
    have hwb := wf_byte b
    have HRD := hide (show insS (some (b :: r)) = if Em.hasN (b.toNat : Int) then (match Em.getN r with | none => none | some (v, n) => some (((b.toNat : Int), Em.zag v), r.drop n)) else some (((b.toNat : Int), 0), r) from rfl)
    generalize hxn : b.toNat = xn at *
    have HH := hide fun W => refHasN (xn : Int) W
    have HLE := hide (show (b :: r).length = 1 + r.length from by rw [List.length_cons]; omega)
    have d0 := top_cells hb 0
    have d1 := top_cells hb 1
    simp only [List.getElem?_toArray, List.getElem?_cons_succ, List.getElem?_cons_zero, List.length_cons, Int.natCast_add, Int.cast_ofNat_Int] at d0 d1 q1
    have hg0 : ((r.length : Int) + 1 == 0) = false := by simp; omega
    have k12 : Keep (w.alloc (.cells #[.int .i64 0, .int .i64 0] 91)) ((w.alloc (.cells #[.int .i64 0, .int .i64 0] 91)).alloc (.cells #[.int .i64 (xn : Int), .int .i64 0] 91)) := (by repeat (first | exact Keep.rf _ | assumption | apply Keep.al | apply Keep.dr | apply Keep.dn))
    have hb2 := (k12.frm fun _ => False).heap (fun h => h) hb
    have hz2 := (k12.frm fun _ => False).heap (fun h => h) hz
    have hi2 := new_second w (.cells #[.int .i64 0, .int .i64 0] 91) (.cells #[.int .i64 (xn : Int), .int .i64 0] 91)
    have i0 := top_cells hb2 0
    have j0 := top_free hb2 0
    simp only [List.getElem?_toArray, List.getElem?_cons_succ, List.getElem?_cons_zero, List.length_cons, Int.natCast_add, Int.cast_ofNat_Int] at i0
    clear hb hz hb2 hz2 hi2 k12 k1
    go_enter Try.func69, Try.ntmps69
    go_wp2_with (first
      | (refine slFrom0 rfl (.tmp 33) (.const (.int .i64 1)) _ _ rfl Try.underlying29 sizeB8 _ _ rfl HS.out _ _ rfl 1 rfl _ HLE.out ?_; intro A1 c1 hd hd1 hd2)
      | fail)
    have hs3 : Bs w0 (.slice A1 r.length c1) r := by simpa using hd
    have hsz : (w.setCell ⟨p, 0, none⟩ (.slice A1 r.length c1)).heap.size = w.heap.size := size_set _ _ _
    have k2 : Keep (w.setCell ⟨p, 0, none⟩ (.slice A1 r.length c1)) (((w.setCell ⟨p, 0, none⟩ (.slice A1 r.length c1)).alloc (.cells #[.int .i64 0, .int .i64 0] 91)).alloc (.cells #[.int .i64 (xn : Int), .int .i64 0] 91)) := Keep.al (Keep.al (Keep.rf _) _) _
    have hb3 := (k2.frm fun _ => False).heap (fun h => h) (heap_setT (j := 0) HBW.out (.slice A1 r.length c1))
    have hz3 : (((w.setCell ⟨p, 0, none⟩ (.slice A1 r.length c1)).alloc (.cells #[.int .i64 0, .int .i64 0] 91)).alloc (.cells #[.int .i64 (xn : Int), .int .i64 0] 91)).heap[w.heap.size]? = some (.cells #[.int .i64 0, .int .i64 0] 91) := ((Keep.al (Keep.rf _) _).frm fun _ => False).heap (fun h => h) (new_behind hsz _)
    have hi3 : (((w.setCell ⟨p, 0, none⟩ (.slice A1 r.length c1)).alloc (.cells #[.int .i64 0, .int .i64 0] 91)).alloc (.cells #[.int .i64 (xn : Int), .int .i64 0] 91)).heap[w.heap.size + 1]? = some (.cells #[.int .i64 (xn : Int), .int .i64 0] 91) := by rw [← hsz]; exact new_second _ _ _
    have F3 : Frm (· = p) w (((w.setCell ⟨p, 0, none⟩ (.slice A1 r.length c1)).alloc (.cells #[.int .i64 0, .int .i64 0] 91)).alloc (.cells #[.int .i64 (xn : Int), .int .i64 0] 91)) := (Frm.st (S := (· = p)) (p := ⟨p, 0, none⟩) (Frm.rf _ w) (.inl rfl) _).tr (k2.frm _)
    have x0 := top_cells hi3 0
    simp only [List.getElem?_toArray, List.getElem?_cons_succ, List.getElem?_cons_zero] at x0
    clear hd i0 j0 hxa d0 d1 k2
    generalize World.alloc (World.alloc (World.setCell _ _ _) _) _ = W3 at *
    have hst3 : StC 96 w0 W3 p (some r) := ⟨A1, c1, hs3, hb3⟩
    have k03 : Keep w0 W3 := Frm.keep hk F3 fun i e => by have e : i = p := e; omega
    clear hs3 hb3
    refine (HH.out _).mono ?_
    rintro e w' ⟨rfl, rfl⟩
    cases hN : Em.hasN (xn : Int) with
    | false =>
      have HR2 := hide (show insS (some (b :: r)) = some (((xn : Int), 0), r) from by rw [HRD.out, hN]; rfl)
      have x1 := top_cells hi3 1
      have y0 := top_cells hz3 0
      have y1 := top_cells hz3 1
      have z0 := top_free hz3 0
      have z1 := top_free hz3 1
      simp only [List.getElem?_toArray, List.getElem?_cons_succ, List.getElem?_cons_zero] at x1 y0 y1
      have HZ3 := hide hz3
      have HS3 := hide hst3
      have HF3 := hide F3
      clear hN hi3 hz3 hst3 F3
      go_wp2_with fail
      refine bodyPost_ret_by (results_cell_row rfl _ _ w.heap.size 91 _ (0, 0) _ rfl (heap_set2 HZ3.out _ _) Try.underlying91 rfl ?_) rfl ?_
      · kernel_rfl
      · refine ⟨_, _, rfl, hwb, by decide, (fun x r' e => by rw [HR2.out] at e; injection e with e; injection e with e1 e2), ?_, HF3.out.trn (frm_set2 _ _ _ _) fun i e => .inr (by have e : i = w.heap.size := e; omega)⟩
        rw [HR2.out]
        exact HS3.out.frm (frm_set2 _ _ _ _) fun e => by have e : p = w.heap.size := e; omega
    | true =>
      have HR2 := hide (show insS (some (b :: r)) = (match Em.getN r with | none => none | some (v, n) => some (((xn : Int), Em.zag v), r.drop n)) from by rw [HRD.out, hN]; rfl)
      have HNU := refNum13 w0 W3 p 18446744073709551615 (some r) k03 hp0 hst3
      rw [show ((18446744073709551615 : Nat) : Int) = 18446744073709551615 from rfl] at HNU
      have hca := cntS_all r
      have hvl : cntV 18446744073709551615 (some r) < 18446744073709551616 := by
        rw [cntV, hca]
        cases hg : Em.getN r with
        | none => simp
        | some y => exact (Em.get_some hg).1
      have HVE := hide (show ∀ v n, Em.getN r = some (v, n) → cntV 18446744073709551615 (some r) = v from fun v n e => by rw [cntV, hca, e]; rfl)
      rw [hca] at HNU
      generalize hcv : cntV 18446744073709551615 (some r) = v at *
      have HZG := hide fun W => refZag v (hide hvl) W
      have hwz := wf_of (Em.zag_in hvl)
      have HNUM := hide HNU
      clear hN hca hvl HNU hcv
      go_wp2_with fail
      refine HNUM.out.mono ?_
      rintro e w4 ⟨rfl, hst4, hF4⟩
      have hb4 := hF4.heap (fun e => by have e : w.heap.size + 1 = p := e; omega) hi3
      have hz4 := hF4.heap (fun e => by have e : w.heap.size = p := e; omega) hz3
      have F4 := F3.tr hF4
      clear hi3 hz3 hst3 F3 HNUM hF4 x0
      go_wp2_with fail
      refine (HZG.out _).mono ?_
      rintro e w' ⟨rfl, rfl⟩
      generalize hzg : Em.zag v = zv at *
      have hb5 := heap_setT (j := 1) hb4 (.int .i64 zv)
      have hz5 := heap_skip (a := ⟨w.heap.size + 1, 1, none⟩) hz4 (fun e => by have e : w.heap.size + 1 = w.heap.size := e; omega) (.int .i64 zv)
      have a1 := top_cells hb4 1
      have f1 := top_free hb4 1
      have x0 := top_cells hb5 0
      have x1 := top_cells hb5 1
      have y0 := top_cells hz5 0
      have y1 := top_cells hz5 1
      have z0 := top_free hz5 0
      have z1 := top_free hz5 1
      simp only [List.getElem?_toArray, List.getElem?_cons_succ, List.getElem?_cons_zero, Array.setIfInBounds, List.set_toArray, List.set_cons_succ, List.set_cons_zero] at a1 x0 x1 y0 y1
      have F5 : Frm (· = w.heap.size + 1) w4 (w4.setCell ⟨w.heap.size + 1, 1, none⟩ (.int .i64 zv)) := Frm.st (S := (· = w.heap.size + 1)) (p := ⟨w.heap.size + 1, 1, none⟩) (Frm.rf _ w4) (.inl rfl) _
      have HF5 := hide (F4.trn F5 fun i e => .inr (by have e : i = w.heap.size + 1 := e; omega))
      have HZ5 := hide hz5
      have HS5 := hide (hst4.frm F5 fun e => by have e : p = w.heap.size + 1 := e; omega)
      have HZV := hide hzg
      clear hb4 hz4 F4 hb5 hz5 F5 hst4 HZG hzg
      go_wp2_with fail
      refine bodyPost_ret_by (results_cell_row rfl _ _ w.heap.size 91 _ (0, 0) _ rfl (heap_set2 HZ5.out _ _) Try.underlying91 rfl ?_) rfl ?_
      · kernel_rfl
      · refine ⟨_, _, rfl, hwb, hwz, fun x r' e => ?_, ?_, HF5.out.trn (frm_set2 _ _ _ _) fun i e => .inr (by have e : i = w.heap.size := e; omega)⟩
        · rw [HR2.out] at e
          cases hg : Em.getN r with
          | none => rw [hg] at e; cases e
          | some vn =>
            obtain ⟨v', n⟩ := vn
            rw [hg] at e
            injection e with e
            injection e with e1 e2
            rw [← e1, ← HZV.out, HVE.out v' n hg]
        · have h6 := HS5.out.frm (frm_set2 (w4.setCell ⟨w.heap.size + 1, 1, none⟩ (.int .i64 zv)) w.heap.size (.int .i64 (xn : Int)) (.int .i64 zv)) fun e => by have e : p = w.heap.size := e; omega
          rw [HR2.out]
          cases hg : Em.getN r with
          | none =>
            rw [hg] at h6
            exact h6
          | some vn =>
            obtain ⟨v', n⟩ := vn
            rw [hg] at h6
            exact h6
end Go.Proofs.Ytcbkklfdeloeeaa
