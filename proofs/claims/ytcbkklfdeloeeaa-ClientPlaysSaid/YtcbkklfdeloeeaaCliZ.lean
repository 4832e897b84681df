/- The law ClientPlays: walk. -/
import Derived.Test.YtcbkklfdeloeeaaCliY
import Derived.Laws.Bits128
import Derived.Deep.DeepCutAuto
import Derived.Deep.CutBlock
import Derived.Deep.Cut
namespace Go.Proofs.Ytcbkklfdeloeeaa
open Go.RowKit
set_option linter.unusedVariables false
set_option maxRecDepth 100000
set_option maxHeartbeats 16000000 in
theorem ClientPlays_walk (w : World) (mk : Int) (hmk : (Lit.int .u64 mk).wf = true) (v : Value) (l : List CAct) (h : Sl 5 KCAct w v l) (_ : True) : Calls Try.prog 10 #[.int .u64 mk, v] w fun e w' => e = .returned (.bool true) ∧ Keep w w' := by
  obtain ⟨A, c, rfl, hlc, hcm, hr⟩ := h
  have hmb := in_u64 hmk
  clear hmk
  obtain ⟨M, rfl⟩ := Int.eq_ofNat_of_zero_le hmb.1
  have HM := hide (show M < 18446744073709551616 by omega)
  clear hmb
  by_cases hl : 100 < l.length
  · have hg : (l.length : Int) > 100 := by omega
    go_enter Try.func10, Try.ntmps10
    go_wp2_with fail
    go_ret
    exact ⟨rfl, (by repeat (first | exact Keep.rf _ | assumption | apply Keep.al | apply Keep.dr | apply Keep.dn))⟩
  have hg : ¬ ((l.length : Int) > 100) := by omega
  go_enter Try.func10, Try.ntmps10
  go_wp2_with fail
  refine (cliNew M w).mono ?_
  rintro e w1 ⟨rfl, k1, r1⟩
  have kal := Keep.al (Keep.rf w1) (.cells #[.int .u64 (M : Int), .int .i64 0, .int .i64 0, .bool false, .slice none 0 0, .int .i64 0] 67)
  have T0 := hide (show Twin w (w1.alloc (.cells #[.int .u64 (M : Int), .int .i64 0, .int .i64 0, .bool false, .slice none 0 0, .int .i64 0] 67)) w.heap.size w1.heap.size ⟨M, 0, 0, false, [], 0⟩ from ⟨Keep.tr k1 kal, Nat.le_refl _, k1.size, by have := r1.lt; omega, r1.keep kal, none, 0, heap_alloc_new _ _, Bs.nil0 _⟩)
  clear kal k1 r1
  go_wp2_with fail
  generalize w1.heap.size = q at *
  have HR := hide hr
  clear hr
  go_loopw [7] (fun i W => ∃ (j : Nat) (c : Cl), j ≤ l.length ∧ i = .int .i64 (j : Int) ∧ Twin w W w.heap.size q c ∧ Few M c j) (fun i _ => l.length - (intOf i).toNat)
  case atStart => exact ⟨0, _, by omega, rfl, T0.out, rfl, Nat.le_refl _, Nat.le_refl _, Nat.le_refl _, Nat.zero_le _⟩
  case round =>
    clear T0
    obtain ⟨j, cl, hj, rfl, hT, hF⟩ := hrel
    by_cases hlt : j < l.length
    · obtain ⟨ad, rfl, hcell⟩ := HR.out (by omega)
      obtain ⟨cs, hcs, hcl, fv, rfl, hfv⟩ := hcell j hlt
      have hkw := hT.1
      have c0 := Keep.cell hkw (hcl 0 _ rfl)
      rw [Nat.add_zero] at c0
      have c1 := cell_off (Keep.cell hkw (hcl 1 _ rfl))
      have c2 := cell_off (Keep.cell hkw (hcl 2 _ rfl))
      have c3 := cell_off (Keep.cell hkw (hcl 3 _ rfl))
      have c4 := cell_off (Keep.cell hkw (hcl 4 _ rfl))
      generalize l[j] = a at *
      obtain ⟨kind, ae, sq, aerr, ab⟩ := a
      simp only at *
      have HT := hide hT
      have HF := hide hF
      have HFV := hide (hfv.keep hkw)
      clear hcell hcl hT hF hkw
      obtain ⟨fA, fc, rfl, q1, q2, _⟩ := id hfv
      by_cases h5 : ab.length ≤ 100
      · go_upto_block 2 with fail
        have hb := heap_alloc_new wr (.cells #[.int .i64 kind, .int .i64 ae, .int .i64 sq, .int .u8 (aerr.toNat : Int), .slice fA ab.length fc] 69)
        have kb : Keep wr (wr.alloc (.cells #[.int .i64 kind, .int .i64 ae, .int .i64 sq, .int .u8 (aerr.toNat : Int), .slice fA ab.length fc] 69)) := (by repeat (first | exact Keep.rf _ | assumption | apply Keep.al | apply Keep.dr | apply Keep.dn))
        have HT2 := hide (HT.out.keep kb)
        have HFV2 := hide (HFV.out.keep kb)
        have hbp : wr.heap.size ≠ w.heap.size := by have := HT.out.2.2.2.2.1.lt; omega
        have hbq : wr.heap.size ≠ q := by have := HT.out.2.2.2.2.2.lt; omega
        go_cut [9] (fun ok W => ok = .bool true ∧ ∃ c' : Cl, Twin w W w.heap.size q c' ∧ Few M c' (j + 1))
        case first =>
          generalize hWB : wr.alloc (.cells #[.int .i64 kind, .int .i64 ae, .int .i64 sq, .int .u8 (aerr.toNat : Int), .slice fA ab.length fc] 69) = wB at *
          generalize wr.heap.size = b at *
          have b0 := top_cells hb 0
          have b1 := top_cells hb 1
          have b2 := top_cells hb 2
          have b3 := top_cells hb 3
          have b4 := top_cells hb 4
          simp only [List.getElem?_toArray, List.getElem?_cons_succ, List.getElem?_cons_zero] at b0 b1 b2 b3 b4
          have HBk := hide hb
          clear hb kb hWB c0 c1 c2 c3 c4
          by_cases hk1 : kind = 1
          · subst hk1
            clear b0 b1 b2 b3
            replace b4 := Keep.cell (Keep.al (Keep.rf wB) (.cells #[] 5)) b4
            go_wp2_with (first
              | (at_builtin; go_loud (refine wpList_appE rfl (.tmp 107) (.tmp 109) 29 rfl 5 _ Try.underlying29 infoU8 rfl _ rfl _ ab rfl (HFV2.out.keep (by repeat (first | exact Keep.rf _ | assumption | apply Keep.al | apply Keep.dr | apply Keep.dn))) (by omega) ?_); intro A5 c5 w5 hb5 hk5)
              | fail)
            have kB5 : Keep wB w5 := Keep.tr (by repeat (first | exact Keep.rf _ | assumption | apply Keep.al | apply Keep.dr | apply Keep.dn)) hk5
            have T5 := HT2.out.keep kB5
            have act5 := (kB5.frm fun _ => False).heap (fun h => h) HBk.out
            have hsm : cl.s < 1000000 := by have := HF.out.2.2.1; omega
            have hmm : cl.m < 18446744073709551616 := by rw [HF.out.1]; exact HM.out
            clear b4 hk5
            refine (cliCall w5 _ cl hsm hmm _ ab hb5 (by omega) T5.2.2.2.2.1).mono ?_
            intro e6 w6 R
            obtain ⟨F6, r6, A6, c6, rfl, hb6⟩ := R.all
            obtain ⟨k6, s6⟩ := T5.mid F6 r6
            have act6 := F6.heap hbp act5
            have v6 := (HFV2.out.keep kB5).cl F6 T5.2.2.2.2.1
            have b4 := top_cells act6 4
            simp only [List.getElem?_toArray, List.getElem?_cons_succ, List.getElem?_cons_zero] at b4
            have RC := hide (ref26Call w6 q cl hsm hmm _ ab v6 (by omega) s6)
            have hFt := hide (HF.out.call ab)
            have T5h := hide T5
            clear act6 act5 T5 F6 v6 hmm
            generalize callC cl ab = c' at *
            generalize callO cl ab = o at *
            go_wp2_with fail
            refine RC.out.mono ?_
            intro e7 w7 R
            obtain ⟨F7, r7, A7, c7, rfl, hb7⟩ := R.all
            have hb67 := hb6.cl F7 s6
            have HT7 := hide (T5h.out.step k6 r6 s6 F7 r7)
            generalize o.isSome = ob at *
            have hbb : (ob == ob) = true := by simp
            clear R RC F7 r7 s6 r6 k6 hb6 T5h
            generalize o.getD [] = bs at *
            have hcA := run_conv_bs (P := Try.prog) hb67 29 5 9 Try.underlying29 Try.underlying5 Try.underlying9
            have hcB := run_conv_bs (P := Try.prog) hb7 29 5 9 Try.underlying29 Try.underlying5 Try.underlying9
            have hss : ((str bs).toList == (str bs).toList) = true := by simp
            clear hb67 hb7
            go_wp2_with fail
            go_meet
            exact ⟨rfl, c', HT7.out, hFt.out⟩
          · have hk1f : (kind == 1) = false := by simpa using hk1
            by_cases hk2 : kind = 2
            · subst hk2
              clear b0 b1 b2 b3 b4
              go_wp2_with fail
              have hsm : cl.n < 1000000 := by have := HF.out.2.2.2.1; omega
              have hbl := HF.out.2.2.2.2
              have T5 := HT2.out
              refine (cliTick wB _ cl hsm hbl T5.2.2.2.2.1).mono ?_
              intro e6 w6 R
              obtain ⟨F6, r6, A6, c6, rfl, hb6⟩ := R.all
              obtain ⟨k6, s6⟩ := T5.mid F6 r6
              have RC := hide (ref26Tick w6 q cl hsm hbl s6)
              have hFt := hide (HF.out.tick)
              have T5h := hide T5
              clear T5 F6 hbl
              generalize tickC cl = c' at *
              generalize tickO cl = o at *
              go_wp2_with fail
              refine RC.out.mono ?_
              intro e7 w7 R
              obtain ⟨F7, r7, A7, c7, rfl, hb7⟩ := R.all
              have hb67 := hb6.cl F7 s6
              have HT7 := hide (T5h.out.step k6 r6 s6 F7 r7)
              generalize o.isSome = ob at *
              have hbb : (ob == ob) = true := by simp
              clear R RC F7 r7 s6 r6 k6 hb6 T5h
              generalize o.getD [] = bs at *
              have hcA := run_conv_bs (P := Try.prog) hb67 29 5 9 Try.underlying29 Try.underlying5 Try.underlying9
              have hcB := run_conv_bs (P := Try.prog) hb7 29 5 9 Try.underlying29 Try.underlying5 Try.underlying9
              have hss : ((str bs).toList == (str bs).toList) = true := by simp
              clear hb67 hb7
              go_wp2_with fail
              go_meet
              exact ⟨rfl, c', HT7.out, hFt.out⟩
            · have hk2f : (kind == 2) = false := by simpa using hk2
              by_cases hk4 : kind = 4
              · subst hk4
                clear b0 b1 b2 b3 b4
                go_wp2_with fail
                have hsm : cl.e < 1000000 := by have := HF.out.2.1; omega
                have T5 := HT2.out
                refine (cliRestart wB _ cl hsm T5.2.2.2.2.1).mono ?_
                rintro e6 w6 ⟨rfl, F6, r6⟩
                obtain ⟨k6, s6⟩ := T5.mid F6 r6
                have hFt := hide (HF.out.rest)
                have T5h := hide T5
                clear T5 F6
                go_wp2_with fail
                refine (ref26Restart w6 q cl hsm s6).mono ?_
                rintro e7 w7 ⟨rfl, F7, r7⟩
                have HT7 := hide (T5h.out.step k6 r6 s6 F7 r7)
                clear F7 r7 s6 r6 k6 T5h
                go_wp2_with fail
                go_meet
                exact ⟨rfl, _, HT7.out, hFt.out⟩
              · have hk4f : (kind == 4) = false := by simpa using hk4
                have hk2g := hk2
                clear hk1 hk2 hk4 hk2g
                by_cases hk3 : kind = 3
                · subst hk3
                  have b4a := fun o => Keep.cell (Keep.al (Keep.rf wB) o) b4
                  have hX : Value.int .u8 (bits .and .i64 ae 127 % 256) = bv (UInt8.ofNat (ae % 128).toNat) := by
                    rw [i64_and127, ← u8_bv _ (by omega)]
                    congr 1
                    omega
                  have hY : Value.int .u8 (bits .and .i64 sq 127 % 256) = bv (UInt8.ofNat (sq % 128).toNat) := by
                    rw [i64_and127, ← u8_bv _ (by omega)]
                    congr 1
                    omega
                  have hZ : Value.int .u8 (bits .and .u8 (aerr.toNat : Int) 15) = bv (UInt8.ofNat (aerr.toNat % 16)) := by
                    have := aerr.toNat_lt
                    have h15 := u8_and15 (x := (aerr.toNat : Int)) (by omega) (by omega)
                    rw [h15, ← u8_bv _ (by omega)]
                    congr 1
                  have HX := hide hX
                  have HY := hide hY
                  have HZ := hide hZ
                  clear hX hY hZ
                  go_wp2_with (first
                    | (at_builtin; go_loud (refine wpList_appF rfl (.tmp 74) (.tmp 76) 29 rfl 5 _ Try.underlying29 infoU8 rfl _ 3 [UInt8.ofNat (ae % 128).toNat, UInt8.ofNat (sq % 128).toNat, UInt8.ofNat (aerr.toNat % 16)] rfl (Bs.lit _ (by simp only [List.map_cons, List.map_nil, ← HX.out, ← HY.out, ← HZ.out]) rfl rfl (by simp) (by omega)) _ ab rfl (HFV2.out.keep (by repeat (first | exact Keep.rf _ | assumption | apply Keep.al | apply Keep.dr | apply Keep.dn))) (by simp; omega) ?_); intro A5 c5 w5 hb5 hk5)
                    | fail)
                  clear b0 b1 b2 b3 b4 b4a HX HY HZ
                  refine (refFPut 2 _ _ w5 hb5 (by simp; omega)).mono ?_
                  rintro e6 w8 ⟨v8, rfl, o8, k8⟩
                  have hfl := frame2_len ([UInt8.ofNat (ae % 128).toNat, UInt8.ofNat (sq % 128).toNat, UInt8.ofNat (aerr.toNat % 16)] ++ ab) (by simp; omega)
                  generalize Em.frame 2 _ = fr at *
                  obtain ⟨A8, c8, rfl⟩ := own_slice (show w8.ownsRow _ _ _ _ _ _ from o8)
                  have hb8 := o8.bs
                  have kB8 : Keep wB w8 := Keep.tr (Keep.tr (by repeat (first | exact Keep.rf _ | assumption | apply Keep.al | apply Keep.dr | apply Keep.dn)) hk5) k8
                  clear o8 hb5 hk5 k8
                  go_wp2_with (first
                    | (at_builtin; go_loud (refine wpList_appE rfl (.tmp 83) (.tmp 84) 29 rfl 5 _ Try.underlying29 infoU8 rfl _ rfl _ fr rfl (hb8.keep (by repeat (first | exact Keep.rf _ | assumption | apply Keep.al | apply Keep.dr | apply Keep.dn))) hfl ?_); intro A9 c9 w9 hb9 hk9)
                    | fail)
                  have k79 : Keep w8 w9 := Keep.tr (by repeat (first | exact Keep.rf _ | assumption | apply Keep.al | apply Keep.dr | apply Keep.dn)) hk9
                  have T9 := HT2.out.keep (Keep.tr kB8 k79)
                  have hb89 := hb8.keep k79
                  clear hk9
                  refine (cliTake w9 _ cl _ fr hb9 hfl T9.2.2.2.2.1).mono ?_
                  intro e10 w10 R
                  obtain ⟨F10, r10, A10, c10, rfl, hb10⟩ := R.all
                  obtain ⟨k10, s10⟩ := T9.mid F10 r10
                  have hb810 := hb89.cl F10 T9.2.2.2.2.1
                  have hFt := hide (HF.out.take fr)
                  have hq10 : w10.heap.size ≠ q := by have := s10.lt; omega
                  have RC0 := fun W (k : Keep w10 W) => ref26Take W q cl _ fr (hb810.keep k) (s10.keep k)
                  generalize takeC cl fr = c' at *
                  generalize hte : tE (takeO cl fr) = te at *
                  obtain ⟨ta, tc, tx, tr⟩ := te
                  have kal := Keep.al (Keep.rf w10) (.cells #[.int .i64 (ta : Int), .int .i64 (tc : Int), .int .i64 (tx : Int), .slice A10 tr.length c10] 57)
                  have hx := heap_alloc_new w10 (.cells #[.int .i64 (ta : Int), .int .i64 (tc : Int), .int .i64 (tx : Int), .slice A10 tr.length c10] 57)
                  have RC := hide (RC0 _ kal)
                  have r11 := r10.keep kal
                  have s11 := s10.keep kal
                  have k11 := Keep.tr k10 kal
                  have hb11 := hb10.keep kal
                  have T9h := hide T9
                  have HX := hide hx
                  simp only at hb10 hb11
                  clear R RC0 F10 r10 s10 k10 hb10 hb810 hb89 kal hx T9 k79
                  go_wp2_with fail
                  generalize w10.heap.size = D at *
                  generalize World.alloc w10 _ = w11 at *
                  refine RC.out.mono ?_
                  intro e12 w12 R
                  obtain ⟨F12, r12, A12, c12, rfl, hb12⟩ := R.all
                  rw [hte] at hb12 ⊢
                  simp only at hb12 ⊢
                  have x12 := F12.heap hq10 HX.out
                  have hb1112 := hb11.cl F12 s11
                  have T12 := hide (T9h.out.step k11 r11 s11 F12 r12)
                  generalize (takeO cl fr).isSome = tb at *
                  have kal := Keep.al (Keep.rf w12) (.cells #[.int .i64 (ta : Int), .int .i64 (tc : Int), .int .i64 (tx : Int), .slice A12 tr.length c12] 57)
                  have hz := heap_alloc_new w12 (.cells #[.int .i64 (ta : Int), .int .i64 (tc : Int), .int .i64 (tx : Int), .slice A12 tr.length c12] 57)
                  have x13 := (kal.frm fun _ => False).heap (fun h => h) x12
                  have x0 := top_cells x13 0
                  have x1 := top_cells x13 1
                  have x2 := top_cells x13 2
                  have x3 := top_cells x13 3
                  have z0 := top_cells hz 0
                  have z1 := top_cells hz 1
                  have z2 := top_cells hz 2
                  have z3 := top_cells hz 3
                  simp only [List.getElem?_toArray, List.getElem?_cons_succ, List.getElem?_cons_zero] at x0 x1 x2 x3 z0 z1 z2 z3
                  have SM := hide (ref25Same_eq _ (ta : Int) (tc : Int) (tx : Int) A10 tr.length c10 A12 tr.length c12 tr (hb1112.keep kal) (hb12.keep kal))
                  have T13 := hide (T12.out.keep kal)
                  have hbb : (tb == tb) = true := by simp
                  clear R RC F12 r12 r11 s11 k11 hb11 hb12 hb1112 x12 x13 hz kal T12 T9h HX hte
                  go_wp2_with fail
                  refine SM.out.mono ?_
                  rintro e14 w14 ⟨rfl, k14⟩
                  clear x0 x1 x2 x3 z0 z1 z2 z3
                  go_wp2_with fail
                  go_meet
                  exact ⟨rfl, c', T13.out.keep k14, hFt.out⟩
                · have hk3f : (kind == 3) = false := by simpa using hk3
                  clear hk3 b1 b2 b3
                  go_wp2_with (first
                    | (at_builtin; go_loud (refine wpList_appE rfl (.tmp 83) (.tmp 84) 29 rfl 5 _ Try.underlying29 infoU8 rfl _ rfl _ ab rfl (HFV2.out.keep (by repeat (first | exact Keep.rf _ | assumption | apply Keep.al | apply Keep.dr | apply Keep.dn))) (by omega) ?_); intro A9 c9 w9 hb9 hk9)
                    | fail)
                  have kB8 : Keep wB wB := Keep.rf wB
                  have hb8 := HFV2.out
                  have k79 : Keep wB w9 := Keep.tr (by repeat (first | exact Keep.rf _ | assumption | apply Keep.al | apply Keep.dr | apply Keep.dn)) hk9
                  have T9 := HT2.out.keep (Keep.tr kB8 k79)
                  have hb89 := hb8.keep k79
                  clear hk9
                  refine (cliTake w9 _ cl _ ab hb9 (by omega) T9.2.2.2.2.1).mono ?_
                  intro e10 w10 R
                  obtain ⟨F10, r10, A10, c10, rfl, hb10⟩ := R.all
                  obtain ⟨k10, s10⟩ := T9.mid F10 r10
                  have hb810 := hb89.cl F10 T9.2.2.2.2.1
                  have hFt := hide (HF.out.take ab)
                  have hq10 : w10.heap.size ≠ q := by have := s10.lt; omega
                  have RC0 := fun W (k : Keep w10 W) => ref26Take W q cl _ ab (hb810.keep k) (s10.keep k)
                  generalize takeC cl ab = c' at *
                  generalize hte : tE (takeO cl ab) = te at *
                  obtain ⟨ta, tc, tx, tr⟩ := te
                  have kal := Keep.al (Keep.rf w10) (.cells #[.int .i64 (ta : Int), .int .i64 (tc : Int), .int .i64 (tx : Int), .slice A10 tr.length c10] 57)
                  have hx := heap_alloc_new w10 (.cells #[.int .i64 (ta : Int), .int .i64 (tc : Int), .int .i64 (tx : Int), .slice A10 tr.length c10] 57)
                  have RC := hide (RC0 _ kal)
                  have r11 := r10.keep kal
                  have s11 := s10.keep kal
                  have k11 := Keep.tr k10 kal
                  have hb11 := hb10.keep kal
                  have T9h := hide T9
                  have HX := hide hx
                  simp only at hb10 hb11
                  clear R RC0 F10 r10 s10 k10 hb10 hb810 hb89 kal hx T9 k79
                  go_wp2_with fail
                  generalize w10.heap.size = D at *
                  generalize World.alloc w10 _ = w11 at *
                  refine RC.out.mono ?_
                  intro e12 w12 R
                  obtain ⟨F12, r12, A12, c12, rfl, hb12⟩ := R.all
                  rw [hte] at hb12 ⊢
                  simp only at hb12 ⊢
                  have x12 := F12.heap hq10 HX.out
                  have hb1112 := hb11.cl F12 s11
                  have T12 := hide (T9h.out.step k11 r11 s11 F12 r12)
                  generalize (takeO cl ab).isSome = tb at *
                  have kal := Keep.al (Keep.rf w12) (.cells #[.int .i64 (ta : Int), .int .i64 (tc : Int), .int .i64 (tx : Int), .slice A12 tr.length c12] 57)
                  have hz := heap_alloc_new w12 (.cells #[.int .i64 (ta : Int), .int .i64 (tc : Int), .int .i64 (tx : Int), .slice A12 tr.length c12] 57)
                  have x13 := (kal.frm fun _ => False).heap (fun h => h) x12
                  have x0 := top_cells x13 0
                  have x1 := top_cells x13 1
                  have x2 := top_cells x13 2
                  have x3 := top_cells x13 3
                  have z0 := top_cells hz 0
                  have z1 := top_cells hz 1
                  have z2 := top_cells hz 2
                  have z3 := top_cells hz 3
                  simp only [List.getElem?_toArray, List.getElem?_cons_succ, List.getElem?_cons_zero] at x0 x1 x2 x3 z0 z1 z2 z3
                  have SM := hide (ref25Same_eq _ (ta : Int) (tc : Int) (tx : Int) A10 tr.length c10 A12 tr.length c12 tr (hb1112.keep kal) (hb12.keep kal))
                  have T13 := hide (T12.out.keep kal)
                  have hbb : (tb == tb) = true := by simp
                  clear R RC F12 r12 r11 s11 k11 hb11 hb12 hb1112 x12 x13 hz kal T12 T9h HX hte
                  go_wp2_with fail
                  refine SM.out.mono ?_
                  rintro e14 w14 ⟨rfl, k14⟩
                  clear x0 x1 x2 x3 z0 z1 z2 z3
                  go_wp2_with fail
                  go_meet
                  exact ⟨rfl, c', T13.out.keep k14, hFt.out⟩
        case rest =>
          obtain ⟨rfl, c', hT9, hF9⟩ := hcut
          have HT9 := hide hT9
          have HF9 := hide hF9
          clear hT9 hF9 HT2 HFV2 HT HF HFV hb kb c0 c1 c2 c3 c4 q1 q2 hfv
          generalize wr.heap.size = b at *
          go_wp2_with fail
          refine (cliPending _ _ c' HT9.out.2.2.2.2.1).mono ?_
          intro e10 w10 R
          obtain ⟨k10, rfl⟩ := R.all
          have k1l := Keep.al (Keep.rf w10) (.cells #[.int .i64 (pE c'), .int .i64 (pS c')] 54)
          have hx := heap_alloc_new w10 (.cells #[.int .i64 (pE c'), .int .i64 (pS c')] 54)
          have T11 := HT9.out.keep (Keep.tr k10 k1l)
          have RC := hide (ref26Pending _ q c' T11.2.2.2.2.2)
          have T11h := hide T11
          have x0 := top_cells hx 0
          have x1 := top_cells hx 1
          simp only [List.getElem?_toArray, List.getElem?_cons_succ, List.getElem?_cons_zero] at x0 x1
          clear R k10 k1l hx T11 HT9
          go_wp2_with fail
          refine RC.out.mono ?_
          intro e12 w12 R
          obtain ⟨k12, rfl⟩ := R.all
          have k12l := Keep.al (Keep.rf w12) (.cells #[.int .i64 (pE c'), .int .i64 (pS c')] 54)
          have hz := heap_alloc_new w12 (.cells #[.int .i64 (pE c'), .int .i64 (pS c')] 54)
          have T13 := hide (T11h.out.keep (Keep.tr k12 k12l))
          replace x0 := Keep.cell (Keep.tr k12 k12l) x0
          replace x1 := Keep.cell (Keep.tr k12 k12l) x1
          have z0 := top_cells hz 0
          have z1 := top_cells hz 1
          simp only [List.getElem?_toArray, List.getElem?_cons_succ, List.getElem?_cons_zero] at z0 z1
          clear R RC k12 k12l hz T11h
          generalize pE c' = xe at *
          generalize pS c' = xs at *
          generalize c'.p = pb at *
          have hpb : (pb != pb) = false := by simp
          go_wp2_with fail
          go_roundw
          case rel => exact ⟨j + 1, c', by omega, by go_num, T13.out, HF9.out⟩
          case measure => simp [intOf]; omega
      · have h5I : (ab.length : Int) > 100 := by omega
        go_wp2_with fail
        go_ret
        exact ⟨rfl, Keep.al HT.out.1 _⟩
    · have hltI : ¬ (j : Int) < (l.length : Int) := by omega
      go_wp2_with fail
      refine (law26Known _).mono ?_
      rintro e w10 ⟨rfl, k10⟩
      go_wp2_with fail
      go_ret
      exact ⟨rfl, Keep.tr hT.1 k10⟩
end Go.Proofs.Ytcbkklfdeloeeaa
