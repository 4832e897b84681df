/- The law ClientLate: walk. -/
import Derived.Test.YtcbkklfdeloeeaaCliU
namespace Go.Proofs.Ytcbkklfdeloeeaa
open Go.RowKit
set_option linter.unusedVariables false
set_option maxRecDepth 100000
theorem u8m (n : Nat) (hn : n < 128) (x : Int) (hx : x = (n : Int)) : Value.int .u8 x = bv (UInt8.ofNat n) := by
  rw [← u8_bv n (by omega), hx]
theorem RetP.off {w : World} {c : Cl} {e : Ending} {w' : World} (h : RetP w c e w') (hp : c.p = false) : Keep w w' ∧ e = .returned (.tuple #[.agg #[.int .i64 0, .int .i64 0], .bool false]) := by
  obtain ⟨k, rfl⟩ := h
  rw [hp]
  exact ⟨k, rfl⟩
theorem RetP.on {w : World} {c : Cl} {e : Ending} {w' : World} (h : RetP w c e w') (hp : c.p = true) : Keep w w' ∧ e = .returned (.tuple #[.agg #[.int .i64 (c.e : Int), .int .i64 (c.s : Int)], .bool true]) := by
  obtain ⟨k, rfl⟩ := h
  rw [hp]
  exact ⟨k, rfl⟩
/-- Client's state ahead of call m + 1. -/
def LateR (w W : World) (p : Nat) (C m : Nat) : Prop := Keep w W ∧ ∃ (b : List UInt8) (n : Nat), CRep 103 W p ⟨1, 0, m, decide (m = C), b, n⟩
set_option maxHeartbeats 8000000 in
theorem ClientLate_loop (w : World) (C E S : Nat) (hC1 : 1 ≤ C) (hC2 : C ≤ 20) (hE : E ≤ 5) (hS : S ≤ 25) : Calls Try.prog 9 #[.int .i64 (C : Int), .int .i64 (E : Int), .int .i64 (S : Int)] w fun e w' => e = .returned (.bool true) ∧ Keep w w' := by
  have g1 : ¬ ((C : Int) < 1) := by omega
  have g2 : ¬ ((C : Int) > 20) := by omega
  have g3 : ¬ ((E : Int) < 0) := by omega
  have g4 : ¬ ((E : Int) > 5) := by omega
  have g5 : ¬ ((S : Int) < 0) := by omega
  have g6 : ¬ ((S : Int) > 25) := by omega
  go_enter Try.func9, Try.ntmps9
  go_wp2_with fail
  refine (cliNew 1 w).mono ?_
  rintro e w1 ⟨rfl, k1, r1⟩
  go_wp2_with fail
  clear g1 g2 g3 g4 g5 g6
  go_loopw [8] (fun k W => ∃ m : Nat, m ≤ C ∧ k = .int .i64 ((m : Int) + 1) ∧ LateR w W w.heap.size C m) (fun k _ => (41 - intOf k).toNat)
  case atStart => exact ⟨0, by omega, rfl, k1, [], 0, by rw [decide_eq_false (by omega)]; exact r1⟩
  case round =>
    clear r1 k1
    obtain ⟨m, hm, rfl, km, b, n, rm⟩ := hrel
    by_cases hlt : m < C
    · have hltI : (m : Int) + 1 ≤ (C : Int) := by omega
      have hmb : (m : Int) + 1 ≤ 20 := by omega
      rw [decide_eq_false (by omega : ¬ m = C)] at rm
      go_wp2_with fail
      obtain ⟨q, hq⟩ : ∃ q, callO ⟨1, 0, m, false, b, n⟩ [] = some q := ⟨_, callO_small _ _ rfl (by simp) (by simp; omega) (by simp)⟩
      refine (cliCall_free _ _ _ rfl (by simp; omega) (by simp) _ [] (Bs.nil _) (by simp) rm).mono ?_
      intro e w2 R
      rw [callC_some hq, hq] at R
      obtain ⟨F2, r2, A2, n2, c2, rfl, hb2⟩ := R
      have k2 := km.cl F2 (Nat.le_refl _)
      have r2' : CRep 103 w2 w.heap.size ⟨1, 0, m + 1, true, q, 0⟩ := r2
      clear F2 km rm hb2 r2 hq
      by_cases hl2 : m + 1 < C
      · have hl2I : (m : Int) + 1 < (C : Int) := by omega
        have HU := hide (u8m (m + 1) (by omega) ((m : Int) + 1) (by omega))
        go_wp2_with fail
        refine (refFPut 2 _ [0, UInt8.ofNat (m + 1), 0] _ (Bs.lit [0, UInt8.ofNat (m + 1), 0] (by simp only [List.map_cons, List.map_nil, ← HU.out]; rfl) rfl rfl (by simp) (by omega)) (by simp)).mono ?_
        rintro e w4 ⟨v4, rfl, o4, k4⟩
        have k24 : Keep w2 w4 := Keep.tr ((by repeat (first | exact Keep.rf _ | assumption | apply Keep.al | apply Keep.dr | apply Keep.dn)) : Keep _ (World.alloc _ _)) k4
        have hfl := frame2_len [0, UInt8.ofNat (m + 1), 0] (by simp)
        have hta : takeO ⟨1, 0, m + 1, true, q, 0⟩ (Em.frame 2 [0, UInt8.ofNat (m + 1), 0]) = some ((0, m + 1), 0, []) := (takeO_small ⟨1, 0, m + 1, true, q, 0⟩ 0 (m + 1) 0 [] (by omega) (by omega) (by omega) (by simp)).trans (if_pos ⟨⟨by omega, .inl rfl⟩, rfl, rfl⟩)
        generalize Em.frame 2 [0, UInt8.ofNat (m + 1), 0] = fr at *
        have hb4 := o4.bs
        obtain ⟨A4, c4, rfl⟩ := own_slice (show w4.ownsRow _ _ _ _ _ _ from o4)
        have k04 := Keep.tr k2 k24
        have r4 := r2'.keep k24
        clear r2' k24 k2 k4 o4 HU
        go_wp2_with fail
        refine (cliTake w4 _ _ _ fr hb4 hfl r4).mono ?_
        intro e w5 R
        rw [takeC_some hta, hta] at R
        obtain ⟨F5, r5, A5, n5, c5, rfl, hb5⟩ := R
        have k05 := k04.cl F5 (Nat.le_refl _)
        have r5' : CRep 103 w5 w.heap.size ⟨1, 0, m + 1, false, q, 0⟩ := r5
        clear F5 k04 r4 hb4 hb5 hta
        go_wp2_with fail
        go_roundw
        case rel => exact ⟨m + 1, by omega, by go_num, k05, q, 0, by rw [decide_eq_false (by omega)]; exact r5'⟩
        case measure => simp [intOf]; omega
      · have hl2I : ¬ ((m : Int) + 1 < (C : Int)) := by omega
        go_wp2_with fail
        go_roundw
        case rel => exact ⟨m + 1, by omega, by go_num, k2, q, 0, by rw [decide_eq_true (by omega)]; exact r2'⟩
        case measure => simp [intOf]; omega
    · have hltI : ¬ ((m : Int) + 1 ≤ (C : Int)) := by omega
      have hmC := hide (show m = C by omega)
      have HR := hide (show CRep 103 _ w.heap.size ⟨1, 0, C, true, b, n⟩ by rw [decide_eq_true (by omega : m = C)] at rm; rw [← (by omega : m = C)]; exact rm)
      clear rm hm hlt
      have HU := hide (u8m E (by omega) (E : Int) (by omega))
      have HS := hide (u8m S (by omega) (S : Int) (by omega))
      go_wp2_with fail
      refine (refFPut 2 _ [UInt8.ofNat E, UInt8.ofNat S, 0, 9] _ (Bs.lit [UInt8.ofNat E, UInt8.ofNat S, 0, 9] (by simp only [List.map_cons, List.map_nil, ← HU.out, ← HS.out]; rfl) rfl rfl (by simp) (by omega)) (by simp)).mono ?_
      rintro e w4 ⟨v4, rfl, o4, k4⟩
      have kr4 : Keep wr w4 := Keep.tr ((by repeat (first | exact Keep.rf _ | assumption | apply Keep.al | apply Keep.dr | apply Keep.dn)) : Keep _ (World.alloc _ _)) k4
      have hfl := frame2_len [UInt8.ofNat E, UInt8.ofNat S, 0, 9] (by simp)
      have hta := takeO_small ⟨1, 0, C, true, b, n⟩ E S 0 [9] (by omega) (by omega) (by omega) (by simp)
      rw [show UInt8.ofNat 0 = 0 from rfl] at hta
      generalize Em.frame 2 [UInt8.ofNat E, UInt8.ofNat S, 0, 9] = fr at *
      have hb4 := o4.bs
      obtain ⟨A4, c4, rfl⟩ := own_slice (show w4.ownsRow _ _ _ _ _ _ from o4)
      have k04 := Keep.tr km kr4
      have r4 := HR.out.keep kr4
      clear kr4 k4 o4 HU HS km HR
      by_cases hq : E = 0 ∧ S = C
      · obtain ⟨rfl, rfl⟩ := hq
        rw [if_pos ⟨⟨by omega, .inl rfl⟩, rfl, rfl⟩] at hta
        go_wp2_with fail
        refine (cliTake w4 _ _ _ fr hb4 hfl r4).mono ?_
        intro e w5 R
        rw [takeC_some hta, hta] at R
        obtain ⟨F5, r5, A5, n5, c5, rfl, hb5⟩ := R
        have k05 := k04.cl F5 (Nat.le_refl _)
        have r5' : CRep 103 w5 w.heap.size ⟨1, 0, S, false, b, n⟩ := r5
        clear F5 k04 r4 hb4 hta r5
        have k56 := Keep.al (Keep.rf w5) (.cells #[.int .i64 0, .int .i64 (S : Int), .int .i64 0, .slice A5 n5 c5] 57)
        have hx := heap_alloc_new w5 (.cells #[.int .i64 0, .int .i64 (S : Int), .int .i64 0, .slice A5 n5 c5] 57)
        obtain rfl : n5 = 1 := by obtain ⟨_, _, e, _⟩ := hb5; cases e; rfl
        have x0 := top_cells hx 0
        have x1 := top_cells hx 1
        have x2 := top_cells hx 2
        have x3 := top_cells hx 3
        simp only [List.getElem?_toArray, List.getElem?_cons_succ, List.getElem?_cons_zero] at x0 x1 x2 x3
        clear hx
        go_wp2_with fail
        refine (cliPending _ _ _ (r5'.keep k56)).mono ?_
        intro e w7 R
        obtain ⟨k7, rfl⟩ := R.off rfl
        replace x0 := Keep.cell k7 x0
        replace x1 := Keep.cell k7 x1
        replace x2 := Keep.cell k7 x2
        replace x3 := Keep.cell k7 x3
        have k78 := Keep.al k7 (.cells #[.int .i64 0, .int .i64 0] 54)
        have k08 := Keep.tr (Keep.tr k05 k56) k78
        have k7l := Keep.al (Keep.rf w7) (.cells #[.int .i64 0, .int .i64 0] 54)
        replace x0 := Keep.cell k7l x0
        replace x1 := Keep.cell k7l x1
        replace x2 := Keep.cell k7l x2
        replace x3 := Keep.cell k7l x3
        have hcA := run_conv_bs (P := Try.prog) (hb5.keep (Keep.tr k56 k78)) 29 5 9 Try.underlying29 Try.underlying5 Try.underlying9
        have hs9 : ((str [9]).toList == [9]) = true := by simp [str]
        clear hb5 k05 k56 R r5' k7
        go_wp2_with fail
        refine (law26Known _).mono ?_
        rintro e w10 ⟨rfl, k10⟩
        go_wp2_with fail
        go_ret
        exact ⟨rfl, Keep.tr k08 k10⟩
      · rw [if_neg fun h => hq (by have h2 := h.2.2; simpa using h2)] at hta
        have hq2 : (E : Int) = 0 → ¬ ((S : Int) = (C : Int)) := by omega
        go_wp2_with fail
        refine (cliTake w4 _ _ _ fr hb4 hfl r4).mono ?_
        intro e w5 R
        rw [takeC_none hta, hta] at R
        obtain ⟨F5, r5, rfl⟩ := R
        have k05 := k04.cl F5 (Nat.le_refl _)
        have k56 := Keep.al (Keep.rf w5) (.cells #[.int .i64 0, .int .i64 0, .int .i64 0, .slice none 0 0] 57)
        clear F5 k04 r4 hb4 hta hq
        by_cases hE0 : E = 0
        · have hE1 : ((E : Int) == 0) = true := by simp; omega
          have hS1 : ((S : Int) == (C : Int)) = false := by simp; omega
          go_wp2_with fail
          refine (cliPending _ _ _ (r5.keep k56)).mono ?_
          intro e w7 R
          obtain ⟨k7, rfl⟩ := R.on rfl
          have k78 := Keep.al k7 (.cells #[.int .i64 0, .int .i64 (C : Int)] 54)
          have k08 := Keep.tr (Keep.tr k05 k56) k78
          clear k05 k56 R r5 k7
          go_wp2_with fail
          refine (law26Known _).mono ?_
          rintro e w10 ⟨rfl, k10⟩
          go_wp2_with fail
          go_ret
          exact ⟨rfl, Keep.tr k08 k10⟩
        · have hE1 : ((E : Int) == 0) = false := by simp; omega
          go_wp2_with fail
          refine (cliPending _ _ _ (r5.keep k56)).mono ?_
          intro e w7 R
          obtain ⟨k7, rfl⟩ := R.on rfl
          have k78 := Keep.al k7 (.cells #[.int .i64 0, .int .i64 (C : Int)] 54)
          have k08 := Keep.tr (Keep.tr k05 k56) k78
          clear k05 k56 R r5 k7
          go_wp2_with fail
          refine (law26Known _).mono ?_
          rintro e w10 ⟨rfl, k10⟩
          go_wp2_with fail
          go_ret
          exact ⟨rfl, Keep.tr k08 k10⟩
theorem ClientLate_walk (w : World) (a : Int) (_ha : (Lit.int .i64 a).wf = true) (b : Int) (_hb : (Lit.int .i64 b).wf = true) (s : Int) (_hs : (Lit.int .i64 s).wf = true) : Calls Try.prog 9 #[.int .i64 a, .int .i64 b, .int .i64 s] w fun e w' => e = .returned (.bool true) ∧ Keep w w' := by
  by_cases g1 : a < 1
  · go_enter Try.func9, Try.ntmps9
    go_wp2_with fail
    go_ret
    exact ⟨rfl, (by repeat (first | exact Keep.rf _ | assumption | apply Keep.al | apply Keep.dr | apply Keep.dn))⟩
  · by_cases g2 : a > 20
    · go_enter Try.func9, Try.ntmps9
      go_wp2_with fail
      go_ret
      exact ⟨rfl, (by repeat (first | exact Keep.rf _ | assumption | apply Keep.al | apply Keep.dr | apply Keep.dn))⟩
    · by_cases g3 : b < 0
      · go_enter Try.func9, Try.ntmps9
        go_wp2_with fail
        go_ret
        exact ⟨rfl, (by repeat (first | exact Keep.rf _ | assumption | apply Keep.al | apply Keep.dr | apply Keep.dn))⟩
      · by_cases g4 : b > 5
        · go_enter Try.func9, Try.ntmps9
          go_wp2_with fail
          go_ret
          exact ⟨rfl, (by repeat (first | exact Keep.rf _ | assumption | apply Keep.al | apply Keep.dr | apply Keep.dn))⟩
        · by_cases g5 : s < 0
          · go_enter Try.func9, Try.ntmps9
            go_wp2_with fail
            go_ret
            exact ⟨rfl, (by repeat (first | exact Keep.rf _ | assumption | apply Keep.al | apply Keep.dr | apply Keep.dn))⟩
          · by_cases g6 : s > 25
            · go_enter Try.func9, Try.ntmps9
              go_wp2_with fail
              go_ret
              exact ⟨rfl, (by repeat (first | exact Keep.rf _ | assumption | apply Keep.al | apply Keep.dr | apply Keep.dn))⟩
            · obtain ⟨C, rfl⟩ := Int.eq_ofNat_of_zero_le (by omega : 0 ≤ a)
              obtain ⟨E, rfl⟩ := Int.eq_ofNat_of_zero_le (by omega : 0 ≤ b)
              obtain ⟨S, rfl⟩ := Int.eq_ofNat_of_zero_le (by omega : 0 ≤ s)
              exact ClientLate_loop w C E S (by omega) (by omega) (by omega) (by omega)
end Go.Proofs.Ytcbkklfdeloeeaa
