/- The law ClientAgain: walk. -/
import Derived.Test.YtcbkklfdeloeeaaCliS
namespace Go.Proofs.Ytcbkklfdeloeeaa
open Go.RowKit
set_option linter.unusedVariables false
set_option maxRecDepth 100000
theorem takeO_small (c : Cl) (e s x : Nat) (l : List UInt8) (he : e < 128) (hs : s < 128) (hx : x < 128) (hl : l.length ≤ 1000) : takeO c (Em.frame 2 (UInt8.ofNat e :: UInt8.ofNat s :: UInt8.ofNat x :: l)) = if (x ≤ 12 ∧ (x = 0 ∨ l = [])) ∧ c.p = true ∧ (e, s) = (c.e, c.s) then some ((e, s), x, l) else none := by
  unfold takeO
  rw [Em.ans_frame _ (by simp; omega), Em.ansB_small e s x l he hs hx]
  by_cases h : x ≤ 12 ∧ (x = 0 ∨ l = [])
  · rw [if_pos h, Option.bind_some]
    by_cases g : c.p = true ∧ (e, s) = (c.e, c.s)
    · rw [if_pos g, if_pos ⟨h, g⟩]
    · rw [if_neg g, if_neg fun x => g x.2]
  · rw [if_neg h, if_neg fun x => h x.1, Option.bind_none]
theorem frame2_len (l : List UInt8) (h : l.length ≤ 1000) : (Em.frame 2 l).length ≤ 1000000 := by
  have h1 := Em.putN_len10 (v := l.length) (by omega)
  rw [Em.frame_len]
  omega
theorem takeC_some {c : Cl} {l : List UInt8} {r} (h : takeO c l = some r) : takeC c l = { c with p := false } := by
  unfold takeC
  rw [h]
  exact if_pos rfl
theorem tickC_no (c : Cl) (h : c.p = false) : tickC c = c := if_neg (by rw [h]; simp)
theorem tickO_off (c : Cl) (h : c.p = false) : tickO c = none := if_neg (by rw [h]; simp)
set_option maxHeartbeats 8000000 in
theorem ClientAgain_walk (w : World) (v0 : Value) (l : List UInt8) (h0 : Bs w v0 l) (_hz : l.length ≤ 140737488351232) (t : Int) (_ht : (Lit.int .i64 t).wf = true) : Calls Try.prog 8 #[v0, .int .i64 t] w fun e w' => e = .returned (.bool true) ∧ Keep w w' := by
  have HV := hide h0
  obtain ⟨A0, c0, rfl, -, hc0, -⟩ := h0
  by_cases hl : 100 < l.length
  · have hg : ((l.length : Int) > 100) = True := by simp; omega
    go_enter Try.func8, Try.ntmps8
    go_wp2_with fail
    go_ret
    exact ⟨rfl, (by repeat (first | exact Keep.rf _ | assumption | apply Keep.al | apply Keep.dr | apply Keep.dn))⟩
  · by_cases ht0 : t < 0
    · go_enter Try.func8, Try.ntmps8
      go_wp2_with fail
      go_ret
      exact ⟨rfl, (by repeat (first | exact Keep.rf _ | assumption | apply Keep.al | apply Keep.dr | apply Keep.dn))⟩
    · by_cases ht1 : t > 40
      · go_enter Try.func8, Try.ntmps8
        go_wp2_with fail
        go_ret
        exact ⟨rfl, (by repeat (first | exact Keep.rf _ | assumption | apply Keep.al | apply Keep.dr | apply Keep.dn))⟩
      · have hlI : ¬ ((l.length : Int) > 100) := by omega
        go_enter Try.func8, Try.ntmps8
        go_wp2_with fail
        refine (cliNew 3 w).mono ?_
        rintro e w1 ⟨rfl, k1, r1⟩
        go_wp2_with fail
        obtain ⟨q, hq⟩ : ∃ q, callO ⟨3, 0, 0, false, [], 0⟩ l = some q := ⟨_, callO_small _ _ rfl (by simp) (by simp) (by omega)⟩
        have hql := req_len (show Em.req _ _ _ _ = some q from by unfold callO at hq; rw [if_neg (by simp)] at hq; exact hq)
        refine (cliCall_free w1 _ _ rfl (by simp) (by simp) _ l (HV.out.keep k1) (by omega) r1).mono ?_
        intro e w2 R
        rw [callC_some hq, hq] at R
        obtain ⟨F2, r2, A2, n2, c2, rfl, hb2⟩ := R
        have k02 := k1.cl F2 (Nat.le_refl _)
        obtain rfl : n2 = q.length := by obtain ⟨_, _, e, _⟩ := hb2; cases e; rfl
        have r2' : CRep 103 w2 w.heap.size ⟨3, 0, 1, true, q, 0⟩ := r2
        clear F2 r1 k1 hq r2
        go_wp2_with fail
        go_loopw [8] (fun k W => ∃ n : Nat, (n : Int) ≤ t ∧ k = .int .i64 ((n : Int) + 1) ∧ CRep 103 W w.heap.size ⟨3, 0, 1, true, q, n⟩ ∧ Bs W (.slice A2 q.length c2) q ∧ Keep w W) (fun k _ => (41 - intOf k).toNat)
        case atStart => exact ⟨0, by omega, rfl, r2', hb2, k02⟩
        case round =>
          clear r2' hb2 k02
          obtain ⟨n, hn, rfl, rn, hbn, kn⟩ := hrel
          by_cases hlt : (n : Int) + 1 ≤ t
          · have hi1 : (n : Int) + 1 ≤ 40 := by omega
            go_wp2_with fail
            refine (cliTick _ _ _ (by simp; omega) (by simpa using hql) rn).mono ?_
            intro e w3 R
            by_cases hm : (n + 1) % 3 = 0
            · rw [tickC_of _ rfl, tickO_yes _ rfl hm] at R
              obtain ⟨F3, r3, A3, n3, c3, rfl, hb3⟩ := R
              have hbn3 := hbn.cl F3 rn
              have k3 := kn.cl F3 (Nat.le_refl _)
              obtain rfl : n3 = q.length := by obtain ⟨_, _, e, _⟩ := hb3; cases e; rfl
              have hmI : (((n : Int) + 1) % 3 == 0) = true := by simp; omega
              have hcA := run_conv_bs (P := Try.prog) hbn3 29 5 9 Try.underlying29 Try.underlying5 Try.underlying9
              have hcB := run_conv_bs (P := Try.prog) hb3 29 5 9 Try.underlying29 Try.underlying5 Try.underlying9
              have hss : ((str q).toList == (str q).toList) = true := by simp
              have R3 := hide r3
              have B3 := hide hbn3
              clear r3 hbn3 hb3 F3 hbn rn hm
              go_wp2_with fail
              go_roundw
              case rel => exact ⟨n + 1, by omega, by go_num, R3.out, B3.out, k3⟩
              case measure => simp [intOf]; omega
            · rw [tickC_of _ rfl, tickO_no _ hm] at R
              obtain ⟨F3, r3, rfl⟩ := R
              have hbn3 := hbn.cl F3 rn
              have k3 := kn.cl F3 (Nat.le_refl _)
              have hmI : (((n : Int) + 1) % 3 == 0) = false := by simp; omega
              have R3 := hide r3
              have B3 := hide hbn3
              clear r3 hbn3 F3 hbn rn hm
              go_wp2_with fail
              go_roundw
              case rel => exact ⟨n + 1, by omega, by go_num, R3.out, B3.out, k3⟩
              case measure => simp [intOf]; omega
          · have HN := hide hn
            clear hn
            go_wp2_with fail
            have k3 := Keep.tr kn ((by repeat (first | exact Keep.rf _ | assumption | apply Keep.al | apply Keep.dr | apply Keep.dn)) : Keep _ (World.alloc _ (.cells #[.int .u8 0, .int .u8 1, .int .u8 0] 5)))
            refine (refFPut 2 _ [0, 1, 0] _ (Bs.lit [0, 1, 0] rfl rfl rfl (by simp) (by omega)) (by simp)).mono ?_
            rintro e w4 ⟨v4, rfl, o4, k4⟩
            have hfl := frame2_len [0, 1, 0] (by simp)
            have hta : ∀ n, takeO ⟨3, 0, 1, true, q, n⟩ (Em.frame 2 [0, 1, 0]) = some ((0, 1), 0, []) := fun n => (takeO_small ⟨3, 0, 1, true, q, n⟩ 0 1 0 [] (by omega) (by omega) (by omega) (by simp)).trans (if_pos ⟨⟨by omega, .inl rfl⟩, rfl, rfl⟩)
            have htb : ∀ n, takeO ⟨3, 0, 1, false, q, n⟩ (Em.frame 2 [0, 1, 0]) = none := fun n => (takeO_small ⟨3, 0, 1, false, q, n⟩ 0 1 0 [] (by omega) (by omega) (by omega) (by simp)).trans (if_neg fun h => by cases h.2.1)
            generalize Em.frame 2 [0, 1, 0] = fr at *
            have r4 := rn.keep (Keep.tr ((by repeat (first | exact Keep.rf _ | assumption | apply Keep.al | apply Keep.dr | apply Keep.dn)) : Keep _ (World.alloc _ (.cells #[.int .u8 0, .int .u8 1, .int .u8 0] 5))) k4)
            have hb4 := o4.bs
            obtain ⟨A4, c4, rfl⟩ := own_slice (show w4.ownsRow _ _ _ _ _ _ from o4)
            have k04 := Keep.tr k3 k4
            have HTB := hide htb
            have HTA := hide hta
            clear rn hbn kn k3 k4 o4 hta htb
            go_wp2_with fail
            refine (cliTake w4 _ _ _ fr hb4 hfl r4).mono ?_
            intro e w5 R
            rw [takeC_some (HTA.out n), HTA.out] at R
            obtain ⟨F5, r5, A5, n5, c5, rfl, hb5⟩ := R
            have k05 := k04.cl F5 (Nat.le_refl _)
            have hb45 := hb4.cl F5 r4
            clear F5 k04 r4 hb4 hb5
            go_wp2_with fail
            have k06 := Keep.al k05 (.cells #[.int .i64 0, .int .i64 1, .int .i64 0, .slice A5 n5 c5] 57)
            have k56 := Keep.al (Keep.rf w5) (.cells #[.int .i64 0, .int .i64 1, .int .i64 0, .slice A5 n5 c5] 57)
            refine (cliTake _ _ _ _ fr (hb45.keep k56) hfl (r5.keep k56)).mono ?_
            intro e w7 R
            rw [takeC_none (HTB.out n), HTB.out] at R
            obtain ⟨F7, r7, rfl⟩ := R
            have k07 := k06.cl F7 (Nat.le_refl _)
            have r7' : CRep 103 w7 w.heap.size ⟨3, 0, 1, false, q, n⟩ := r7
            clear F7 k06 k56 r5 k05 hb45 r7
            go_wp2_with fail
            have k08 := Keep.al k07 (.cells #[.int .i64 0, .int .i64 0, .int .i64 0, .slice none 0 0] 57)
            have r8 := r7'.keep (Keep.al (Keep.rf w7) (.cells #[.int .i64 0, .int .i64 0, .int .i64 0, .slice none 0 0] 57))
            go_loopw [17] (fun k W => ∃ m : Nat, m ≤ 4 ∧ k = .int .i64 (m : Int) ∧ CRep 103 W w.heap.size ⟨3, 0, 1, false, q, n⟩ ∧ Keep w W) (fun k _ => (5 - intOf k).toNat)
            case atStart => exact ⟨0, by omega, rfl, r8, k08⟩
            case round =>
              clear r7' r8 k07 k08
              obtain ⟨m, hm, rfl, rm, km⟩ := hrel
              by_cases hlt4 : m < 4
              · have hltI : (m : Int) < 4 := by omega
                go_wp2_with fail
                refine (cliTick _ _ _ (by have := HN.out; simp; omega) (by simpa using hql) rm).mono ?_
                intro e w9 R
                rw [tickC_no _ rfl, tickO_off _ rfl] at R
                obtain ⟨F9, r9, rfl⟩ := R
                have k9 := km.cl F9 (Nat.le_refl _)
                clear F9 rm km
                go_wp2_with fail
                go_roundw
                case rel => exact ⟨m + 1, by omega, by go_num, r9, k9⟩
                case measure => simp [intOf]; omega
              · have hltI : ¬ (m : Int) < 4 := by omega
                go_wp2_with fail
                refine (law26Known _).mono ?_
                rintro e w10 ⟨rfl, k10⟩
                go_wp2_with fail
                go_ret
                exact ⟨rfl, Keep.tr km k10⟩
end Go.Proofs.Ytcbkklfdeloeeaa
