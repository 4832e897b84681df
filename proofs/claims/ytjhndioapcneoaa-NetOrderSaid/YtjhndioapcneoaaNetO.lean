/- The law NetOrder: walk. -/
import Derived.Test.YtjhndioapcneoaaNetL
namespace Go.Proofs.Ytjhndioapcneoaa
open Go.RowKit
set_option linter.unusedVariables false
set_option maxRecDepth 100000
set_option maxHeartbeats 4000000 in
theorem NetOrder_walk (w : World) (n : Int) (hn : (Lit.int .i64 n).wf = true) (i : Int) (hi : (Lit.int .i64 i).wf = true) : Calls Try.prog 3 #[.int .i64 n, .int .i64 i] w fun e w' => e = .returned (.bool true) ∧ Keep w w' := by
  clear hn hi
  by_cases h1 : n < 1
  · go_enter Try.func3, Try.ntmps3
    go_wp2
    go_ret
    exact ⟨rfl, (by repeat (first | exact Keep.rf _ | assumption | apply Keep.al | apply Keep.dr | apply Keep.dn))⟩
  by_cases h2 : 30 < n
  · go_enter Try.func3, Try.ntmps3
    go_wp2
    go_ret
    exact ⟨rfl, (by repeat (first | exact Keep.rf _ | assumption | apply Keep.al | apply Keep.dr | apply Keep.dn))⟩
  by_cases h3 : i < 0
  · go_enter Try.func3, Try.ntmps3
    go_wp2
    go_ret
    exact ⟨rfl, (by repeat (first | exact Keep.rf _ | assumption | apply Keep.al | apply Keep.dr | apply Keep.dn))⟩
  by_cases h4 : n ≤ i
  · go_enter Try.func3, Try.ntmps3
    go_wp2
    go_ret
    exact ⟨rfl, (by repeat (first | exact Keep.rf _ | assumption | apply Keep.al | apply Keep.dr | apply Keep.dn))⟩
  obtain ⟨N, rfl⟩ := Int.eq_ofNat_of_zero_le (show 0 ≤ n by omega)
  obtain ⟨I, rfl⟩ := Int.eq_ofNat_of_zero_le (show 0 ≤ i by omega)
  have g1 : 1 ≤ N := by omega
  have g2 : N ≤ 30 := by omega
  have g3 : I < N := by omega
  have h5 : ¬ ((N : Int) < 1) := h1
  go_enter Try.func3, Try.ntmps3
  go_wp2_with fail
  refine (spNew w _ (by repeat (first | exact Keep.rf _ | assumption | apply Keep.al | apply Keep.dr | apply Keep.dn))).mono ?_
  rintro e w1 ⟨p, rfl, s1⟩
  go_wp2_with fail
  go_loopw [6] (fun k W => ∃ q : Nat, q ≤ N ∧ k = .int .i64 q ∧ SP w W p (RO 1 (List.range q))) (fun k _ => N - (intOf k).toNat)
  case atStart => exact ⟨0, Nat.zero_le _, rfl, by rw [List.range_zero, RO_nil]; exact s1⟩
  case round =>
    obtain ⟨q, hq, rfl, sq⟩ := hrel
    by_cases hlt : q < N
    · have hlti : (decide ((q : Int) < (N : Int))) = true := by simp; omega
      have hq8 : (q : Int) < 256 := by omega
      have HS := hide (RO_send 1 (.inr rfl) (List.range q) q (by simp; omega))
      go_wp2_with fail
      refine (spSend (sq.keep (by repeat (first | exact Keep.rf _ | assumption | apply Keep.al | apply Keep.dr | apply Keep.dn))) 1 _ [UInt8.ofNat q] (Bs.box (by rw [← u8k q (by omega)]) rfl) (by simp)).mono ?_
      rintro e w2 ⟨rfl, s2⟩
      rw [HS.out, ← List.range_succ] at s2
      go_wp2_with fail
      go_roundw
      case rel => exact ⟨q + 1, by omega, by go_num, s2⟩
      case measure => simp [intOf]; omega
    · have hqN : q = N := by omega
      subst hqN
      clear hlt hq
      have hII : ((I : Nat) : Int) = (I : Int) := rfl
      have HH := hide (RO_has 1 (.inr rfl) (List.range q) I)
      have HG := hide (RO_got 1 (.inr rfl) (List.range q) I (by simpa using g3))
      have HT := hide (RO_take 1 (.inr rfl) (List.range q) I (by simpa using g3))
      have HE := hide (show (List.range q).eraseIdx I = (List.range' 0 q).filter (· != I) from by
        rw [List.range_eq_range', erase_range 0 q I g3, Nat.zero_add])
      have hqi : (decide ((q : Int) < (q : Int))) = false := by simp
      go_wp2_with fail
      refine (spTake sq 1 (I : Int)).mono ?_
      rintro e w2 ⟨A, m, c, rfl, hb, s2⟩
      rw [HG.out, List.getElem_range] at hb
      rw [HT.out, HE.out] at s2
      rw [HH.out, decide_eq_true (by simpa using g3)]
      obtain ⟨ad, rfl, rfl, b0, b1⟩ := hb.one
      rw [← u8k I (by omega)] at b0 b1
      clear hb
      go_wp2_with fail
      go_loopw [9, 10, 11] (fun k _ _ W => ∃ t : Nat, t ≤ q ∧ k = .int .i64 t ∧ SP w W p (RO 1 ((List.range' t (q - t)).filter (· != I)))) (fun k _ _ _ => q - (intOf k).toNat)
      case atStart => exact ⟨0, Nat.zero_le _, rfl, s2⟩
      case round =>
        obtain ⟨t, ht, rfl, st⟩ := hrel
        by_cases htq : t < q
        · have htqi : (decide ((t : Int) < (q : Int))) = true := by simp; omega
          have HR := hide (show List.range' t (q - t) = t :: List.range' (t + 1) (q - (t + 1)) from by
            rw [show q - t = (q - (t + 1)) + 1 by omega, List.range'_succ])
          by_cases hti : t = I
          · subst hti
            have s3 : SP w wr p (RO 1 ((List.range' (t + 1) (q - (t + 1))).filter (· != t))) := by
              rw [HR.out, List.filter_cons_of_neg (by simp)] at st
              exact st
            clear st
            go_wp2_with fail
            go_roundw
            case rel => exact ⟨t + 1, by omega, by go_num, s3⟩
            case measure => simp [intOf]; omega
          · have htib : ((t : Int) == (I : Int)) = false := by rw [beq_eq_false_iff_ne]; omega
            rw [HR.out, List.filter_cons_of_pos (by simp [hti])] at st
            have HH2 := hide (RO_has 1 (.inr rfl) (t :: (List.range' (t + 1) (q - (t + 1))).filter (· != I)) 0)
            have HG2 := hide (RO_got 1 (.inr rfl) (t :: (List.range' (t + 1) (q - (t + 1))).filter (· != I)) 0 (by simp))
            have HT2 := hide (RO_take 1 (.inr rfl) (t :: (List.range' (t + 1) (q - (t + 1))).filter (· != I)) 0 (by simp))
            go_wp2_with fail
            refine (spTake st 1 0).mono ?_
            rintro e w3 ⟨A, m, c, rfl, hb, s3⟩
            rw [show Em.Nt.got (RO 1 (t :: (List.range' (t + 1) (q - (t + 1))).filter (· != I))) 1 0 = [UInt8.ofNat t] from HG2.out] at hb
            rw [show Em.Nt.take (RO 1 (t :: (List.range' (t + 1) (q - (t + 1))).filter (· != I))) 1 0 = RO 1 ((List.range' (t + 1) (q - (t + 1))).filter (· != I)) from HT2.out] at s3
            rw [show Em.Nt.has (RO 1 (t :: (List.range' (t + 1) (q - (t + 1))).filter (· != I))) 1 0 = true from HH2.out.trans (decide_eq_true (by simp))]
            obtain ⟨ad2, rfl, rfl, d0, d1⟩ := hb.one
            rw [← u8k t (by omega)] at d0 d1
            clear hb
            go_wp2_with fail
            go_roundw
            case rel => exact ⟨t + 1, by omega, by go_num, s3⟩
            case measure => simp [intOf]; omega
        · have htq2 : t = q := by omega
          subst htq2
          have htqi : (decide ((t : Int) < (t : Int))) = false := by simp
          rw [Nat.sub_self, show (List.range' t 0).filter (· != I) = [] from rfl] at st
          have HH2 := hide (RO_has 1 (.inr rfl) [] 0)
          clear htq ht
          go_wp2_with fail
          refine (spTake st 1 0).mono ?_
          rintro e w3 ⟨A, m, c, rfl, hb, s3⟩
          rw [show Em.Nt.has (RO 1 []) 1 0 = false from HH2.out]
          go_wp2_with fail
          refine (netKnown _).mono ?_
          rintro e w4 ⟨rfl, k4⟩
          go_wp2_with fail
          go_ret
          exact ⟨rfl, Keep.tr s3.k k4⟩
end Go.Proofs.Ytjhndioapcneoaa
