/- The law NetFull: walk. -/
import Derived.Test.YtjhndioapcneoaaNetL
namespace Go.Proofs.Ytjhndioapcneoaa
open Go.RowKit
set_option linter.unusedVariables false
set_option maxRecDepth 100000
theorem RO_small (w : Int) (l : List Nat) : Small (RO w l) := small_nil.put w fun m hm => by
  obtain ⟨k, _, rfl⟩ := List.mem_map.1 hm
  simp [msgK]
set_option maxHeartbeats 4000000 in
theorem NetFull_way0 (w : World) (M : Nat) (hM : M ≤ 5) : Calls Try.prog 4 #[.int .i64 (M : Int), .int .i64 0] w fun e w' => e = .returned (.bool true) ∧ Keep w w' := by
  have h5 : ¬ ((M : Int) < 0) := by omega
  go_enter Try.func4, Try.ntmps4
  go_wp2_with fail
  refine (spNew w _ (by repeat (first | exact Keep.rf _ | assumption | apply Keep.al | apply Keep.dr | apply Keep.dn))).mono ?_
  rintro e w1 ⟨p, rfl, s1⟩
  go_wp2_with fail
  go_loopw [6] (fun k W => ∃ q : Nat, q ≤ 64 ∧ k = .int .i64 q ∧ SP w W p (RO 0 (List.range q))) (fun k _ => 64 - (intOf k).toNat)
  case atStart => exact ⟨0, Nat.zero_le _, rfl, by rw [List.range_zero, RO_nil]; exact s1⟩
  case round =>
    obtain ⟨q, hq, rfl, sq⟩ := hrel
    by_cases hlt : q < 64
    · have hlti : (decide ((q : Int) < 64)) = true := by simp; omega
      have hq8 : (q : Int) < 256 := by omega
      have HS := hide (RO_send 0 (by omega) (List.range q) q (by simp; omega))
      have HR := hide (RO_room 0 (by omega) (List.range q))
      go_wp2_with fail
      refine (spSend (sq.keep (by repeat (first | exact Keep.rf _ | assumption | apply Keep.al | apply Keep.dr | apply Keep.dn))) 0 _ [UInt8.ofNat q] (Bs.box (by rw [← u8k q (by omega)]) rfl) (by simp)).mono ?_
      rintro e w2 ⟨rfl, s2⟩
      rw [HS.out, ← List.range_succ] at s2
      rw [HR.out, decide_eq_true (by simp; omega)]
      go_wp2_with fail
      go_roundw
      case rel => exact ⟨q + 1, by omega, by go_num, s2⟩
      case measure => simp [intOf]; omega
    · have hqN : q = 64 := by omega
      have hlti : (decide ((q : Int) < 64)) = false := by simp; omega
      rw [hqN] at sq
      have HQN := hide hqN
      clear hlt hq hqN
      have HR := hide (show (RO 0 (List.range 64)).room 0 = false from (RO_room 0 (by omega) (List.range 64)).trans (by decide))
      have HSS := hide (show ∀ m, (RO 0 (List.range 64)).send 0 m = RO 0 (List.range 64) from fun m => by unfold Em.Nt.send; rw [HR.out]; rfl)
      have HTT := hide (show ∀ i, (RO 0 (List.range 64)).twice 0 i = RO 0 (List.range 64) from fun i => by unfold Em.Nt.twice; rw [HR.out, Bool.and_false]; rfl)
      go_wp2_with fail
      go_loopw [7] (fun k W => ∃ q : Nat, q ≤ M ∧ k = .int .i64 q ∧ SP w W p (RO 0 (List.range 64))) (fun k _ => M - (intOf k).toNat)
      case atStart => exact ⟨0, Nat.zero_le _, rfl, sq⟩
      case round =>
        obtain ⟨t, ht, rfl, st⟩ := hrel
        by_cases htM : t < M
        · have htmi : (decide ((t : Int) < (M : Int))) = true := by simp; omega
          go_wp2_with fail
          refine (spSend st 0 _ [] (Bs.nil _) (by simp)).mono ?_
          rintro e w2 ⟨rfl, s2⟩
          rw [HSS.out] at s2
          rw [HR.out]
          go_wp2_with fail
          refine (spTwice s2 0 (t : Int) (RO_small _ _)).mono ?_
          rintro e w3 ⟨rfl, s3⟩
          rw [HTT.out] at s3
          rw [HR.out, Bool.and_false]
          go_wp2_with fail
          go_roundw
          case rel => exact ⟨t + 1, by omega, by go_num, s3⟩
          case measure => simp [intOf]; omega
        · have htmi : (decide ((t : Int) < (M : Int))) = false := by simp; omega
          have hsm := RO_small 0 (List.range 64)
          go_wp2_with fail
          refine (spLen st 0).mono ?_
          rintro e w' ⟨rfl, rfl⟩
          rw [show ((RO 0 (List.range 64)).len 0 : Nat) = 64 from by decide +kernel]
          go_wp2_with fail
          refine (spSend st 1 _ [] (Bs.nil _) (by simp)).mono ?_
          rintro e w2 ⟨rfl, s2⟩
          rw [show (RO 0 (List.range 64)).room 1 = true from by decide +kernel]
          go_wp2_with fail
          refine (spDrop s2 0 3).mono ?_
          rintro e w3 ⟨rfl, s3⟩
          rw [show ((RO 0 (List.range 64)).send 1 []).has 0 3 = true from by decide +kernel]
          go_wp2_with fail
          refine (spTwice s3 0 0 ((hsm.send 1 [] (by simp)).take 0 3)).mono ?_
          rintro e w4 ⟨rfl, s4⟩
          rw [show ((((RO 0 (List.range 64)).send 1 []).take 0 3).has 0 0 && (((RO 0 (List.range 64)).send 1 []).take 0 3).room 0) = true from by decide +kernel]
          go_wp2_with fail
          refine (spLen s4 0).mono ?_
          rintro e w' ⟨rfl, rfl⟩
          rw [show (((((RO 0 (List.range 64)).send 1 []).take 0 3).twice 0 0).len 0 : Nat) = 64 from by decide +kernel]
          go_wp2_with fail
          refine (netKnown _).mono ?_
          rintro e w5 ⟨rfl, k5⟩
          go_wp2_with fail
          go_ret
          exact ⟨rfl, Keep.tr s4.k k5⟩
set_option maxHeartbeats 4000000 in
theorem NetFull_way1 (w : World) (M : Nat) (hM : M ≤ 5) : Calls Try.prog 4 #[.int .i64 (M : Int), .int .i64 1] w fun e w' => e = .returned (.bool true) ∧ Keep w w' := by
  have h5 : ¬ ((M : Int) < 0) := by omega
  go_enter Try.func4, Try.ntmps4
  go_wp2_with fail
  refine (spNew w _ (by repeat (first | exact Keep.rf _ | assumption | apply Keep.al | apply Keep.dr | apply Keep.dn))).mono ?_
  rintro e w1 ⟨p, rfl, s1⟩
  go_wp2_with fail
  go_loopw [6] (fun k W => ∃ q : Nat, q ≤ 64 ∧ k = .int .i64 q ∧ SP w W p (RO 1 (List.range q))) (fun k _ => 64 - (intOf k).toNat)
  case atStart => exact ⟨0, Nat.zero_le _, rfl, by rw [List.range_zero, RO_nil]; exact s1⟩
  case round =>
    obtain ⟨q, hq, rfl, sq⟩ := hrel
    by_cases hlt : q < 64
    · have hlti : (decide ((q : Int) < 64)) = true := by simp; omega
      have hq8 : (q : Int) < 256 := by omega
      have HS := hide (RO_send 1 (by omega) (List.range q) q (by simp; omega))
      have HR := hide (RO_room 1 (by omega) (List.range q))
      go_wp2_with fail
      refine (spSend (sq.keep (by repeat (first | exact Keep.rf _ | assumption | apply Keep.al | apply Keep.dr | apply Keep.dn))) 1 _ [UInt8.ofNat q] (Bs.box (by rw [← u8k q (by omega)]) rfl) (by simp)).mono ?_
      rintro e w2 ⟨rfl, s2⟩
      rw [HS.out, ← List.range_succ] at s2
      rw [HR.out, decide_eq_true (by simp; omega)]
      go_wp2_with fail
      go_roundw
      case rel => exact ⟨q + 1, by omega, by go_num, s2⟩
      case measure => simp [intOf]; omega
    · have hqN : q = 64 := by omega
      have hlti : (decide ((q : Int) < 64)) = false := by simp; omega
      rw [hqN] at sq
      have HQN := hide hqN
      clear hlt hq hqN
      have HR := hide (show (RO 1 (List.range 64)).room 1 = false from (RO_room 1 (by omega) (List.range 64)).trans (by decide))
      have HSS := hide (show ∀ m, (RO 1 (List.range 64)).send 1 m = RO 1 (List.range 64) from fun m => by unfold Em.Nt.send; rw [HR.out]; rfl)
      have HTT := hide (show ∀ i, (RO 1 (List.range 64)).twice 1 i = RO 1 (List.range 64) from fun i => by unfold Em.Nt.twice; rw [HR.out, Bool.and_false]; rfl)
      go_wp2_with fail
      go_loopw [7] (fun k W => ∃ q : Nat, q ≤ M ∧ k = .int .i64 q ∧ SP w W p (RO 1 (List.range 64))) (fun k _ => M - (intOf k).toNat)
      case atStart => exact ⟨0, Nat.zero_le _, rfl, sq⟩
      case round =>
        obtain ⟨t, ht, rfl, st⟩ := hrel
        by_cases htM : t < M
        · have htmi : (decide ((t : Int) < (M : Int))) = true := by simp; omega
          go_wp2_with fail
          refine (spSend st 1 _ [] (Bs.nil _) (by simp)).mono ?_
          rintro e w2 ⟨rfl, s2⟩
          rw [HSS.out] at s2
          rw [HR.out]
          go_wp2_with fail
          refine (spTwice s2 1 (t : Int) (RO_small _ _)).mono ?_
          rintro e w3 ⟨rfl, s3⟩
          rw [HTT.out] at s3
          rw [HR.out, Bool.and_false]
          go_wp2_with fail
          go_roundw
          case rel => exact ⟨t + 1, by omega, by go_num, s3⟩
          case measure => simp [intOf]; omega
        · have htmi : (decide ((t : Int) < (M : Int))) = false := by simp; omega
          have hsm := RO_small 1 (List.range 64)
          go_wp2_with fail
          refine (spLen st 1).mono ?_
          rintro e w' ⟨rfl, rfl⟩
          rw [show ((RO 1 (List.range 64)).len 1 : Nat) = 64 from by decide +kernel]
          go_wp2_with fail
          refine (spSend st 0 _ [] (Bs.nil _) (by simp)).mono ?_
          rintro e w2 ⟨rfl, s2⟩
          rw [show (RO 1 (List.range 64)).room 0 = true from by decide +kernel]
          go_wp2_with fail
          refine (spDrop s2 1 3).mono ?_
          rintro e w3 ⟨rfl, s3⟩
          rw [show ((RO 1 (List.range 64)).send 0 []).has 1 3 = true from by decide +kernel]
          go_wp2_with fail
          refine (spTwice s3 1 0 ((hsm.send 0 [] (by simp)).take 1 3)).mono ?_
          rintro e w4 ⟨rfl, s4⟩
          rw [show ((((RO 1 (List.range 64)).send 0 []).take 1 3).has 1 0 && (((RO 1 (List.range 64)).send 0 []).take 1 3).room 1) = true from by decide +kernel]
          go_wp2_with fail
          refine (spLen s4 1).mono ?_
          rintro e w' ⟨rfl, rfl⟩
          rw [show (((((RO 1 (List.range 64)).send 0 []).take 1 3).twice 1 0).len 1 : Nat) = 64 from by decide +kernel]
          go_wp2_with fail
          refine (netKnown _).mono ?_
          rintro e w5 ⟨rfl, k5⟩
          go_wp2_with fail
          go_ret
          exact ⟨rfl, Keep.tr s4.k k5⟩
theorem NetFull_walk (w : World) (n : Int) (hn : (Lit.int .i64 n).wf = true) (i : Int) (hi : (Lit.int .i64 i).wf = true) : Calls Try.prog 4 #[.int .i64 n, .int .i64 i] w fun e w' => e = .returned (.bool true) ∧ Keep w w' := by
  clear hn hi
  by_cases h1 : n < 0
  · go_enter Try.func4, Try.ntmps4
    go_wp2
    go_ret
    exact ⟨rfl, (by repeat (first | exact Keep.rf _ | assumption | apply Keep.al | apply Keep.dr | apply Keep.dn))⟩
  by_cases h2 : 5 < n
  · go_enter Try.func4, Try.ntmps4
    go_wp2
    go_ret
    exact ⟨rfl, (by repeat (first | exact Keep.rf _ | assumption | apply Keep.al | apply Keep.dr | apply Keep.dn))⟩
  by_cases h3 : i < 0
  · go_enter Try.func4, Try.ntmps4
    go_wp2
    go_ret
    exact ⟨rfl, (by repeat (first | exact Keep.rf _ | assumption | apply Keep.al | apply Keep.dr | apply Keep.dn))⟩
  by_cases h4 : 1 < i
  · go_enter Try.func4, Try.ntmps4
    go_wp2
    go_ret
    exact ⟨rfl, (by repeat (first | exact Keep.rf _ | assumption | apply Keep.al | apply Keep.dr | apply Keep.dn))⟩
  obtain ⟨N, rfl⟩ := Int.eq_ofNat_of_zero_le (show 0 ≤ n by omega)
  have hi : i = 0 ∨ i = 1 := by omega
  rcases hi with rfl | rfl
  · exact NetFull_way0 w N (by omega)
  · exact NetFull_way1 w N (by omega)
end Go.Proofs.Ytjhndioapcneoaa
