/- Walks: the functions of package sum come to the folds of SumPure. -/
import Derived.Test.YtcbkklfdeloeeaaProg
import Derived.Test.YtcbkklfdeloeeaaLib
import Derived.Test.YtcbkklfdeloeeaaSumPure
namespace Go.Proofs.Ytcbkklfdeloeeaa
open Go.RowKit
set_option linter.unusedVariables false

theorem ad_take (l : List UInt8) (k : Nat) (h : k < l.length) : Em.ad (l.take (k + 1)) = Em.adStep (Em.ad (l.take k)) l[k] := by
  rw [take_snoc l k h, Em.ad_snoc]

theorem mk_go (a : Nat) (c : UInt8) (ha : a < 18446744073709551616) : IntKind.u64.wrap (bits .xor .u64 (a : Int) (c.toNat : Int) * 1099511628211) = (Em.mkStep a c : Int) := by
  have h1 := c.toNat_lt
  rw [u64_xor_nat a _ ha (by omega), IntKind.wrap_u64]
  unfold Em.mkStep
  omega
theorem mk_take (l : List UInt8) (k : Nat) (h : k < l.length) : Em.mark (l.take (k + 1)) = Em.mkStep (Em.mark (l.take k)) l[k] := by
  rw [take_snoc l k h, Em.mark_snoc]
theorem take_all {α : Type} (l : List α) (k : Nat) (h1 : k ≤ l.length) (h2 : ¬ k < l.length) : l.take k = l := by
  rw [List.take_of_length_le (by omega)]

set_option maxHeartbeats 1000000 in
theorem refAdler (v : Value) (l : List UInt8) (w : World) (h : Bs w v l) :
    Calls Try.prog 80 #[v] w fun e w' => e = .returned (.int .u32 (Em.adler l : Int)) ∧ w = w' := by
  obtain ⟨A, c, rfl, hlc, hcm, hr⟩ := h
  go_enter Try.func80, Try.ntmps80
  go_wp2
  go_loop [3, 4, 5] (fun a b i => ∃ k : Nat, k ≤ l.length ∧ i = .int .i64 k ∧ a = .int .i64 ((Em.ad (l.take k)).1 : Int) ∧ b = .int .i64 ((Em.ad (l.take k)).2 : Int)) (fun _ _ i => l.length - (intOf i).toNat)
  case atStart => exact ⟨0, Nat.zero_le _, rfl, rfl, rfl⟩
  case round =>
    obtain ⟨k, hk, rfl, rfl, rfl⟩ := hrel
    have hb := Em.ad_lt (l.take k)
    by_cases hlt : k < l.length
    · obtain ⟨ad, rfl, hcell⟩ := hr (by omega)
      have hc := hcell k hlt
      have h1 := l[k].toNat_lt
      unfold bv at hc
      clear hcell
      go_wp2
      go_round
      case rel => exact ⟨k + 1, by omega, by go_num, by rw [ad_take l k hlt]; simp [Em.adStep], by rw [ad_take l k hlt]; simp [Em.adStep]⟩
      case measure => simp [intOf]; omega
    · have hall := hide (take_all l k hk hlt)
      go_wp2
      go_ret
      exact ⟨ret_int (by rw [hall.out] at hb ⊢; unfold Em.adler; omega), rfl⟩

set_option maxHeartbeats 1000000 in
theorem refMark (v : Value) (l : List UInt8) (w : World) (h : Bs w v l) :
    Calls Try.prog 32 #[v] w fun e w' => e = .returned (.int .u64 (Em.mark l : Int)) ∧ w = w' := by
  obtain ⟨A, c, rfl, hlc, hcm, hr⟩ := h
  go_enter Try.func32, Try.ntmps32
  go_wp2
  go_loop [3, 4] (fun a i => ∃ k : Nat, k ≤ l.length ∧ i = .int .i64 k ∧ a = .int .u64 (Em.mark (l.take k) : Int)) (fun _ i => l.length - (intOf i).toNat)
  case atStart => exact ⟨0, Nat.zero_le _, rfl, rfl⟩
  case round =>
    obtain ⟨k, hk, rfl, rfl⟩ := hrel
    have hb := Em.mark_lt (l.take k)
    by_cases hlt : k < l.length
    · obtain ⟨ad, rfl, hcell⟩ := hr (by omega)
      have hc := hcell k hlt
      have h1 := l[k].toNat_lt
      unfold bv at hc
      have hs := hide (mk_take l k hlt)
      clear hcell
      go_wp2
      go_round
      case rel => exact ⟨k + 1, by omega, by go_num, by rw [hs.out, ← mk_go _ _ hb]⟩
      case measure => simp [intOf]; omega
    · have hall := hide (take_all l k hk hlt)
      go_wp2
      go_ret
      exact ⟨ret_int (by rw [hall.out]), rfl⟩

theorem flat_step (ls : List (List UInt8)) (j : Nat) (h : j < ls.length) : (ls.take (j + 1)).flatten = (ls.take j).flatten ++ ls[j] := by
  rw [take_snoc ls j h, List.flatten_append]; congr 1; simp
theorem flat_take (p l : List UInt8) (k : Nat) (h : k < l.length) : p ++ l.take (k + 1) = (p ++ l.take k) ++ [l[k]] := by
  rw [take_snoc l k h, List.append_assoc]

set_option maxHeartbeats 1000000 in
theorem sumAdler (v : Value) (ls : List (List UInt8)) (w : World) (h : Rws w v ls) :
    Calls Try.prog 130 #[v] w fun e w' => e = .returned (.int .u32 (Em.adler ls.flatten : Int)) ∧ w = w' := by
  obtain ⟨A, c, rfl, hlc, hcm, hr⟩ := h
  go_enter Try.func130, Try.ntmps130
  go_wp2
  go_loop [3, 4, 11] (fun a b i => ∃ j : Nat, j ≤ ls.length ∧ i = .int .i64 j ∧ a = .int .u32 ((Em.ad (ls.take j).flatten).1 : Int) ∧ b = .int .u32 ((Em.ad (ls.take j).flatten).2 : Int)) (fun _ _ i => ls.length - (intOf i).toNat)
  case atStart => exact ⟨0, Nat.zero_le _, rfl, rfl, rfl⟩
  case round =>
    obtain ⟨j, hj, rfl, rfl, rfl⟩ := hrel
    have hb := Em.ad_lt (ls.take j).flatten
    by_cases hlt : j < ls.length
    · obtain ⟨ad, rfl, hcell⟩ := hr (by omega)
      obtain ⟨u, hc, B, d, rfl, hlc2, hcm2, hr2⟩ := hcell j hlt
      have hfs := hide (flat_step ls j hlt)
      clear hcell hr
      go_wp2
      go_loop [3, 4, 17] (fun a b i => ∃ k : Nat, k ≤ ls[j].length ∧ i = .int .i64 k ∧ a = .int .u32 ((Em.ad ((ls.take j).flatten ++ ls[j].take k)).1 : Int) ∧ b = .int .u32 ((Em.ad ((ls.take j).flatten ++ ls[j].take k)).2 : Int)) (fun _ _ i => ls[j].length - (intOf i).toNat)
      case atStart => exact ⟨0, Nat.zero_le _, rfl, by simp, by simp⟩
      case round =>
        obtain ⟨k, hk, rfl, rfl, rfl⟩ := hrel
        have hb := Em.ad_lt ((ls.take j).flatten ++ ls[j].take k)
        by_cases hlt2 : k < ls[j].length
        · obtain ⟨ad2, rfl, hcell2⟩ := hr2 (by omega)
          have hc2 := hcell2 k hlt2
          have h1 := ls[j][k].toNat_lt
          have hs := hide (flat_take (ls.take j).flatten ls[j] k hlt2)
          unfold bv at hc2
          clear hcell2
          go_wp2
          go_round
          case rel => exact ⟨k + 1, by omega, by go_num, by rw [hs.out, Em.ad_snoc]; simp [Em.adStep], by rw [hs.out, Em.ad_snoc]; simp [Em.adStep]⟩
          case measure => simp [intOf]; omega
        · have hall := hide (take_all ls[j] k hk hlt2)
          go_wp2
          go_round
          case rel => exact ⟨j + 1, by omega, by go_num, by rw [hfs.out, hall.out], by rw [hfs.out, hall.out]⟩
          case measure => simp [intOf]; omega
    · have hall := hide (take_all ls j hj hlt)
      go_wp2
      go_ret
      exact ⟨ret_int (by rw [hall.out] at hb ⊢; unfold Em.adler; omega), rfl⟩

set_option maxHeartbeats 1000000 in
theorem sumMark (v : Value) (ls : List (List UInt8)) (w : World) (h : Rws w v ls) :
    Calls Try.prog 77 #[v] w fun e w' => e = .returned (.int .u64 (Em.mark ls.flatten : Int)) ∧ w = w' := by
  obtain ⟨A, c, rfl, hlc, hcm, hr⟩ := h
  go_enter Try.func77, Try.ntmps77
  go_wp2
  go_loop [3, 10] (fun a i => ∃ j : Nat, j ≤ ls.length ∧ i = .int .i64 j ∧ a = .int .u64 (Em.mark (ls.take j).flatten : Int)) (fun _ i => ls.length - (intOf i).toNat)
  case atStart => exact ⟨0, Nat.zero_le _, rfl, rfl⟩
  case round =>
    obtain ⟨j, hj, rfl, rfl⟩ := hrel
    by_cases hlt : j < ls.length
    · obtain ⟨ad, rfl, hcell⟩ := hr (by omega)
      obtain ⟨u, hc, B, d, rfl, hlc2, hcm2, hr2⟩ := hcell j hlt
      have hfs := hide (flat_step ls j hlt)
      clear hcell hr
      go_wp2
      go_loop [3, 16] (fun a i => ∃ k : Nat, k ≤ ls[j].length ∧ i = .int .i64 k ∧ a = .int .u64 (Em.mark ((ls.take j).flatten ++ ls[j].take k) : Int)) (fun _ i => ls[j].length - (intOf i).toNat)
      case atStart => exact ⟨0, Nat.zero_le _, rfl, by simp⟩
      case round =>
        obtain ⟨k, hk, rfl, rfl⟩ := hrel
        have hb := Em.mark_lt ((ls.take j).flatten ++ ls[j].take k)
        by_cases hlt2 : k < ls[j].length
        · obtain ⟨ad2, rfl, hcell2⟩ := hr2 (by omega)
          have hc2 := hcell2 k hlt2
          have h1 := ls[j][k].toNat_lt
          have hs := hide (flat_take (ls.take j).flatten ls[j] k hlt2)
          unfold bv at hc2
          clear hcell2
          go_wp2
          go_round
          case rel => exact ⟨k + 1, by omega, by go_num, by rw [hs.out, Em.mark_snoc, ← mk_go _ _ hb]⟩
          case measure => simp [intOf]; omega
        · have hall := hide (take_all ls[j] k hk hlt2)
          go_wp2
          go_round
          case rel => exact ⟨j + 1, by omega, by go_num, by rw [hfs.out, hall.out]⟩
          case measure => simp [intOf]; omega
    · have hall := hide (take_all ls j hj hlt)
      go_wp2
      go_ret
      exact ⟨ret_int (by rw [hall.out]), rfl⟩
end Go.Proofs.Ytcbkklfdeloeeaa
