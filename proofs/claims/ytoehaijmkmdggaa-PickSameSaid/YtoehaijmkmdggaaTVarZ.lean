/- Walks: Zig and Zag, and the reference's. -/
import Derived.Test.YtoehaijmkmdggaaTVarW
set_option linter.unusedSimpArgs false
set_option linter.unusedVariables false
namespace Go.Proofs.Ytoehaijmkmdggaa
open Go.RowKit
set_option linter.unusedVariables false
set_option maxRecDepth 100000
theorem bv_not64 (x : Nat) (hx : x < 18446744073709551616) : (BitVec.ofInt 64 18446744073709551615 ^^^ BitVec.ofInt 64 (x : Int)).toNat = 18446744073709551615 - x := by
  have h1 : (BitVec.ofInt 64 18446744073709551615 : BitVec 64) = BitVec.allOnes 64 := by decide
  rw [h1, BitVec.allOnes_xor, BitVec.toNat_not, BitVec.toNat_ofInt]
  omega
theorem not_u64 (x : Int) (h0 : 0 ≤ x) (h1 : x < 18446744073709551616) : bits .xor .u64 IntKind.u64.max x = 18446744073709551615 - x := by
  obtain ⟨n, rfl⟩ := Int.eq_ofNat_of_zero_le h0
  have h := bv_not64 n (by omega)
  show IntKind.u64.wrap ((BitVec.ofInt 64 18446744073709551615 ^^^ BitVec.ofInt 64 (n : Int)).toNat : Int) = _
  rw [h, IntKind.wrap_u64]
  omega
set_option maxHeartbeats 1000000 in
theorem varZig (v : Int) (h1 : -9223372036854775808 ≤ v) (h2 : v ≤ 9223372036854775807) (w : World) : Calls Try.prog 101 #[.int .i64 v] w fun e w' => e = .returned (.int .u64 (Em.zig v : Int)) ∧ w = w' := by
  have sg : IntKind.u64.signed = false := rfl
  by_cases h : v < 0
  · go_enter Try.func101, Try.ntmps101
    go_wp2
    go_ret
    refine ⟨ret_int ?_, rfl⟩
    rw [IntKind.wrap_u64, IntKind.wrap_u64, not_u64 _ (by omega) (by omega)]
    unfold Em.zig
    rw [if_neg (by omega)]
    omega
  · go_enter Try.func101, Try.ntmps101
    go_wp2
    go_ret
    refine ⟨ret_int ?_, rfl⟩
    unfold Em.zig
    rw [if_pos (by omega)]
    omega
set_option maxHeartbeats 1000000 in
theorem refZag (u : Nat) (h : Hid (u < 18446744073709551616)) (w : World) : Calls Try.prog 91 #[.int .u64 (u : Int)] w fun e w' => e = .returned (.int .i64 (Em.zag u)) ∧ w = w' := by
  go_enter Try.func91, Try.ntmps91
  go_wp2
  · have e : ((u : Int) % 2 == 0) = true := by assumption
    go_ret
    refine ⟨ret_int ?_, rfl⟩
    rw [beq_iff_eq] at e
    have hu := h.out
    unfold Em.zag
    rw [if_pos (by omega), IntKind.wrap_u64]
    unfold wrap64
    omega
  · have e : ((u : Int) % 2 == 0) = false := by assumption
    go_ret
    refine ⟨ret_int ?_, rfl⟩
    rw [beq_eq_false_iff_ne] at e
    have hu := h.out
    unfold Em.zag
    rw [if_neg (by omega), IntKind.wrap_u64]
    unfold wrap64
    omega
end Go.Proofs.Ytoehaijmkmdggaa
