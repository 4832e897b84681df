/- Walks: Zig and Zag, and the reference's. -/
import Derived.Test.YtoehaijmkmdggaaGreatGVarW
set_option linter.unusedSimpArgs false
set_option linter.unusedVariables false
namespace Go.Proofs.YtoehaijmkmdggaaGreat
open Go.RowKit
set_option linter.unusedVariables false
set_option maxRecDepth 100000
theorem not_i64 (x : Int) (h0 : -9223372036854775808 ≤ x) (h1 : x ≤ 9223372036854775807) : bits .xor .i64 (-1) x = -x - 1 := by
  show IntKind.i64.wrap ((BitVec.ofInt 64 (-1) ^^^ BitVec.ofInt 64 x).toNat : Int) = _
  have e : (BitVec.ofInt 64 (-1) : BitVec 64) = BitVec.allOnes 64 := by decide
  rw [e, BitVec.allOnes_xor, BitVec.toNat_not, BitVec.toNat_ofInt, IntKind.wrap_i64]
  omega
theorem and_1 (u : Nat) (h : u < 18446744073709551616) : bits .and .u64 (u : Int) 1 = ((u % 2 : Nat) : Int) := by
  rw [show (1 : Int) = ((1 : Nat) : Int) from rfl, u64_and_nat _ _ h (by omega), show 1 = 2 ^ 1 - 1 from rfl, Nat.and_two_pow_sub_one_eq_mod]
set_option maxHeartbeats 1000000 in
theorem varZag (u : Nat) (h : Hid (u < 18446744073709551616)) (w : World) : Calls Tryz.prog 69 #[.int .u64 (u : Int)] w fun e w' => e = .returned (.int .i64 (Em.zag u)) ∧ w = w' := by
  have sg : IntKind.i64.signed = true := rfl
  have f := and_1 u h.out
  have hz := hide (show u % 2 = 0 ∨ u % 2 = 1 from by omega)
  rcases hz.out with e | e
  all_goals
    have E := hide e
    rw [e] at f
    clear e
    go_enter Tryz.func69, Tryz.ntmps69
    go_wp2
    go_ret
    refine ⟨ret_int ?_, rfl⟩
    have e := E.out
    have hu := h.out
    have hw : wrap64 ((u : Int) / 2) = (u : Int) / 2 := by unfold wrap64; omega
    rw [hw]
    try rw [not_i64 _ (by omega) (by omega)]
    unfold Em.zag
    first | rw [if_pos e] | rw [if_neg (by omega)]
    omega
set_option maxHeartbeats 1000000 in
theorem refZag (u : Nat) (h : Hid (u < 18446744073709551616)) (w : World) : Calls Tryz.prog 78 #[.int .u64 (u : Int)] w fun e w' => e = .returned (.int .i64 (Em.zag u)) ∧ w = w' := by
  go_enter Tryz.func78, Tryz.ntmps78
  go_wp2
  · have e : ((u : Int) % 2 == 0) = true := by assumption
    go_ret
    refine ⟨ret_int ?_, rfl⟩
    rw [beq_iff_eq] at e
    have hu := h.out
    unfold Em.zag
    rw [if_pos (by omega), IntKind.wrap_u64]
    unfold wrap64
    omega
  · have e : ((u : Int) % 2 == 0) = false := by assumption
    go_ret
    refine ⟨ret_int ?_, rfl⟩
    rw [beq_eq_false_iff_ne] at e
    have hu := h.out
    unfold Em.zag
    rw [if_neg (by omega), IntKind.wrap_u64]
    unfold wrap64
    omega
end Go.Proofs.YtoehaijmkmdggaaGreat
