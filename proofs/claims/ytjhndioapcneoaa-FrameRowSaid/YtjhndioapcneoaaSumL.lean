/- Walks: the laws of sum return true. -/
import Derived.Test.YtjhndioapcneoaaSumW
import Derived.Test.YtjhndioapcneoaaLibP
namespace Go.Proofs.Ytjhndioapcneoaa
open Go.RowKit
set_option linter.unusedVariables false

theorem wiki : Em.adler [87, 105, 107, 105, 112, 101, 100, 105, 97] = 300286872 := by decide +kernel
theorem markNil : (((Em.mark [] : Nat) : Int) == 14695981039346656037) = true := by simp [Em.mark, Em.h0]
def Tru (w : World) (e : Ending) (w' : World) : Prop := e = .returned (.bool true) ∧ Keep w w'
theorem ad_and (l : List UInt8) : bits .and .u32 (Em.adler l : Int) 65535 = ((Em.ad l).1 : Int) := by
  have h := Em.adler_lt l
  rw [show (65535 : Int) = ((65535 : Nat) : Int) from rfl, u32_and_nat _ _ h (by omega), ← Em.adler_low l, show 65535 = 2 ^ 16 - 1 from rfl, Nat.and_two_pow_sub_one_eq_mod]
theorem ad_shr (l : List UInt8) : (Em.adler l : Int) / 65536 = ((Em.ad l).2 : Int) := by
  have h := Em.adler_high l
  omega
theorem ad_or (a b : Nat) (ha : a < 65521) (hb : b < 65521) : bits .or .u32 ((b : Int) * 65536) (a : Int) = ((b * 65536 + a : Nat) : Int) := by
  rw [show (b : Int) * 65536 = ((b * 65536 : Nat) : Int) from by omega, u32_or_nat _ _ (by omega) (by omega)]
  congr 1
  rw [show b * 65536 = b <<< 16 from by rw [Nat.shiftLeft_eq], Nat.shiftLeft_add_eq_or_of_lt (by omega)]
theorem next_eq (l : List UInt8) (b : UInt8) : (((Em.adler (l ++ [b]) : Nat) : Int) == bits .or .u32 ((((Em.ad l).2 : Int) + (((Em.ad l).1 : Int) + (b.toNat : Int))) % 65521 * 65536) ((((Em.ad l).1 : Int) + (b.toNat : Int)) % 65521)) = true := by
  have h1 : (((Em.ad l).2 : Int) + (((Em.ad l).1 : Int) + (b.toNat : Int))) % 65521 = (((Em.adStep (Em.ad l) b).2 : Nat) : Int) := by simp [Em.adStep]
  have h2 : (((Em.ad l).1 : Int) + (b.toNat : Int)) % 65521 = (((Em.adStep (Em.ad l) b).1 : Nat) : Int) := by simp [Em.adStep]
  have h3 := Em.adStep_lt (Em.ad l) b
  rw [h1, h2, ad_or _ _ h3.1 h3.2, beq_iff_eq]
  unfold Em.adler
  rw [Em.ad_snoc]
theorem next_mk (l : List UInt8) (b : UInt8) : (((Em.mark (l ++ [b]) : Nat) : Int) == IntKind.u64.wrap (bits .xor .u64 (Em.mark l : Int) (b.toNat : Int) * 1099511628211)) = true := by
  rw [mk_go _ _ (Em.mark_lt l), Em.mark_snoc, beq_self_eq_true]
theorem fl_one (l : List UInt8) : [l].flatten = l := by simp
theorem and_mask (n : Int) : bits .and .i64 n 65535 = n % 65536 := by
  show IntKind.i64.wrap ((BitVec.ofInt 64 n &&& BitVec.ofInt 64 65535).toNat : Int) = _
  have h1 : (BitVec.ofInt 64 n &&& BitVec.ofInt 64 65535).toNat = (n % 65536).toNat := by
    rw [BitVec.toNat_and, BitVec.toNat_ofInt, show (BitVec.ofInt 64 65535).toNat = 2 ^ 16 - 1 from by decide, Nat.and_two_pow_sub_one_eq_mod]
    omega
  rw [h1, IntKind.wrap_i64]
  omega
theorem xor_go (a b : UInt8) : bits .xor .u8 (a.toNat : Int) (b.toNat : Int) = ((a ^^^ b).toNat : Int) := by
  rw [u8_xor_nat _ _ a.toNat_lt b.toNat_lt, UInt8.toNat_xor]
theorem set_parts (l : List UInt8) (k : Nat) (h : k < l.length) (b : UInt8) : l = l.take k ++ l[k] :: l.drop (k + 1) ∧ l.set k b = l.take k ++ b :: l.drop (k + 1) := by
  refine ⟨?_, List.set_eq_take_append_cons_drop .. |>.trans (by rw [if_pos h])⟩
  rw [← List.drop_eq_getElem_cons h, List.take_append_drop]
theorem xor_ne (a b : UInt8) (h : b ≠ 0) : a ^^^ b ≠ a := by
  intro e
  apply h
  have := congrArg (a ^^^ ·) e
  simpa [← UInt8.xor_assoc] using this
theorem turn_ad (l : List UInt8) (k : Nat) (h : k < l.length) (b : UInt8) (hb : b ≠ 0) : (((Em.adler (l.set k (l[k] ^^^ b)) : Nat) : Int) != ((Em.adler l : Nat) : Int)) = true := by
  obtain ⟨e1, e2⟩ := set_parts l k h (l[k] ^^^ b)
  rw [bne_iff_ne]
  intro he
  have he' : Em.adler (l.set k (l[k] ^^^ b)) = Em.adler l := by omega
  rw [e2] at he'
  conv at he' => rhs; rw [e1]
  exact Em.adler_turn _ _ _ _ (xor_ne _ _ hb) he'
theorem turn_mk (l : List UInt8) (k : Nat) (h : k < l.length) (b : UInt8) (hb : b ≠ 0) : (((Em.mark (l.set k (l[k] ^^^ b)) : Nat) : Int) != ((Em.mark l : Nat) : Int)) = true := by
  obtain ⟨e1, e2⟩ := set_parts l k h (l[k] ^^^ b)
  rw [bne_iff_ne]
  intro he
  have he' : Em.mark (l.set k (l[k] ^^^ b)) = Em.mark l := by omega
  rw [e2] at he'
  conv at he' => rhs; rw [e1]
  exact Em.mark_turn _ _ _ _ (xor_ne _ _ hb) he'
end Go.Proofs.Ytjhndioapcneoaa
