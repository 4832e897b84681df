/- Walks: a small number's byte (law 26). -/
import Derived.Test.YtcbkklfdeloeeaaCliM
import Derived.Laws.Bits128
namespace Go.Proofs.Ytcbkklfdeloeeaa
open Go.RowKit
set_option linter.unusedVariables false
set_option maxRecDepth 100000
theorem smallByte (n : Nat) (hn : n < 128) (w : World) : Calls Try.prog 48 #[.int .i64 (n : Int)] w (RetB w [UInt8.ofNat n]) := by
  have he : Value.int .u8 (bits .and .i64 (n : Int) 127 % 256) = bv (UInt8.ofNat n) := by
    rw [i64_and127, ← u8_bv n (by omega)]
    congr 1
    omega
  have HE := hide he
  clear he
  go_enter Try.func48, Try.ntmps48
  go_wp2_with fail
  go_ret
  exact ⟨_, rfl, Ob.new [UInt8.ofNat n] (by simp only [List.map_cons, List.map_nil, ← HE.out]) rfl rfl (Nat.le_refl _) (by simp), (by repeat (first | exact Keep.rf _ | assumption | apply Keep.al | apply Keep.dr | apply Keep.dn))⟩
end Go.Proofs.Ytcbkklfdeloeeaa
