/- Walk: the reference's Same at equal replies. -/
import Derived.Test.YtcbkklfdeloeeaaCliL
namespace Go.Proofs.Ytcbkklfdeloeeaa
open Go.RowKit
set_option linter.unusedVariables false
set_option maxRecDepth 100000
set_option maxHeartbeats 8000000 in
theorem ref25Same_eq (w : World) (a b x : Int) (A1 : Option Addr) (n1 m1 : Nat) (A2 : Option Addr) (n2 m2 : Nat) (r : List UInt8) (h1 : Bs w (.slice A1 n1 m1) r) (h2 : Bs w (.slice A2 n2 m2) r) : Calls Try.prog 45 #[.agg #[.int .i64 a, .int .i64 b, .int .i64 x, .slice A1 n1 m1], .agg #[.int .i64 a, .int .i64 b, .int .i64 x, .slice A2 n2 m2]] w fun e w' => e = .returned (.bool true) ∧ Keep w w' := by
  have k1 : Keep w ((w.alloc (.cells #[.int .i64 a, .int .i64 b, .int .i64 x, .slice A1 n1 m1] 57)).alloc (.cells #[.int .i64 a, .int .i64 b, .int .i64 x, .slice A2 n2 m2] 57)) := (by repeat (first | exact Keep.rf _ | assumption | apply Keep.al | apply Keep.dr | apply Keep.dn))
  have hcA := run_conv_bs (P := Try.prog) (h1.keep k1) 29 5 9 Try.underlying29 Try.underlying5 Try.underlying9
  have hcB := run_conv_bs (P := Try.prog) (h2.keep k1) 29 5 9 Try.underlying29 Try.underlying5 Try.underlying9
  have hss : ((str r).toList == (str r).toList) = true := by simp
  clear h1 h2
  go_enter Try.func45, Try.ntmps45
  go_wp2_with fail
  go_ret
  exact ⟨rfl, k1⟩
end Go.Proofs.Ytcbkklfdeloeeaa
