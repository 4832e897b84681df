/- Walk: bytes.Equal. -/
import Derived.Test.YtcbkklfdeloeeaaProg
import Derived.Test.YtcbkklfdeloeeaaLibS
namespace Go.Proofs.Ytcbkklfdeloeeaa
open Go.RowKit
set_option linter.unusedVariables false
set_option maxRecDepth 100000
set_option maxHeartbeats 1000000 in
theorem bytesEqual (v u : Value) (l m : List UInt8) (w : World) (h : Bs w v l) (h2 : Bs w u m) : Calls Try.prog 66 #[v, u] w fun e w' => e = .returned (.bool (decide (l = m))) ∧ w = w' := by
  have hcv : ∀ W u x, Bs W u x → (convert 29 9 u).run Try.prog W = .ok (.string (str x)) W := fun W u x hb => run_conv_bs hb _ _ _ Try.underlying29 Try.underlying5 Try.underlying9
  have c1 := hcv _ _ _ h
  have c2 := hcv _ _ _ h2
  have hb := hide (str_lbeq l m)
  obtain ⟨A, c, rfl, hlc, hcm, hr⟩ := h
  obtain ⟨A2, cc2, rfl, hlc2, hcm2, hr2⟩ := h2
  clear hr hr2 hcv
  go_enter Try.func66, Try.ntmps66
  go_wp2
  go_ret
  exact ⟨by rw [← hb.out]; rfl, rfl⟩
end Go.Proofs.Ytcbkklfdeloeeaa
