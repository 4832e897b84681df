/- Walks: audit's functions. -/
import Derived.Test.YtcbkklfdeloeeaaProg
import Derived.Test.YtcbkklfdeloeeaaLibS
import Derived.Test.YtcbkklfdeloeeaaOpen
namespace Go.Proofs.Ytcbkklfdeloeeaa
open Go.RowKit
set_option linter.unusedVariables false
set_option maxRecDepth 100000
namespace Em
/-- Is a call newer than another one? -/
def newer (a b : Int × Int) : Bool := decide (a.1 > b.1) || (decide (a.1 = b.1) && decide (a.2 > b.2))
/-- Does each stand above the one ahead? -/
def rises : List (Int × Int) → Bool
  | a :: b :: r => newer b a && rises (b :: r)
  | _ => true
end Em
theorem refNewer (w : World) (a b : Int × Int) : Calls Try.prog 47 #[.agg #[.int .i64 a.1, .int .i64 a.2], .agg #[.int .i64 b.1, .int .i64 b.2]] w fun e w' => e = .returned (.bool (Em.newer a b)) ∧ Keep w w' := by
  obtain ⟨a1, a2⟩ := a
  obtain ⟨b1, b2⟩ := b
  by_cases h1 : a1 > b1
  · have hf := hide (show Em.newer (a1, a2) (b1, b2) = true from by simp [Em.newer, h1])
    generalize Em.newer (a1, a2) (b1, b2) = r at *
    go_enter Try.func47, Try.ntmps47
    go_wp2
    go_ret
    exact ⟨by rw [hf.out]; rfl, (by repeat (first | exact Keep.rf _ | assumption | apply Keep.al | apply Keep.dr | apply Keep.dn))⟩
  · by_cases h2 : a1 = b1
    · have hf := hide (show Em.newer (a1, a2) (b1, b2) = decide (a2 > b2) from by simp [Em.newer, h2])
      generalize Em.newer (a1, a2) (b1, b2) = r at *
      go_enter Try.func47, Try.ntmps47
      go_wp2
      go_ret
      exact ⟨by rw [hf.out]; rfl, (by repeat (first | exact Keep.rf _ | assumption | apply Keep.al | apply Keep.dr | apply Keep.dn))⟩
    · have hf := hide (show Em.newer (a1, a2) (b1, b2) = false from by simp [Em.newer, h1, h2])
      have h2b : (a1 == b1) = false := by simpa using h2
      generalize Em.newer (a1, a2) (b1, b2) = r at *
      go_enter Try.func47, Try.ntmps47
      go_wp2
      go_ret
      exact ⟨by rw [hf.out]; rfl, (by repeat (first | exact Keep.rf _ | assumption | apply Keep.al | apply Keep.dr | apply Keep.dn))⟩
end Go.Proofs.Ytcbkklfdeloeeaa
