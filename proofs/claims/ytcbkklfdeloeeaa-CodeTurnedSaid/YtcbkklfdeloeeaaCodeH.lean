/- Walks: which instructions have an N (package code, and the reference); the law CodeHas. -/
import Derived.Test.YtcbkklfdeloeeaaProg
import Derived.Test.YtcbkklfdeloeeaaVarW
import Derived.Test.YtcbkklfdeloeeaaReg
import Derived.Test.YtcbkklfdeloeeaaLibR
namespace Go.Proofs.Ytcbkklfdeloeeaa
open Go.RowKit
set_option linter.unusedVariables false
set_option maxRecDepth 100000
namespace Em
def hasN (n : Int) : Bool := decide (n = 1 ∨ n = 2 ∨ n = 3 ∨ n = 4 ∨ n = 5 ∨ n = 11 ∨ n = 12 ∨ n = 13 ∨ n = 14)
end Em
theorem has_cases (n : Int) : n = 1 ∨ n = 2 ∨ n = 3 ∨ n = 4 ∨ n = 5 ∨ n = 11 ∨ n = 12 ∨ n = 13 ∨ n = 14 ∨ ((n == 1) = false ∧ (n == 2) = false ∧ (n == 3) = false ∧ (n == 4) = false ∧ (n == 5) = false ∧ (n == 11) = false ∧ (n == 12) = false ∧ (n == 13) = false ∧ (n == 14) = false ∧ Em.hasN n = false) := by
  by_cases h : n = 1 ∨ n = 2 ∨ n = 3 ∨ n = 4 ∨ n = 5 ∨ n = 11 ∨ n = 12 ∨ n = 13 ∨ n = 14
  · omega
  · have h2 : Em.hasN n = false := decide_eq_false h
    simp only [beq_eq_false_iff_ne, h2, and_true]
    omega
theorem codeHasN (n : Int) (w : World) : Calls Try.prog 15 #[.int .i64 n] w fun e w' => e = .returned (.bool (Em.hasN n)) ∧ w = w' := by
  rcases has_cases n with rfl | rfl | rfl | rfl | rfl | rfl | rfl | rfl | rfl | ⟨h1, h2, h3, h4, h5, h6, h7, h8, h9, h10⟩
  case inr.inr.inr.inr.inr.inr.inr.inr.inr =>
    rw [h10]
    go_enter Try.func15, Try.ntmps15
    go_wp2
    go_ret
    exact ⟨rfl, rfl⟩
  all_goals
    go_enter Try.func15, Try.ntmps15
    go_wp2
    go_ret
    exact ⟨rfl, rfl⟩
theorem refHasN (n : Int) (w : World) : Calls Try.prog 16 #[.int .i64 n] w fun e w' => e = .returned (.bool (Em.hasN n)) ∧ w = w' := by
  rcases has_cases n with rfl | rfl | rfl | rfl | rfl | rfl | rfl | rfl | rfl | ⟨h1, h2, h3, h4, h5, h6, h7, h8, h9, h10⟩
  case inr.inr.inr.inr.inr.inr.inr.inr.inr =>
    rw [h10]
    go_enter Try.func16, Try.ntmps16
    go_wp2
    go_ret
    exact ⟨rfl, rfl⟩
  all_goals
    go_enter Try.func16, Try.ntmps16
    go_wp2
    go_ret
    exact ⟨rfl, rfl⟩
theorem noStr (f : Value) (hf : ∃ g, f = .func (.func g) #[] #[]) (w : World) : Calls Try.prog 105 #[.slice none 0 0, f] w fun e w' => e = .returned (.bool false) ∧ w = w' := by
  obtain ⟨g, rfl⟩ := hf
  have h : Calls Try.prog 128 #[.slice none 0 0, .func (.func g) #[] #[]] w fun e w' => e = .returned (.int .i64 (-1)) ∧ w = w' := by
    go_enter Try.func128, Try.ntmps128
    go_wp2
    go_loop [5, 8] (fun _ i => i = .int .i64 0) (fun _ i => 0)
    case atStart => rfl
    case round =>
      subst hrel
      go_wp2
      go_ret
      exact ⟨rfl, rfl⟩
  go_enter Try.func105, Try.ntmps105
  go_wp2_with fail
  refine h.mono ?_
  rintro e w' ⟨rfl, rfl⟩
  go_wp2
  go_ret
  exact ⟨rfl, rfl⟩
theorem noFun (f : Value) (hf : ∃ g, f = .func (.func g) #[] #[]) (w : World) : Calls Try.prog 106 #[.slice none 0 0, f] w fun e w' => e = .returned (.bool false) ∧ w = w' := by
  obtain ⟨g, rfl⟩ := hf
  have h : Calls Try.prog 129 #[.slice none 0 0, .func (.func g) #[] #[]] w fun e w' => e = .returned (.int .i64 (-1)) ∧ w = w' := by
    go_enter Try.func129, Try.ntmps129
    go_wp2
    go_loop [5, 8] (fun _ i => i = .int .i64 0) (fun _ i => 0)
    case atStart => rfl
    case round =>
      subst hrel
      go_wp2
      go_ret
      exact ⟨rfl, rfl⟩
  go_enter Try.func106, Try.ntmps106
  go_wp2_with fail
  refine h.mono ?_
  rintro e w' ⟨rfl, rfl⟩
  go_wp2
  go_ret
  exact ⟨rfl, rfl⟩
abbrev noProg : Value := .agg #[.int .i64 0, .slice none 0 0, .slice none 0 0]
theorem codeMay0 (w : World) : Calls Try.prog 70 #[.agg #[.int .i64 0, .slice none 0 0, .slice none 0 0]] w fun e w' => e = .returned (.bool true) ∧ Keep w w' := by
  go_enter Try.func70, Try.ntmps70
  go_wp2_with fail
  refine (noStr _ ⟨_, rfl⟩ _).mono ?_
  rintro e w1 ⟨rfl, rfl⟩
  go_wp2_with fail
  refine (noFun _ ⟨_, rfl⟩ _).mono ?_
  rintro e w1 ⟨rfl, rfl⟩
  go_wp2_with fail
  go_ret
  exact ⟨rfl, (by repeat (first | exact Keep.rf _ | assumption | apply Keep.al | apply Keep.dr | apply Keep.dn))⟩
theorem codeCount0 (w : World) : Calls Try.prog 71 #[.int .i64 0] w fun e w' => ∃ A c, e = .returned (.slice A 1 c) ∧ Ob w' w.heap.size 5 (.slice A 1 c) [0] ∧ Keep w w' := by
  have h := varPut 0 (by omega) w
  rw [Em.putN_small (by omega)] at h
  go_enter Try.func71, Try.ntmps71
  go_wp2_with fail
  refine h.mono ?_
  rintro e w1 ⟨v, rfl, ho, hk⟩
  have ho2 : Ob w1 w.heap.size 5 v [0] := ho
  obtain ⟨A, c, rfl⟩ := own_slice (show w1.ownsRow _ _ _ _ _ _ from ho2)
  go_wp2
  go_ret
  exact ⟨_, _, rfl, ho2, hk⟩
end Go.Proofs.Ytcbkklfdeloeeaa
