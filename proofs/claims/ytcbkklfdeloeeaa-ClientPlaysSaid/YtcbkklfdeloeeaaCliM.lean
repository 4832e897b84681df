/- Walks: New; Call where it may not be (package client); a small number's byte. -/
import Derived.Test.YtcbkklfdeloeeaaCliL
namespace Go.Proofs.Ytcbkklfdeloeeaa
open Go.RowKit
set_option linter.unusedVariables false
set_option maxRecDepth 100000
theorem cliNew (m : Nat) (w : World) : Calls Try.prog 33 #[.int .u64 (m : Int)] w fun e w' => e = .returned (.pointer (some ⟨w.heap.size, 0, none⟩)) ∧ Keep w w' ∧ CRep 103 w' w.heap.size ⟨m, 0, 0, false, [], 0⟩ := by
  go_enter Try.func33, Try.ntmps33
  go_wp2_with fail
  go_ret
  exact ⟨rfl, (by repeat (first | exact Keep.rf _ | assumption | apply Keep.al | apply Keep.dr | apply Keep.dn)), none, 0, heap_alloc_new _ _, Bs.nil0 _⟩
/-- Call while a call is pending. -/
theorem cliCall_pending (w : World) (p : Nat) (c : Cl) (hpd : c.p = true) (v : Value) (h : CRep 103 w p c) : Calls Try.prog 34 #[.pointer (some ⟨p, 0, none⟩), v] w (RetC 103 w p c none) := by
  have hc := hide h
  obtain ⟨A, k, hp, hb⟩ := h
  obtain ⟨m, e, s, pd, b, n⟩ := c
  simp only at hpd
  subst hpd
  have c3 := top_cells hp 3
  simp only [clC, List.getElem?_toArray, List.getElem?_cons_succ, List.getElem?_cons_zero] at c3
  clear hp hb
  go_enter Try.func34, Try.ntmps34
  go_wp2_with fail
  go_ret2
  exact ⟨Frm.rf _ _, hc.out, rfl⟩
theorem cliCall_nil (w : World) (v : Value) : Calls Try.prog 34 #[.pointer none, v] w fun e w' => e = .returned (.tuple #[.slice none 0 0, .bool false]) ∧ w = w' := by
  go_enter Try.func34, Try.ntmps34
  go_wp2_with fail
  go_ret2
  exact ⟨rfl, rfl⟩
theorem cliTick_nil (w : World) : Calls Try.prog 35 #[.pointer none] w fun e w' => e = .returned (.tuple #[.slice none 0 0, .bool false]) ∧ w = w' := by
  go_enter Try.func35, Try.ntmps35
  go_wp2_with fail
  go_ret2
  exact ⟨rfl, rfl⟩
theorem cliRestart_nil (w : World) : Calls Try.prog 42 #[.pointer none] w fun e w' => e = .returned (.tuple #[]) ∧ w = w' := by
  go_enter Try.func42, Try.ntmps42
  go_wp2_with fail
  go_end0
  exact ⟨rfl, rfl⟩
end Go.Proofs.Ytcbkklfdeloeeaa
