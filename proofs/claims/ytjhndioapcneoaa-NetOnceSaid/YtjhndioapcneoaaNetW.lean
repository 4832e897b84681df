/- Walks: the functions of package net that look. -/
import Derived.Test.YtjhndioapcneoaaProg
import Derived.Test.YtjhndioapcneoaaNetR
import Derived.Test.YtjhndioapcneoaaLibP
import Derived.Test.YtjhndioapcneoaaReg
import Derived.Lib.SliceRun
namespace Go.Proofs.Ytjhndioapcneoaa
open Go.RowKit
set_option linter.unusedVariables false
set_option maxRecDepth 100000
abbrev NetP (w : World) (p : Nat) (S : Nat → Prop) (R : Em.Nt) : Prop := NRep 67 70 5 w p S R
abbrev NetQ (w : World) (p : Nat) (S : Nat → Prop) (R : Em.Nt) : Prop := NRep 36 73 5 w p S R
abbrev AftP (w : World) (p : Nat) (S : Nat → Prop) (R : Em.Nt) (w' : World) : Prop := After 67 70 5 w p S R w'
abbrev AftQ (w : World) (p : Nat) (S : Nat → Prop) (R : Em.Nt) (w' : World) : Prop := After 36 73 5 w p S R w'
/-- The rows, as a look at them finds them. -/
theorem NRep.looks {tn te tb : TypeId} {w : World} {p : Nat} {S : Nat → Prop} {R : Em.Nt} (h : NRep tn te tb w p S R) : ∃ A0 c0 A1 c1, w.cell? ⟨p, 0, none⟩ = some (.slice A0 (R 0).length c0) ∧ w.cell? ⟨p, 1, none⟩ = some (.slice A1 (R 1).length c1) := by
  obtain ⟨vs, ms, h, _⟩ := h
  have t0 := top_cells h.top 0
  have t1 := top_cells h.top 1
  have r0 := h.row 0
  have r1 := h.row 1
  rw [h.len 0] at r0
  rw [h.len 1] at r1
  obtain ⟨A0, c0, e0⟩ := own_slice r0
  obtain ⟨A1, c1, e1⟩ := own_slice r1
  exact ⟨A0, c0, A1, c1, t0.trans (by rw [← e0]; rfl), t1.trans (by rw [← e1]; rfl)⟩
theorem way_cases (way : Int) : (¬ (way = 0 ∨ way = 1) ∧ way < 0) ∨ (¬ (way = 0 ∨ way = 1) ∧ ¬ way < 0 ∧ 2 ≤ way) ∨ way = 0 ∨ way = 1 := by omega
theorem netRoom {p : Nat} {S : Nat → Prop} {R : Em.Nt} (w : World) (h : NetP w p S R) (way : Int) : Calls Try.prog 40 #[.pointer (some ⟨p, 0, none⟩), .int .i64 way] w fun e w' => e = .returned (.bool (R.room way)) ∧ w = w' := by
  obtain ⟨A0, c0, A1, c1, h0, h1⟩ := h.looks
  clear h
  have hr : ∀ b, R.room way = b → (Ending.returned (.bool b) = .returned (.bool (R.room way))) := fun b e => by rw [e]
  rcases way_cases way with ⟨h2, h3⟩ | ⟨h2, h3, h4⟩ | rfl | rfl
  · replace hr := hide (hr false (decide_eq_false fun e => h2 e.1))
    go_enter Try.func40, Try.ntmps40
    go_wp2
    go_ret
    exact ⟨hr.out, rfl⟩
  · replace hr := hide (hr false (decide_eq_false fun e => h2 e.1))
    clear h2
    go_enter Try.func40, Try.ntmps40
    go_wp2
    go_ret
    exact ⟨hr.out, rfl⟩
  · replace hr := hide (hr (decide (((R 0).length : Int) < 64)) (by
      rw [Em.Nt.room, decide_eq_decide]
      exact ⟨fun h => Int.ofNat_lt.2 h.2, fun h => ⟨.inl rfl, Int.ofNat_lt.1 h⟩⟩))
    go_enter Try.func40, Try.ntmps40
    go_wp2
    go_ret
    exact ⟨hr.out, rfl⟩
  · replace hr := hide (hr (decide (((R 1).length : Int) < 64)) (by
      rw [Em.Nt.room, decide_eq_decide]
      exact ⟨fun h => Int.ofNat_lt.2 h.2, fun h => ⟨.inr rfl, Int.ofNat_lt.1 h⟩⟩))
    go_enter Try.func40, Try.ntmps40
    go_wp2
    go_ret
    exact ⟨hr.out, rfl⟩
theorem netIs {p : Nat} {S : Nat → Prop} {R : Em.Nt} (w : World) (h : NetP w p S R) (way i : Int) : Calls Try.prog 42 #[.pointer (some ⟨p, 0, none⟩), .int .i64 way, .int .i64 i] w fun e w' => e = .returned (.bool (R.has way i)) ∧ w = w' := by
  obtain ⟨A0, c0, A1, c1, h0, h1⟩ := h.looks
  clear h
  have hr : ∀ b, R.has way i = b → (Ending.returned (.bool b) = .returned (.bool (R.has way i))) := fun b e => by rw [e]
  rcases way_cases way with ⟨h2, h3⟩ | ⟨h2, h3, h4⟩ | rfl | rfl
  · replace hr := hide (hr false (decide_eq_false fun e => h2 e.1))
    have g0 : ¬ way = 0 := by omega
    have g1 : ¬ way = 1 := by omega
    have g0b : (way == 0) = false := by simpa using g0
    have g1b : (way == 1) = false := by simpa using g1
    go_enter Try.func42, Try.ntmps42
    go_wp2
    go_ret
    exact ⟨hr.out, rfl⟩
  · replace hr := hide (hr false (decide_eq_false fun e => h2 e.1))
    have g0 : ¬ way = 0 := by omega
    have g1 : ¬ way = 1 := by omega
    have g0b : (way == 0) = false := by simpa using g0
    have g1b : (way == 1) = false := by simpa using g1
    clear h2
    go_enter Try.func42, Try.ntmps42
    go_wp2
    go_ret
    exact ⟨hr.out, rfl⟩
  · by_cases g0 : i < 0
    · replace hr := hide (hr false (decide_eq_false fun e => by omega))
      go_enter Try.func42, Try.ntmps42
      go_wp2
      go_ret
      exact ⟨hr.out, rfl⟩
    · by_cases g1 : i < ((R 0).length : Int)
      · replace hr := hide (hr true (decide_eq_true ⟨.inl rfl, by omega, g1⟩))
        go_enter Try.func42, Try.ntmps42
        go_wp2
        go_ret
        exact ⟨hr.out, rfl⟩
      · replace hr := hide (hr false (decide_eq_false fun e => g1 e.2.2))
        go_enter Try.func42, Try.ntmps42
        go_wp2
        go_ret
        exact ⟨hr.out, rfl⟩
  · by_cases g0 : i < 0
    · replace hr := hide (hr false (decide_eq_false fun e => by omega))
      go_enter Try.func42, Try.ntmps42
      go_wp2
      go_ret
      exact ⟨hr.out, rfl⟩
    · by_cases g1 : i < ((R 1).length : Int)
      · replace hr := hide (hr true (decide_eq_true ⟨.inr rfl, by omega, g1⟩))
        go_enter Try.func42, Try.ntmps42
        go_wp2
        go_ret
        exact ⟨hr.out, rfl⟩
      · replace hr := hide (hr false (decide_eq_false fun e => g1 e.2.2))
        go_enter Try.func42, Try.ntmps42
        go_wp2
        go_ret
        exact ⟨hr.out, rfl⟩
theorem refIs24 {p : Nat} {S : Nat → Prop} {R : Em.Nt} (w : World) (h : NetQ w p S R) (way i : Int) : Calls Try.prog 44 #[.pointer (some ⟨p, 0, none⟩), .int .i64 way, .int .i64 i] w fun e w' => e = .returned (.bool (R.has way i)) ∧ w = w' := by
  obtain ⟨A0, c0, A1, c1, h0, h1⟩ := h.looks
  clear h
  have hr : ∀ b, R.has way i = b → (Ending.returned (.bool b) = .returned (.bool (R.has way i))) := fun b e => by rw [e]
  rcases way_cases way with ⟨h2, h3⟩ | ⟨h2, h3, h4⟩ | rfl | rfl
  · replace hr := hide (hr false (decide_eq_false fun e => h2 e.1))
    have g0 : ¬ way = 0 := by omega
    have g1 : ¬ way = 1 := by omega
    have g0b : (way == 0) = false := by simpa using g0
    have g1b : (way == 1) = false := by simpa using g1
    go_enter Try.func44, Try.ntmps44
    go_wp2
    go_ret
    exact ⟨hr.out, rfl⟩
  · replace hr := hide (hr false (decide_eq_false fun e => h2 e.1))
    have g0 : ¬ way = 0 := by omega
    have g1 : ¬ way = 1 := by omega
    have g0b : (way == 0) = false := by simpa using g0
    have g1b : (way == 1) = false := by simpa using g1
    clear h2
    go_enter Try.func44, Try.ntmps44
    go_wp2
    go_ret
    exact ⟨hr.out, rfl⟩
  · by_cases g0 : i < 0
    · replace hr := hide (hr false (decide_eq_false fun e => by omega))
      go_enter Try.func44, Try.ntmps44
      go_wp2
      go_ret
      exact ⟨hr.out, rfl⟩
    · by_cases g1 : i < ((R 0).length : Int)
      · replace hr := hide (hr true (decide_eq_true ⟨.inl rfl, by omega, g1⟩))
        go_enter Try.func44, Try.ntmps44
        go_wp2
        go_ret
        exact ⟨hr.out, rfl⟩
      · replace hr := hide (hr false (decide_eq_false fun e => g1 e.2.2))
        go_enter Try.func44, Try.ntmps44
        go_wp2
        go_ret
        exact ⟨hr.out, rfl⟩
  · by_cases g0 : i < 0
    · replace hr := hide (hr false (decide_eq_false fun e => by omega))
      go_enter Try.func44, Try.ntmps44
      go_wp2
      go_ret
      exact ⟨hr.out, rfl⟩
    · by_cases g1 : i < ((R 1).length : Int)
      · replace hr := hide (hr true (decide_eq_true ⟨.inr rfl, by omega, g1⟩))
        go_enter Try.func44, Try.ntmps44
        go_wp2
        go_ret
        exact ⟨hr.out, rfl⟩
      · replace hr := hide (hr false (decide_eq_false fun e => g1 e.2.2))
        go_enter Try.func44, Try.ntmps44
        go_wp2
        go_ret
        exact ⟨hr.out, rfl⟩
theorem netLen {p : Nat} {S : Nat → Prop} {R : Em.Nt} (w : World) (h : NetP w p S R) (way : Int) : Calls Try.prog 20 #[.pointer (some ⟨p, 0, none⟩), .int .i64 way] w fun e w' => e = .returned (.int .i64 (R.len way : Int)) ∧ w = w' := by
  obtain ⟨A0, c0, A1, c1, h0, h1⟩ := h.looks
  clear h
  have hr : ∀ b : Nat, R.len way = b → (Ending.returned (.int .i64 (b : Int)) = .returned (.int .i64 (R.len way : Int))) := fun b e => by rw [e]
  rcases way_cases way with ⟨h2, h3⟩ | ⟨h2, h3, h4⟩ | rfl | rfl
  · replace hr := hide (hr 0 (if_neg h2))
    have g0 : ¬ way = 0 := by omega
    have g1 : ¬ way = 1 := by omega
    have g0b : (way != 0) = true := by simp [g0]
    have g1b : (way != 1) = true := by simp [g1]
    go_enter Try.func20, Try.ntmps20
    go_wp2
    go_ret
    exact ⟨hr.out, rfl⟩
  · replace hr := hide (hr 0 (if_neg h2))
    have g0 : ¬ way = 0 := by omega
    have g1 : ¬ way = 1 := by omega
    have g0b : (way != 0) = true := by simp [g0]
    have g1b : (way != 1) = true := by simp [g1]
    clear h2
    go_enter Try.func20, Try.ntmps20
    go_wp2
    go_ret
    exact ⟨hr.out, rfl⟩
  · replace hr := hide (hr _ (if_pos (.inl rfl)))
    go_enter Try.func20, Try.ntmps20
    go_wp2
    go_ret
    exact ⟨hr.out, rfl⟩
  · replace hr := hide (hr _ (if_pos (.inr rfl)))
    go_enter Try.func20, Try.ntmps20
    go_wp2
    go_ret
    exact ⟨hr.out, rfl⟩
theorem refLen24 {p : Nat} {S : Nat → Prop} {R : Em.Nt} (w : World) (h : NetQ w p S R) (way : Int) : Calls Try.prog 27 #[.pointer (some ⟨p, 0, none⟩), .int .i64 way] w fun e w' => e = .returned (.int .i64 (R.len way : Int)) ∧ w = w' := by
  obtain ⟨A0, c0, A1, c1, h0, h1⟩ := h.looks
  clear h
  have hr : ∀ b : Nat, R.len way = b → (Ending.returned (.int .i64 (b : Int)) = .returned (.int .i64 (R.len way : Int))) := fun b e => by rw [e]
  rcases way_cases way with ⟨h2, h3⟩ | ⟨h2, h3, h4⟩ | rfl | rfl
  · replace hr := hide (hr 0 (if_neg h2))
    have g0 : ¬ way = 0 := by omega
    have g1 : ¬ way = 1 := by omega
    have g0b : (way != 0) = true := by simp [g0]
    have g1b : (way != 1) = true := by simp [g1]
    go_enter Try.func27, Try.ntmps27
    go_wp2
    go_ret
    exact ⟨hr.out, rfl⟩
  · replace hr := hide (hr 0 (if_neg h2))
    have g0 : ¬ way = 0 := by omega
    have g1 : ¬ way = 1 := by omega
    have g0b : (way != 0) = true := by simp [g0]
    have g1b : (way != 1) = true := by simp [g1]
    clear h2
    go_enter Try.func27, Try.ntmps27
    go_wp2
    go_ret
    exact ⟨hr.out, rfl⟩
  · replace hr := hide (hr _ (if_pos (.inl rfl)))
    go_enter Try.func27, Try.ntmps27
    go_wp2
    go_ret
    exact ⟨hr.out, rfl⟩
  · replace hr := hide (hr _ (if_pos (.inr rfl)))
    go_enter Try.func27, Try.ntmps27
    go_wp2
    go_ret
    exact ⟨hr.out, rfl⟩
set_option maxHeartbeats 1000000 in
theorem netClone (v : Value) (l : List UInt8) (w : World) (h : Bs w v l) (hl : l.length ≤ 1000000) : Calls Try.prog 41 #[v] w fun e w' => ∃ A c, e = .returned (.slice A l.length c) ∧ Ob w' w.heap.size 5 (.slice A l.length c) l ∧ Keep w w' := by
  have h0 := h
  obtain ⟨A, c, rfl, hlc, hcm, hr⟩ := h
  have kn := fun W A n c => Lib.run_eql_slice_nil (P := Try.prog) W 25 5 A n c 0 0 Try.underlying25
  rcases A with _ | ad
  · have h00 : l = [] := by
      rcases Nat.eq_zero_or_pos l.length with h0 | h0
      · exact List.eq_nil_of_length_eq_zero h0
      · obtain ⟨_, e, _⟩ := hr h0
        cases e
    subst h00
    clear hr
    go_enter Try.func41, Try.ntmps41
    go_wp2
    go_ret
    exact ⟨_, _, rfl, Ob.nil _ _ _, Keep.rf _⟩
  · clear hr
    go_enter Try.func41, Try.ntmps41
    go_wp2_with (at_builtin; refine appB (w0 := w) rfl (.tmp 5) (.tmp 6) rfl _ [] rfl (Ob.new [] rfl rfl rfl (Nat.le_refl _) (by simp)) _ _ rfl (h0.keep (by repeat (first | exact Keep.rf _ | assumption | apply Keep.al | apply Keep.dr | apply Keep.dn))) (by repeat (first | exact Keep.rf _ | assumption | apply Keep.al | apply Keep.dr | apply Keep.dn)) (by simp; omega) ?_; intro v2 w2 ho2 hk2 hg2 hat2)
    go_ret
    have ho3 : Ob w2 w.heap.size 5 v2 l := by simpa using ho2
    obtain ⟨A2, c2, rfl⟩ := own_slice (show w2.ownsRow _ _ _ _ _ _ from ho3)
    exact ⟨_, _, rfl, ho3, hk2⟩
theorem netNew (w : World) : Calls Try.prog 15 #[] w fun e w' => ∃ p S, e = .returned (.pointer (some ⟨p, 0, none⟩)) ∧ NetP w' p S (fun _ => []) ∧ (∀ k, S k → w.heap.size ≤ k) ∧ Keep w w' := by
  go_enter Try.func15, Try.ntmps15
  go_wp2
  go_ret
  refine ⟨_, fun k => k = w.heap.size, rfl, ⟨_, _, NRaw.new (heap_alloc_new w _), fun x k hx => ?_, fun k e => ?_⟩, fun k e => Nat.le_of_eq (Eq.symm e), (by repeat (first | exact Keep.rf _ | assumption | apply Keep.al | apply Keep.dr | apply Keep.dn))⟩
  · cases x with
    | top => injection hx with hx; exact hx.symm
    | row j => cases hx
    | msg j i => cases hx
  · have e : k = w.heap.size := e
    subst e
    simp
end Go.Proofs.Ytjhndioapcneoaa
