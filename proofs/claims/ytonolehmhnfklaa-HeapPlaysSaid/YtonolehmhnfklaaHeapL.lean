/- Walks: the laws of heap return true. -/
import Derived.Test.YtonolehmhnfklaaHeapA
namespace Go.Proofs.Ytonolehmhnfklaa
open Go.RowKit Go.Maps
set_option linter.unusedVariables false
set_option maxRecDepth 100000
theorem intW_4 : intW 4 = 9 := by unfold intW; rw [IntKind.wrap_i64]; rfl
theorem intW_m3 : intW (-3) / 2 = -3 := intW_back _ (by omega) (by omega)
theorem alloc_1 : Em.alloc 9 [] 4 [9] = some (0, [(4, [9])]) := by simp [Em.alloc, Em.used]
theorem alloc_2 : Em.alloc 9 [(4, [9])] 4 [0] = some (4, [(4, [9]), (4, [0])]) := by simp [Em.alloc, Em.used]
theorem used_2 : Em.used [(4, [9]), (4, [0])] = 4 := by simp [Em.used]
theorem AllocH.yes {w w' : World} {p sz : Nat} {S : List Nat} {H : Em.Hp} {tag : Int} {fs : List Int} {e : Ending} {n : Int} {H' : Em.Hp} (h : AllocH w p S sz H tag fs e w') (ha : Em.alloc sz H tag fs = some (n, H')) :
    e = .returned (.tuple #[.int .i64 n, .bool true]) ∧ ∃ S', HRep w' p S' sz H' ∧ Frm (· ∈ S) w w' ∧ ∀ k ∈ S', k ∈ S ∨ w.heap.size ≤ k := by
  unfold AllocH at h
  rw [ha] at h
  exact h
theorem AllocH.no {w w' : World} {p sz : Nat} {S : List Nat} {H : Em.Hp} {tag : Int} {fs : List Int} {e : Ending} (h : AllocH w p S sz H tag fs e w') (ha : Em.alloc sz H tag fs = none) :
    e = .returned (.tuple #[.int .i64 0, .bool false]) ∧ Keep w w' := by
  unfold AllocH at h
  rw [ha] at h
  exact h
set_option maxHeartbeats 2000000 in
theorem heapKnown (w : World) : Calls Try.prog 26 #[] w fun e w' => e = .returned (.bool true) ∧ Keep w w' := by
  have i4 := hide intW_4
  have i3 := hide intW_m3
  go_enter Try.func26, Try.ntmps26
  go_wp2_with fail
  refine (heapNew 9 _ (by omega)).mono ?_
  rintro e w1 ⟨p, S, rfl, hR, hS, hk⟩
  go_wp2_with fail
  refine (heapInt _ _).mono ?_
  rintro e w' ⟨rfl, rfl⟩
  rw [i4.out]
  go_wp2_with fail
  refine (heapAlloc _ (hR.keep (by repeat (first | exact Keep.rf _ | assumption | apply Keep.al | apply Keep.dr | apply Keep.dn))) 4 rfl _ [9] (Cs.lit _ rfl rfl rfl (by simp) (by simp)) (by simp; rfl) (by simp)).mono ?_
  intro e w2 hA
  obtain ⟨rfl, S2, hR2, hF2, hS2⟩ := hA.yes alloc_1
  go_wp2_with fail
  refine (heapAlloc _ (hR2.keep (by repeat (first | exact Keep.rf _ | assumption | apply Keep.al | apply Keep.dr | apply Keep.dn))) 4 rfl _ [0] (Cs.lit _ rfl rfl rfl (by simp) (by simp)) (by simp; rfl) (by simp)).mono ?_
  intro e w3 hA2
  obtain ⟨rfl, S3, hR3, hF3, hS3⟩ := hA2.yes alloc_2
  have hk2 := Frm.keep (Keep.al hk _) hF2 fun i hi => hS i hi
  have hk3 := Frm.keep (Keep.al hk2 _) hF3 fun i hi => by
    rcases hS2 i hi with h | h
    · exact hS i h
    · exact Nat.le_trans (Below.size (Keep.al hk _)) h
  have HU := heapUsed w3 hR3
  rw [used_2] at HU
  go_wp2_with fail
  refine HU.mono ?_
  rintro e w' ⟨rfl, rfl⟩
  go_wp2_with fail
  refine (heapInt _ _).mono ?_
  rintro e w' ⟨rfl, rfl⟩
  go_wp2_with fail
  refine (heapNum _ _).mono ?_
  rintro e w' ⟨rfl, rfl⟩
  rw [i3.out]
  go_wp2
  go_ret
  exact ⟨rfl, hk3⟩
theorem ret_tr {a : Bool} (h : a = true) : Ending.returned (.bool a) = .returned (.bool true) := by rw [h]
set_option maxHeartbeats 2000000 in
theorem HeapInts_walk (w : World) (n : Int) (hn : (Lit.int .i64 n).wf = true) (m : Int) (hm : (Lit.int .i64 m).wf = true) : Calls Try.prog 7 #[.int .i64 n, .int .i64 m] w fun e w' => e = .returned (.bool true) ∧ Keep w w' := by
  have hb := in_i64 hn
  clear hn hm
  have ho : (intW n % 2 == 1) = true := by rw [intW_odd]; rfl
  have hbk := hide (intW_back n)
  by_cases h1 : n < -4611686018427387904
  · have f1 : decide (n < -4611686018427387904) = true := by simp; omega
    go_enter Try.func7, Try.ntmps7
    go_wp2_with (first
      | (go_at_call 20; refine (heapInt _ _).mono ?_; rintro e w' ⟨rfl, rfl⟩)
      | (go_at_call 21; refine (refInt _ _).mono ?_; rintro e w' ⟨rfl, rfl⟩)
      | (go_at_call 22; refine (heapIsInt _ _).mono ?_; rintro e w' ⟨rfl, rfl⟩)
      | (go_at_call 25; refine (refIsInt _ _).mono ?_; rintro e w' ⟨rfl, rfl⟩)
      | (go_at_call 23; refine (heapNum _ _).mono ?_; rintro e w' ⟨rfl, rfl⟩)
      | (go_at_call 24; refine (refNum _ _).mono ?_; rintro e w' ⟨rfl, rfl⟩)
      | (go_at_call 26; refine (heapKnown _).mono ?_; rintro e w9 ⟨rfl, hk9⟩)
      | fail)
    go_ret
    exact ⟨ret_tr (by simp), hk9⟩
  · have f1 : decide (n < -4611686018427387904) = false := by simp; omega
    by_cases h2 : 4611686018427387904 ≤ n
    · have f2 : decide (4611686018427387904 ≤ n) = true := by simp; omega
      go_enter Try.func7, Try.ntmps7
      go_wp2_with (first
        | (go_at_call 20; refine (heapInt _ _).mono ?_; rintro e w' ⟨rfl, rfl⟩)
        | (go_at_call 21; refine (refInt _ _).mono ?_; rintro e w' ⟨rfl, rfl⟩)
        | (go_at_call 22; refine (heapIsInt _ _).mono ?_; rintro e w' ⟨rfl, rfl⟩)
        | (go_at_call 25; refine (refIsInt _ _).mono ?_; rintro e w' ⟨rfl, rfl⟩)
        | (go_at_call 23; refine (heapNum _ _).mono ?_; rintro e w' ⟨rfl, rfl⟩)
        | (go_at_call 24; refine (refNum _ _).mono ?_; rintro e w' ⟨rfl, rfl⟩)
        | (go_at_call 26; refine (heapKnown _).mono ?_; rintro e w9 ⟨rfl, hk9⟩)
        | fail)
      go_ret
      exact ⟨ret_tr (by simp), hk9⟩
    · have f2 : decide (4611686018427387904 ≤ n) = false := by simp; omega
      have f3 := hbk.out (by omega) (by omega)
      go_enter Try.func7, Try.ntmps7
      go_wp2_with (first
        | (go_at_call 20; refine (heapInt _ _).mono ?_; rintro e w' ⟨rfl, rfl⟩)
        | (go_at_call 21; refine (refInt _ _).mono ?_; rintro e w' ⟨rfl, rfl⟩)
        | (go_at_call 22; refine (heapIsInt _ _).mono ?_; rintro e w' ⟨rfl, rfl⟩)
        | (go_at_call 25; refine (refIsInt _ _).mono ?_; rintro e w' ⟨rfl, rfl⟩)
        | (go_at_call 23; refine (heapNum _ _).mono ?_; rintro e w' ⟨rfl, rfl⟩)
        | (go_at_call 24; refine (refNum _ _).mono ?_; rintro e w' ⟨rfl, rfl⟩)
        | (go_at_call 26; refine (heapKnown _).mono ?_; rintro e w9 ⟨rfl, hk9⟩)
        | fail)
      go_ret
      exact ⟨ret_tr (by simp), hk9⟩
end Go.Proofs.Ytonolehmhnfklaa
