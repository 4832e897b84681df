/- Walks: the vars of a type (package typ, and the reference). -/
import Derived.Test.YtoippbbodhchkaaDoorTyS
namespace Go.Proofs.YtoippbbodhchkaaDoor
open Go.RowKit
open Em (Ty)
set_option linter.unusedVariables false
set_option maxRecDepth 100000
theorem tyInfoI : (Tryd.prog.info? 3).map (fun i => (i.zero, i.size, i.bytes)) = some (some (.int .i64 0), 1, 8) := by kernel_rfl
theorem place_at {l : List Int} {n : Int} {j : Nat} (hj : j < l.length) (h : ∀ x ∈ l.take j, x ≠ n) (e : l[j] = n) : Em.place l n = (j : Int) := by
  unfold Em.place
  have : l.idxOf? n = some j := by
    rw [List.idxOf?, List.findIdx?_eq_some_iff_getElem]
    refine ⟨hj, by simpa using e, fun i hi => ?_⟩
    have := h l[i] (by rw [List.mem_take_iff_getElem]; exact ⟨i, by omega, rfl⟩)
    simpa using this
  rw [this]
theorem place_no {l : List Int} {n : Int} (h : ∀ x ∈ l, x ≠ n) : Em.place l n = -1 := by
  unfold Em.place
  have : l.idxOf? n = none := by
    rw [List.idxOf?_eq_none_iff]
    exact fun hm => h n hm rfl
  rw [this]
theorem place_mem (l : List Int) (n : Int) : decide (0 ≤ Em.place l n) = decide (n ∈ l) := by
  unfold Em.place
  cases h : l.idxOf? n with
  | none =>
    rw [List.idxOf?_eq_none_iff] at h
    simp [h]
  | some i =>
    have : n ∈ l := by
      have := List.idxOf?_eq_none_iff (l := l) (a := n)
      exact Classical.byContradiction fun hn => by rw [this.2 hn] at h; cases h
    simp [this]
theorem tyIndex (l : List Int) (n : Int) (w : World) (v : Value) (h : Is w v l) : Calls Tryd.prog 64 #[v, .int .i64 n] w fun e w' => e = .returned (.int .i64 (Em.place l n)) ∧ w = w' := by
  obtain ⟨A, c, rfl, hlc, hcm, hr⟩ := h
  simp only [List.length_map] at hlc hr ⊢
  go_enter Tryd.func64, Tryd.ntmps64
  go_wp2
  go_loop [5, 8] (fun _ i => ∃ k : Nat, k ≤ l.length ∧ i = .int .i64 k ∧ ∀ x ∈ l.take k, x ≠ n) (fun _ i => l.length - (intOf i).toNat)
  case atStart => exact ⟨0, Nat.zero_le _, rfl, by simp⟩
  case round =>
    obtain ⟨k, hk, rfl, hp⟩ := hrel
    have hP := hide hp
    clear hp
    by_cases hlt : k < l.length
    · obtain ⟨ad, rfl, hcell⟩ := hr (by omega)
      have hc := hcell k hlt
      simp only [List.getElem_map] at hc
      clear hcell hr
      by_cases hx : l[k] = n
      · have hf := hide (place_at hlt hP.out hx)
        have hxb : (n == l[k]) = true := by simp [hx]
        clear hx
        go_wp2
        go_ret
        exact ⟨ret_int (by rw [hf.out]), rfl⟩
      · have hxb : (n == l[k]) = false := by simpa using fun e => hx e.symm
        have hn : ∀ x ∈ l.take (k + 1), x ≠ n := by
          intro x hm
          rw [List.take_succ_eq_append_getElem hlt] at hm
          rcases List.mem_append.1 hm with hm | hm
          · exact hP.out x hm
          · rw [List.mem_singleton.1 hm]; exact hx
        have HN := hide hn
        clear hx hn
        go_wp2
        go_round
        case rel => exact ⟨k + 1, by omega, by go_num, HN.out⟩
        case measure => simp [intOf]; omega
    · have hf := hide (place_no (l := l) (n := n) (by have := hP.out; rwa [List.take_of_length_le (by omega)] at this))
      go_wp2
      go_ret
      exact ⟨ret_int (by rw [hf.out]), rfl⟩
theorem tyContains (l : List Int) (n : Int) (w : World) (v : Value) (h : Is w v l) : Calls Tryd.prog 62 #[v, .int .i64 n] w fun e w' => e = .returned (.bool (decide (n ∈ l))) ∧ w = w' := by
  have H := tyIndex l n w v h
  have hm := place_mem l n
  generalize Em.place l n = p at H hm
  have HM := hide hm
  clear hm
  obtain ⟨A, c, rfl, _⟩ := h
  simp only [List.length_map] at H ⊢
  go_enter Tryd.func62, Tryd.ntmps62
  go_wp2_with fail
  refine H.mono ?_
  rintro e w' ⟨rfl, rfl⟩
  clear H
  go_wp2
  go_ret
  exact ⟨by rw [← HM.out]; rfl, rfl⟩
theorem refHas (l : List Int) (n : Int) (w : World) (v : Value) (h : Is w v l) : Calls Tryd.prog 63 #[v, .int .i64 n] w fun e w' => e = .returned (.bool (decide (n ∈ l))) ∧ w = w' := by
  obtain ⟨A, c, rfl, hlc, hcm, hr⟩ := h
  simp only [List.length_map] at hlc hr ⊢
  go_enter Tryd.func63, Tryd.ntmps63
  go_wp2
  go_loop [5] (fun i => ∃ k : Nat, k ≤ l.length ∧ i = .int .i64 k ∧ ∀ x ∈ l.take k, x ≠ n) (fun i => l.length - (intOf i).toNat)
  case atStart => exact ⟨0, Nat.zero_le _, rfl, by simp⟩
  case round =>
    obtain ⟨k, hk, rfl, hp⟩ := hrel
    have hP := hide hp
    clear hp
    by_cases hlt : k < l.length
    · obtain ⟨ad, rfl, hcell⟩ := hr (by omega)
      have hc := hcell k hlt
      simp only [List.getElem_map] at hc
      clear hcell hr
      by_cases hx : l[k] = n
      · have hf := hide (show n ∈ l from by rw [← hx]; exact List.getElem_mem hlt)
        have hxb : (l[k] == n) = true := by simp [hx]
        clear hx
        go_wp2
        go_ret
        exact ⟨by rw [decide_eq_true hf.out]; rfl, rfl⟩
      · have hxb : (l[k] == n) = false := by simpa using hx
        have hn : ∀ x ∈ l.take (k + 1), x ≠ n := by
          intro x hm
          rw [List.take_succ_eq_append_getElem hlt] at hm
          rcases List.mem_append.1 hm with hm | hm
          · exact hP.out x hm
          · rw [List.mem_singleton.1 hm]; exact hx
        have HN := hide hn
        clear hx hn
        go_wp2
        go_round
        case rel => exact ⟨k + 1, by omega, by go_num, HN.out⟩
        case measure => simp [intOf]; omega
    · have hf := hide (show ¬ n ∈ l from fun hm => by have := hP.out; rw [List.take_of_length_le (by omega)] at this; exact this n hm rfl)
      go_wp2
      go_ret
      exact ⟨by rw [decide_eq_false hf.out]; rfl, rfl⟩
end Go.Proofs.YtoippbbodhchkaaDoor
