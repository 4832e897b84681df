/- Plain: so many blocks may be, no more. -/
import Derived.Test.YtoehaijmkmdggaaRdP
namespace Go.Proofs.Ytoehaijmkmdggaa
set_option linter.unusedVariables false
namespace Em
abbrev tyLU : Ty := .mk wList 0 [.mk wUnit 0 []]
theorem get_one (r : List UInt8) : getN (1 :: r) = some (1, 1) := by
  unfold getN
  rw [dec]
  simp
theorem get_zero (r : List UInt8) : getN (0 :: r) = some (0, 1) := by
  unfold getN
  rw [dec]
  simp
theorem unit_val (f : Nat) (s : Rd) : valP (f + 1) (.mk wUnit 0 []) s = .ok (true, 0) s := by
  rw [valP, if_pos (.inr (.inr rfl))]
  unfold immP
  exact if_pos rfl
theorem listU_no : ¬ isPl (Ty.op tyLU) := by decide
theorem listU_kids : kidsT tyLU = [.mk wUnit 0 [], tyLU] := rfl
theorem many : ∀ (m f : Nat) (s : Rd), s.b = List.replicate m 1 ++ [0] → s.bl.length ≤ 2000 → 2000 - s.bl.length < f →
    (s.bl.length + m ≤ 2000 → ∃ x s', valP f tyLU s = .ok x s' ∧ s'.b = [] ∧ s'.bl.length = s.bl.length + m) ∧ (2000 < s.bl.length + m → valP f tyLU s = .err 7)
  | m, 0, s, hb, hl, hf => absurd hf (Nat.not_lt_zero _)
  | 0, f + 1, s, hb, hl, hf => by
    refine ⟨fun _ => ⟨(true, 0), ⟨[], s.bl, s.ty⟩, ?_, rfl, rfl⟩, fun h => by omega⟩
    have hn : numP s = .ok 0 ⟨[], s.bl, s.ty⟩ := by
      unfold numP
      rw [hb]
      rw [show List.replicate 0 (1 : UInt8) ++ [0] = 0 :: [] from rfl, get_zero]
      rfl
    rw [valP, if_neg listU_no, hn]
    exact (if_pos (show Ty.op tyLU = wList from rfl)).trans (if_pos rfl)
  | m + 1, f + 1, s, hb, hl, hf => by
    have hn : numP s = .ok 1 ⟨List.replicate m 1 ++ [0], s.bl, s.ty⟩ := by
      unfold numP
      rw [hb]
      rw [show List.replicate (m + 1) (1 : UInt8) ++ [0] = 1 :: (List.replicate m 1 ++ [0]) from rfl, get_one]
      rfl
    have h1 : valP (f + 1) tyLU s = blkP (valP f) tyLU ⟨List.replicate m 1 ++ [0], s.bl, s.ty⟩ := by
      rw [valP, if_neg listU_no, hn]
      exact (if_pos (show Ty.op tyLU = wList from rfl)).trans ((if_neg (show ¬ (1 : Nat) = 0 by decide)).trans (if_pos rfl))
    rw [h1]
    unfold blkP
    by_cases h2 : s.bl.length = 2000
    · rw [if_pos (show (Rd.mk (List.replicate m 1 ++ [0]) s.bl s.ty).bl.length = 2000 from h2)]
      exact ⟨fun h => by omega, fun _ => rfl⟩
    · rw [if_neg (show ¬ (Rd.mk (List.replicate m 1 ++ [0]) s.bl s.ty).bl.length = 2000 from h2), if_neg (by decide), listU_kids]
      obtain ⟨g, rfl⟩ : ∃ g, f = g + 1 := ⟨f - 1, by omega⟩
      rw [kidsA, unit_val]
      simp only []
      have hp : (Rd.push ⟨List.replicate m 1 ++ [0], s.bl, s.ty⟩ tyLU).bl.length = s.bl.length + 1 := by simp [Rd.push]
      obtain ⟨i1, i2⟩ := many m (g + 1) (Rd.push ⟨List.replicate m 1 ++ [0], s.bl, s.ty⟩ tyLU) rfl (by omega) (by omega)
      rw [hp] at i1 i2
      rw [kidsA]
      refine ⟨fun h => ?_, fun h => ?_⟩
      · obtain ⟨x, s', e, e1, e2⟩ := i1 (by omega)
        rw [e]
        simp only [kidsA]
        exact ⟨_, _, rfl, e1, by simp only [List.length_modify]; omega⟩
      · rw [i2 (by omega)]
theorem listU_ok : (isT tyLU && sentT tyLU) = true := by decide
theorem graph_many (n : Nat) (h : n < 4000) : ∃ g c, graphP (List.replicate n 1 ++ [0]) tyLU = (g, c) ∧ (n ≤ 2000 → c = 0 ∧ g.blocks.length = n) ∧ (2000 < n → c = 7) := by
  obtain ⟨i1, i2⟩ := many n 2001 ⟨List.replicate n 1 ++ [0], [], []⟩ rfl (by simp) (by simp)
  simp only [List.length_nil, Nat.zero_add] at i1 i2
  unfold graphP
  rw [if_pos listU_ok, if_neg (by simp; omega)]
  by_cases h2 : n ≤ 2000
  · obtain ⟨x, s', e, e1, e2⟩ := i1 h2
    rw [e]
    simp only []
    rw [if_pos e1]
    exact ⟨_, _, rfl, fun _ => ⟨rfl, e2⟩, fun h => by omega⟩
  · rw [i2 (by omega)]
    exact ⟨_, _, rfl, fun h => by omega, fun _ => rfl⟩
end Em
end Go.Proofs.Ytoehaijmkmdggaa
