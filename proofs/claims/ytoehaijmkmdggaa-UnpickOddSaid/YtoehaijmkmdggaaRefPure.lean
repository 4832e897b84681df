/- Plain: the reference's heap: of each word which block begins there. -/
import Derived.Test.YtoehaijmkmdggaaHeapPure
namespace Go.Proofs.Ytoehaijmkmdggaa.Em
/-- Of each word: which block begins there, and one; 0: none. -/
def ats : Nat → Hp → List Int
  | _, [] => []
  | s, b :: t => ((s : Int) + 1) :: (List.replicate b.2.length 0 ++ ats (s + 1) t)
theorem ats_length (s : Nat) (H : Hp) : (ats s H).length = used H := by
  induction H generalizing s with
  | nil => rfl
  | cons b t ih => simp only [ats, List.length_cons, List.length_append, List.length_replicate, ih, used]; omega
theorem ats_append (s : Nat) (H : Hp) (b : Int × List Int) : ats s (H ++ [b]) = ats s H ++ (((s + H.length : Nat) : Int) + 1) :: List.replicate b.2.length 0 := by
  induction H generalizing s with
  | nil => simp [ats]
  | cons c t ih =>
    simp only [List.cons_append, ats, ih, List.append_assoc, List.length_cons]
    rw [show s + 1 + t.length = s + (t.length + 1) from by omega]
theorem ats_idx (s p : Nat) (H : Hp) (k : Nat) (hk : k < used H) : (ats s H)[k]? = some (match idxF p H (2 * ((p + k : Nat) : Int)) with
    | some i => ((s + i : Nat) : Int) + 1
    | none => 0) := by
  induction H generalizing s p k with
  | nil => simp [used] at hk
  | cons b t ih =>
    simp only [ats, idxF]
    rcases Nat.eq_zero_or_pos k with rfl | h0
    · simp
    · rw [if_neg (by omega)]
      rw [List.getElem?_cons, if_neg (by omega)]
      by_cases h1 : k - 1 < b.2.length
      · rw [List.getElem?_append_left (by simpa using h1)]
        rw [List.getElem?_replicate, if_pos h1]
        have : idxF (p + (1 + b.2.length)) t (2 * ((p + k : Nat) : Int)) = none := by
          cases hq : idxF (p + (1 + b.2.length)) t (2 * ((p + k : Nat) : Int)) with
          | none => rfl
          | some i =>
            have := idxF_lt hq
            omega
        rw [this]
        rfl
      · rw [List.getElem?_append_right (by simpa using Nat.le_of_not_lt h1), List.length_replicate]
        simp only [used] at hk
        rw [ih (s + 1) (p + (1 + b.2.length)) (k - 1 - b.2.length) (by omega)]
        rw [show p + (1 + b.2.length) + (k - 1 - b.2.length) = p + k from by omega]
        cases idxF (p + (1 + b.2.length)) t (2 * ((p + k : Nat) : Int)) with
        | none => rfl
        | some i =>
          simp only [Option.map_some]
          rw [show ((s + 1 + i : Nat) : Int) = ((s + (i + 1) : Nat) : Int) from by omega]
/-- Which block, below 0: none. -/
def blkI (H : Hp) (n : Int) : Int := match idx H n with
  | some i => (i : Int)
  | none => -1
theorem blkI_ats {H : Hp} {k : Nat} (hk : k < used H) : ∃ a : Int, (ats 0 H)[k]? = some a ∧ a - 1 = blkI H (2 * (k : Int)) := by
  have h := ats_idx 0 0 H k hk
  simp only [Nat.zero_add] at h
  unfold blkI idx
  cases hq : idxF 0 H (2 * (k : Int)) with
  | none => rw [hq] at h; exact ⟨0, h, rfl⟩
  | some i =>
    rw [hq] at h
    refine ⟨_, h, ?_⟩
    show ((i : Int) + 1) - 1 = (i : Int)
    omega
theorem blkI_no {H : Hp} {n : Int} (h : n % 2 = 1 ∨ n < 0 ∨ 2 * (used H : Int) ≤ n) : blkI H n = -1 := by
  unfold blkI
  cases hq : idx H n with
  | none => rfl
  | some i =>
    have := idxF_lt hq
    simp only [Nat.zero_add] at this
    omega
theorem blk_of {H : Hp} {n : Int} : (0 ≤ blkI H n ∧ ∃ (i : Nat) (h : i < H.length), blkI H n = (i : Int) ∧ blk H n = H[i] ∧ idx H n = some i) ∨ (blkI H n = -1 ∧ blk H n = (0, []) ∧ idx H n = none) := by
  unfold blkI blk
  cases hq : idx H n with
  | none => exact .inr ⟨rfl, rfl, rfl⟩
  | some i =>
    have := idx_lt hq
    refine .inl ⟨by simp only; omega, i, this, rfl, ?_, rfl⟩
    simp [List.getD_eq_getElem?_getD, this]
end Go.Proofs.Ytoehaijmkmdggaa.Em
