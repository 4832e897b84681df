/- Plain: a heap of words as the row of its blocks. -/
namespace Go.Proofs.Ytoehaijmkmdggaa.Em
/-- A heap's blocks, in order: tag, fields. -/
abbrev Hp := List (Int × List Int)
/-- How many words are used. -/
def used : Hp → Nat
  | [] => 0
  | b :: t => 1 + b.2.length + used t
/-- Which block begins at n, if the first one begins at s. -/
def idxF : Nat → Hp → Int → Option Nat
  | _, [], _ => none
  | s, b :: t, n => if n = 2 * (s : Int) then some 0 else (idxF (s + (1 + b.2.length)) t n).map (· + 1)
def idx (H : Hp) (n : Int) : Option Nat := idxF 0 H n
theorem used_append (H G : Hp) : used (H ++ G) = used H + used G := by
  induction H with
  | nil => simp [used]
  | cons b t ih => simp only [List.cons_append, used, ih]; omega
theorem idxF_lt {s : Nat} {H : Hp} {n : Int} {i : Nat} (h : idxF s H n = some i) : i < H.length ∧ 2 * (s : Int) ≤ n ∧ n < 2 * ((s + used H : Nat) : Int) ∧ n % 2 = 0 := by
  induction H generalizing s i with
  | nil => simp [idxF] at h
  | cons b t ih =>
    rw [idxF] at h
    split at h
    · injection h with h
      subst h
      simp only [List.length_cons, used]
      omega
    · obtain ⟨j, hj, rfl⟩ := Option.map_eq_some_iff.1 h
      have := ih hj
      simp only [List.length_cons, used]
      omega
theorem idx_lt {H : Hp} {n : Int} {i : Nat} (h : idx H n = some i) : i < H.length := (idxF_lt h).1
theorem idxF_end {s : Nat} {H : Hp} {b : Int × List Int} {n : Int} (h : n = 2 * ((s + used H : Nat) : Int)) : idxF s (H ++ [b]) n = some H.length := by
  induction H generalizing s with
  | nil =>
    simp only [used, Nat.add_zero] at h
    simp only [List.nil_append, idxF, List.length_nil]
    rw [if_pos h]
  | cons c t ih =>
    simp only [used] at h
    simp only [List.cons_append, idxF, List.length_cons]
    rw [if_neg (by omega), ih (by rw [h]; omega)]
    rfl
theorem idxF_not {s : Nat} {H : Hp} {b : Int × List Int} {n : Int} (h : n ≠ 2 * ((s + used H : Nat) : Int)) : idxF s (H ++ [b]) n = idxF s H n := by
  induction H generalizing s with
  | nil =>
    simp only [used, Nat.add_zero] at h
    simp only [List.nil_append, idxF]
    rw [if_neg h]
    rfl
  | cons c t ih =>
    simp only [used] at h
    simp only [List.cons_append, idxF]
    rw [ih (by omega)]
theorem idx_append {H : Hp} {b : Int × List Int} {n : Int} : idx (H ++ [b]) n = if n = 2 * (used H : Int) then some H.length else idx H n := by
  unfold idx
  by_cases h : n = 2 * (used H : Int)
  · rw [if_pos h, idxF_end (by rw [Nat.zero_add]; exact h)]
  · rw [if_neg h, idxF_not (by rw [Nat.zero_add]; exact h)]
theorem idx_new (H : Hp) : idx H (2 * (used H : Int)) = none := by
  cases h : idx H (2 * (used H : Int)) with
  | none => rfl
  | some i =>
    have := idxF_lt h
    omega
/-- A heap of the same shape has its blocks at the same words. -/
theorem idxF_shape {s : Nat} {H G : Hp} {n : Int} (h : H.map (fun b => b.2.length) = G.map (fun b => b.2.length)) : idxF s H n = idxF s G n := by
  induction H generalizing s G with
  | nil =>
    cases G with
    | nil => rfl
    | cons c u => simp at h
  | cons b t ih =>
    cases G with
    | nil => simp at h
    | cons c u =>
      simp only [List.map_cons, List.cons.injEq] at h
      rw [idxF, idxF, ih h.2, h.1]
theorem used_shape {H G : Hp} (h : H.map (fun b => b.2.length) = G.map (fun b => b.2.length)) : used H = used G := by
  induction H generalizing G with
  | nil =>
    cases G with
    | nil => rfl
    | cons c u => simp at h
  | cons b t ih =>
    cases G with
    | nil => simp at h
    | cons c u =>
      simp only [List.map_cons, List.cons.injEq] at h
      rw [used, used, ih h.2, h.1]
/-- The block at a word; none: tag 0, no fields. -/
def blk (H : Hp) (n : Int) : Int × List Int := match idx H n with
  | some i => H.getD i (0, [])
  | none => (0, [])
def setF (H : Hp) (i : Nat) (k : Nat) (v : Int) : Hp := H.modify i fun b => (b.1, b.2.set k v)
theorem setF_shape (H : Hp) (i k : Nat) (v : Int) : (setF H i k v).map (fun b => b.2.length) = H.map (fun b => b.2.length) := by
  unfold setF
  apply List.ext_getElem?
  intro j
  simp only [List.getElem?_map, List.getElem?_modify]
  cases H[j]? with
  | none => rfl
  | some b => by_cases h : i = j <;> simp [h]
/-- What Alloc does: the word, the heap. -/
def alloc (sz : Nat) (H : Hp) (tag : Int) (fs : List Int) : Option (Int × Hp) :=
  if tag < 1 ∨ 8 < tag ∨ (sz : Int) - used H < 1 + fs.length then none else some (2 * (used H : Int), H ++ [(tag, fs)])
def field (H : Hp) (n : Int) (i : Int) : Option Int := if i < 0 then none else (blk H n).2[i.toNat]?
def put (H : Hp) (n : Int) (i : Int) (v : Int) : Option Hp := match idx H n with
  | some b => if i < 0 ∨ ((blk H n).2.length : Int) ≤ i then none else some (setF H b i.toNat v)
  | none => none
end Go.Proofs.Ytoehaijmkmdggaa.Em
