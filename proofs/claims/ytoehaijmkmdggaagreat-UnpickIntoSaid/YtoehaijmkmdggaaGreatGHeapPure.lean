/- Plain: a heap of words as the row of its blocks. Plain arithmetic of varints: a number as groups of seven digits, and back. Plain: types as trees. -/

set_option linter.unusedSimpArgs false
set_option linter.unusedVariables false
namespace Go.Proofs.YtoehaijmkmdggaaGreat.Em
/-- A heap's blocks, in order: tag, fields. -/
abbrev Hp := List (Int × List Int)
/-- How many words are used. -/
def used : Hp → Nat
  | [] => 0
  | b :: t => 1 + b.2.length + used t
/-- Which block begins at n, if the first one begins at s. -/
def idxF : Nat → Hp → Int → Option Nat
  | _, [], _ => none
  | s, b :: t, n => if n = 2 * (s : Int) then some 0 else (idxF (s + (1 + b.2.length)) t n).map (· + 1)
def idx (H : Hp) (n : Int) : Option Nat := idxF 0 H n
theorem used_append (H G : Hp) : used (H ++ G) = used H + used G := by
  induction H with
  | nil => simp [used]
  | cons b t ih => simp only [List.cons_append, used, ih]; omega
theorem idxF_lt {s : Nat} {H : Hp} {n : Int} {i : Nat} (h : idxF s H n = some i) : i < H.length ∧ 2 * (s : Int) ≤ n ∧ n < 2 * ((s + used H : Nat) : Int) ∧ n % 2 = 0 := by
  induction H generalizing s i with
  | nil => simp [idxF] at h
  | cons b t ih =>
    rw [idxF] at h
    split at h
    · injection h with h
      subst h
      simp only [List.length_cons, used]
      omega
    · obtain ⟨j, hj, rfl⟩ := Option.map_eq_some_iff.1 h
      have := ih hj
      simp only [List.length_cons, used]
      omega
theorem idx_lt {H : Hp} {n : Int} {i : Nat} (h : idx H n = some i) : i < H.length := (idxF_lt h).1
theorem idxF_end {s : Nat} {H : Hp} {b : Int × List Int} {n : Int} (h : n = 2 * ((s + used H : Nat) : Int)) : idxF s (H ++ [b]) n = some H.length := by
  induction H generalizing s with
  | nil =>
    simp only [used, Nat.add_zero] at h
    simp only [List.nil_append, idxF, List.length_nil]
    rw [if_pos h]
  | cons c t ih =>
    simp only [used] at h
    simp only [List.cons_append, idxF, List.length_cons]
    rw [if_neg (by omega), ih (by rw [h]; omega)]
    rfl
theorem idxF_not {s : Nat} {H : Hp} {b : Int × List Int} {n : Int} (h : n ≠ 2 * ((s + used H : Nat) : Int)) : idxF s (H ++ [b]) n = idxF s H n := by
  induction H generalizing s with
  | nil =>
    simp only [used, Nat.add_zero] at h
    simp only [List.nil_append, idxF]
    rw [if_neg h]
    rfl
  | cons c t ih =>
    simp only [used] at h
    simp only [List.cons_append, idxF]
    rw [ih (by omega)]
theorem idx_append {H : Hp} {b : Int × List Int} {n : Int} : idx (H ++ [b]) n = if n = 2 * (used H : Int) then some H.length else idx H n := by
  unfold idx
  by_cases h : n = 2 * (used H : Int)
  · rw [if_pos h, idxF_end (by rw [Nat.zero_add]; exact h)]
  · rw [if_neg h, idxF_not (by rw [Nat.zero_add]; exact h)]
theorem idx_new (H : Hp) : idx H (2 * (used H : Int)) = none := by
  cases h : idx H (2 * (used H : Int)) with
  | none => rfl
  | some i =>
    have := idxF_lt h
    omega
/-- A heap of the same shape has its blocks at the same words. -/
theorem idxF_shape {s : Nat} {H G : Hp} {n : Int} (h : H.map (fun b => b.2.length) = G.map (fun b => b.2.length)) : idxF s H n = idxF s G n := by
  induction H generalizing s G with
  | nil =>
    cases G with
    | nil => rfl
    | cons c u => simp at h
  | cons b t ih =>
    cases G with
    | nil => simp at h
    | cons c u =>
      simp only [List.map_cons, List.cons.injEq] at h
      rw [idxF, idxF, ih h.2, h.1]
theorem used_shape {H G : Hp} (h : H.map (fun b => b.2.length) = G.map (fun b => b.2.length)) : used H = used G := by
  induction H generalizing G with
  | nil =>
    cases G with
    | nil => rfl
    | cons c u => simp at h
  | cons b t ih =>
    cases G with
    | nil => simp at h
    | cons c u =>
      simp only [List.map_cons, List.cons.injEq] at h
      rw [used, used, ih h.2, h.1]
/-- The block at a word; none: tag 0, no fields. -/
def blk (H : Hp) (n : Int) : Int × List Int := match idx H n with
  | some i => H.getD i (0, [])
  | none => (0, [])
def setF (H : Hp) (i : Nat) (k : Nat) (v : Int) : Hp := H.modify i fun b => (b.1, b.2.set k v)
theorem setF_shape (H : Hp) (i k : Nat) (v : Int) : (setF H i k v).map (fun b => b.2.length) = H.map (fun b => b.2.length) := by
  unfold setF
  apply List.ext_getElem?
  intro j
  simp only [List.getElem?_map, List.getElem?_modify]
  cases H[j]? with
  | none => rfl
  | some b => by_cases h : i = j <;> simp [h]
/-- What Alloc does: the word, the heap. -/
def alloc (sz : Nat) (H : Hp) (tag : Int) (fs : List Int) : Option (Int × Hp) :=
  if tag < 1 ∨ 8 < tag ∨ (sz : Int) - used H < 1 + fs.length then none else some (2 * (used H : Int), H ++ [(tag, fs)])
def put (H : Hp) (n : Int) (i : Int) (v : Int) : Option Hp := match idx H n with
  | some b => if i < 0 ∨ ((blk H n).2.length : Int) ≤ i then none else some (setF H b i.toNat v)
  | none => none
end Go.Proofs.YtoehaijmkmdggaaGreat.Em
namespace Go.Proofs.YtoehaijmkmdggaaGreat.Em
def putN (v : Nat) : List UInt8 := if h : v < 128 then [UInt8.ofNat v] else UInt8.ofNat (v % 128 + 128) :: putN (v / 128)
termination_by v
decreasing_by omega
theorem putN_small {v : Nat} (h : v < 128) : putN v = [UInt8.ofNat v] := by rw [putN, dif_pos h]
theorem putN_big {v : Nat} (h : 128 ≤ v) : putN v = UInt8.ofNat (v % 128 + 128) :: putN (v / 128) := by rw [putN, dif_neg (by omega)]
/-- At group k: the number that the rest begins with, and how many bytes it has. -/
def dec : Nat → List UInt8 → Option (Nat × Nat)
  | _, [] => none
  | k, c :: t => if c.toNat < 128 then (if (0 < k ∧ c.toNat = 0) ∨ 9 < k ∨ (k = 9 ∧ 1 < c.toNat) then none else some (c.toNat, 1))
      else (dec (k + 1) t).map fun r => (c.toNat - 128 + 128 * r.1, r.2 + 1)
def getN (b : List UInt8) : Option (Nat × Nat) := dec 0 b
theorem putN_len (v : Nat) : ∀ k, v < 128 ^ (k + 1) → (putN v).length ≤ k + 1 := by
  intro k
  induction k generalizing v with
  | zero => intro h; rw [putN_small (by simpa using h)]; simp
  | succ k ih =>
    intro h
    rcases Nat.lt_or_ge v 128 with h1 | h1
    · rw [putN_small h1]; simp
    · rw [putN_big h1, List.length_cons]
      have := ih (v / 128) (by rw [Nat.div_lt_iff_lt_mul (by omega)]; rw [Nat.pow_succ] at h; exact h)
      omega
theorem putN_len10 {v : Nat} (h : v < 18446744073709551616) : (putN v).length ≤ 10 := putN_len v 9 (by omega)
theorem putN_pos (v : Nat) : 0 < (putN v).length := by
  rcases Nat.lt_or_ge v 128 with h | h
  · rw [putN_small h]; simp
  · rw [putN_big h]; simp
theorem u8_of {n : Nat} (h : n < 256) : (UInt8.ofNat n).toNat = n := by simp [UInt8.toNat_ofNat', Nat.mod_eq_of_lt h]
/-- 'b' times 128 to the k-th stays below 2 to the 64th. -/
theorem dec_put (v : Nat) : ∀ (k : Nat) (t : List UInt8), v * 128 ^ k < 18446744073709551616 → (0 < k → 0 < v) → dec k (putN v ++ t) = some (v, (putN v).length) := by
  induction v using Nat.strongRecOn with
  | _ v ih =>
    intro k t h h0
    rcases Nat.lt_or_ge v 128 with h1 | h1
    · rw [putN_small h1, List.cons_append, List.nil_append, dec, u8_of (by omega), if_pos h1]
      rw [if_neg]
      · simp
      · rintro (⟨h2, h3⟩ | h2 | ⟨rfl, h3⟩)
        · have := h0 h2; omega
        · have h4 : 128 ^ 10 ≤ 128 ^ k := Nat.pow_le_pow_right (by omega) h2
          have h5 : 128 ^ k ≤ v * 128 ^ k := Nat.le_mul_of_pos_left _ (h0 (by omega))
          omega
        · omega
    · rw [putN_big h1, List.cons_append, dec, u8_of (by omega), if_neg (by omega), ih (v / 128) (by omega) (k + 1) t]
      · simp; omega
      · rw [Nat.pow_succ]
        have : v / 128 * (128 ^ k * 128) = v / 128 * 128 * 128 ^ k := by rw [Nat.mul_comm (128 ^ k) 128, Nat.mul_assoc]
        rw [this]
        exact Nat.lt_of_le_of_lt (Nat.mul_le_mul_right _ (Nat.div_mul_le_self v 128)) h
      · intro _; omega
theorem get_put {v : Nat} (h : v < 18446744073709551616) (t : List UInt8) : getN (putN v ++ t) = some (v, (putN v).length) := dec_put v 0 t (by omega) (by omega)
theorem dec_some : ∀ (b : List UInt8) (k v n : Nat), dec k b = some (v, n) → v * 128 ^ k < 18446744073709551616 ∧ (0 < k → 0 < v) ∧ b.take n = putN v ∧ n = (putN v).length ∧ n ≤ b.length := by
  intro b
  induction b with
  | nil => intro k v n h; simp [dec] at h
  | cons c t ih =>
    intro k v n h
    rw [dec] at h
    have hc := c.toNat_lt
    by_cases h1 : c.toNat < 128
    · rw [if_pos h1] at h
      split at h
      · simp at h
      · rename_i h2
        simp only [Option.some.injEq, Prod.mk.injEq] at h
        obtain ⟨rfl, rfl⟩ := h
        refine ⟨?_, fun hk => ?_, ?_, ?_, by simp⟩
        · rcases Nat.lt_or_ge k 9 with hk | hk
          · have h3 : 128 ^ k ≤ 128 ^ 8 := Nat.pow_le_pow_right (by omega) (by omega)
            have h4 := Nat.mul_le_mul (Nat.le_of_lt h1) h3
            omega
          · have hk9 : k = 9 := by omega
            subst hk9
            omega
        · omega
        · rw [putN_small h1]; simp
        · rw [putN_small h1]; simp
    · rw [if_neg h1] at h
      obtain ⟨⟨x, m⟩, hd, he⟩ := Option.map_eq_some_iff.1 h
      simp only [Prod.mk.injEq] at he
      obtain ⟨rfl, rfl⟩ := he
      obtain ⟨i1, i2, i3, i4, i5⟩ := ih _ _ _ hd
      have hx := i2 (by omega)
      have hb : 128 ≤ c.toNat - 128 + 128 * x := by omega
      have e1 : (c.toNat - 128 + 128 * x) % 128 + 128 = c.toNat := by omega
      have e2 : (c.toNat - 128 + 128 * x) / 128 = x := by omega
      refine ⟨?_, fun _ => by omega, ?_, ?_, by simp; omega⟩
      · rw [Nat.pow_succ] at i1
        have h6 : x * (128 ^ k * 128) = 128 * x * 128 ^ k := by rw [Nat.mul_comm (128 ^ k) 128, ← Nat.mul_assoc, Nat.mul_comm x 128]
        rw [h6] at i1
        -- (c - 128 + 128 x) 128^k < (128 x + 128) 128^k ≤ 2^64 as 128^(k+1) divides 2^64 for k ≤ 8
        rcases Nat.lt_or_ge k 9 with hk | hk
        · obtain ⟨j, hj⟩ : ∃ j, k + j = 8 := ⟨8 - k, by omega⟩
          have hp : 18446744073709551616 = 128 ^ k * (128 ^ j * 256) := by
            rw [← Nat.mul_assoc, ← Nat.pow_add, hj]
          have i1' : 128 * x * 128 ^ k < 128 ^ k * (128 ^ j * 256) := by rw [← hp]; exact i1
          rw [Nat.mul_comm (128 * x)] at i1'
          have i2' := Nat.lt_of_mul_lt_mul_left i1'
          have : 128 ^ j * 256 = 128 * (128 ^ j * 2) := by rw [Nat.mul_comm 128, Nat.mul_assoc]
          have i3' : c.toNat - 128 + 128 * x < 128 ^ j * 256 := by omega
          rw [hp, Nat.mul_comm]
          exact Nat.mul_lt_mul_of_pos_left i3' (Nat.pow_pos (by omega))
        · have h3 : 128 ^ 9 ≤ 128 ^ k := Nat.pow_le_pow_right (by omega) hk
          have h4 : 128 * 128 ^ 9 ≤ 128 * x * 128 ^ k := Nat.mul_le_mul (by omega) h3
          omega
      · rw [List.take_succ_cons, i3, putN_big hb, e1, e2]; simp
      · rw [putN_big hb, List.length_cons, e2, i4]
theorem get_some {b : List UInt8} {v n : Nat} (h : getN b = some (v, n)) : v < 18446744073709551616 ∧ b.take n = putN v ∧ n = (putN v).length ∧ n ≤ b.length := by
  obtain ⟨h1, _, h3⟩ := dec_some b 0 v n h
  exact ⟨by simpa using h1, h3⟩
theorem get_append {b : List UInt8} {v n : Nat} (h : getN b = some (v, n)) : b = putN v ++ b.drop n := by
  obtain ⟨_, h2, _⟩ := get_some h
  rw [← h2, List.take_append_drop]
/-! zigs -/
def zag (u : Nat) : Int := if u % 2 = 0 then (u / 2 : Nat) else -((u / 2 : Nat) : Int) - 1
/-! the first byte below 128 -/
def fidx (l : List UInt8) : Int := match l.findIdx? (fun x => decide (x.toNat < 128)) with
  | some k => (k : Int)
  | none => -1
theorem fidx_at {l : List UInt8} {k : Nat} (h : k < l.length) (hp : ∀ x ∈ l.take k, 128 ≤ x.toNat) (hx : l[k].toNat < 128) : fidx l = (k : Int) := by
  have : l.findIdx? (fun x => decide (x.toNat < 128)) = some k := by
    rw [List.findIdx?_eq_some_iff_getElem]
    refine ⟨h, by simpa using hx, fun j hj => ?_⟩
    have := hp l[j] (by rw [List.mem_take_iff_getElem]; exact ⟨j, by omega, rfl⟩)
    simp only [decide_eq_true_eq]
    omega
  unfold fidx
  rw [this]
theorem fidx_on {l : List UInt8} {k : Nat} (h : k < l.length) (hp : ∀ x ∈ l.take k, 128 ≤ x.toNat) (hx : ¬ l[k].toNat < 128) : ∀ x ∈ l.take (k + 1), 128 ≤ x.toNat := by
  intro x hm
  rw [List.take_succ_eq_append_getElem h, List.mem_append] at hm
  rcases hm with hm | hm
  · exact hp x hm
  · have : x = l[k] := by simpa using hm
    subst this
    omega
theorem fidx_none {l : List UInt8} {k : Nat} (h1 : k ≤ l.length) (h : ¬ k < l.length) (hp : ∀ x ∈ l.take k, 128 ≤ x.toNat) : fidx l = -1 := by
  rw [List.take_of_length_le (by omega)] at hp
  have : l.findIdx? (fun x => decide (x.toNat < 128)) = none := by
    rw [List.findIdx?_eq_none_iff]
    intro x hx
    have := hp x hx
    simp only [decide_eq_false_iff_not]
    omega
  unfold fidx
  rw [this]
/-- The number of groups. -/
def val : List UInt8 → Nat
  | [] => 0
  | c :: t => c.toNat % 128 + 128 * val t
theorem val_snoc (p : List UInt8) (c : UInt8) : val (p ++ [c]) = val p + c.toNat % 128 * 128 ^ p.length := by
  induction p with
  | nil => simp [val]
  | cons d p ih =>
    simp only [List.cons_append, val, ih, List.length_cons, Nat.pow_succ]
    rw [Nat.mul_add, Nat.add_assoc]
    congr 2
    rw [← Nat.mul_assoc, Nat.mul_comm 128, Nat.mul_assoc, Nat.mul_comm 128]
theorem val_lt (p : List UInt8) : val p < 128 ^ p.length := by
  induction p with
  | nil => simp [val]
  | cons d p ih =>
    simp only [val, List.length_cons, Nat.pow_succ]
    omega
theorem dec_at : ∀ (l : List UInt8) (j k : Nat) (h : k < l.length), (∀ x ∈ l.take k, 128 ≤ x.toNat) → l[k].toNat < 128 →
    dec j l = if (0 < j + k ∧ l[k].toNat = 0) ∨ 9 < j + k ∨ (j + k = 9 ∧ 1 < l[k].toNat) then none else some (val (l.take (k + 1)), k + 1) := by
  intro l
  induction l with
  | nil => intro j k h; simp at h
  | cons c t ih =>
    intro j k h hp hx
    cases k with
    | zero =>
      simp only [List.getElem_cons_zero] at hx ⊢
      rw [dec, if_pos hx]
      simp only [Nat.add_zero]
      split
      · rfl
      · simp [val]; omega
    | succ k =>
      simp only [List.getElem_cons_succ] at hx ⊢
      have hc := hp c (by simp)
      rw [dec, if_neg (by omega), ih (j + 1) k (by simpa using h) (fun x hm => hp x (by rw [List.take_succ_cons]; exact List.mem_cons_of_mem _ hm)) hx]
      rw [show j + 1 + k = j + (k + 1) from by omega]
      split
      · rfl
      · have := c.toNat_lt
        simp [val]
        omega
theorem dec_all : ∀ (l : List UInt8) (j : Nat), (∀ x ∈ l, 128 ≤ x.toNat) → dec j l = none := by
  intro l
  induction l with
  | nil => intro j _; rfl
  | cons c t ih =>
    intro j hp
    have hc := hp c (by simp)
    rw [dec, if_neg (by omega), ih (j + 1) (fun x hx => hp x (List.mem_cons_of_mem _ hx))]
    rfl
/-- The or of a group onto those below it. -/
theorem or_add (v x i : Nat) (hv : v < 128 ^ i) : v ||| x * 128 ^ i = v + x * 128 ^ i := by
  have e : 128 ^ i = 2 ^ (7 * i) := by rw [Nat.pow_mul]
  rw [e] at hv ⊢
  rw [Nat.or_comm, ← Nat.shiftLeft_eq, ← Nat.shiftLeft_add_eq_or_of_lt hv, Nat.add_comm]
end Go.Proofs.YtoehaijmkmdggaaGreat.Em
namespace Go.Proofs.YtoehaijmkmdggaaGreat.Em
/-- A type: Op, number, kids. -/
inductive Ty where
  | mk (op : List UInt8) (n : Int) (kids : List Ty)
namespace Ty
def op : Ty → List UInt8 | mk o _ _ => o
def n : Ty → Int | mk _ n _ => n
def kids : Ty → List Ty | mk _ _ k => k
end Ty
/-- The words. -/
def wInt : List UInt8 := [105, 110, 116]
def wBool : List UInt8 := [98, 111, 111, 108]
def wUnit : List UInt8 := [117, 110, 105, 116]
def wString : List UInt8 := [115, 116, 114, 105, 110, 103]
def wCell : List UInt8 := [99, 101, 108, 108]
def wVar : List UInt8 := [118, 97, 114]
def wList : List UInt8 := [108, 105, 115, 116]
def wRef : List UInt8 := [114, 101, 102]
def wPair : List UInt8 := [112, 97, 105, 114]
def wFun : List UInt8 := [102, 117, 110]
/-- How many kids an Op has; below 0: there is no such. -/
def kidsOf (o : List UInt8) : Int :=
  if o = wInt ∨ o = wBool ∨ o = wUnit ∨ o = wString ∨ o = wCell ∨ o = wVar then 0
  else if o = wList ∨ o = wRef then 1
  else if o = wPair ∨ o = wFun then 2
  else -1
mutual
/-- How many nodes, but no more than so many. -/
def sz (most : Int) : Ty → Int
  | .mk _ _ ks => szL most 1 ks
def szL (most : Int) (m : Int) : List Ty → Int
  | [] => m
  | k :: ks => if m ≥ most then m else szL most (m + sz (most - m) k) ks
end
mutual
/-- Is each node what its Op says? -/
def okT : Ty → Bool
  | .mk o n ks => !(decide ((ks.length : Int) ≠ kidsOf o) || decide (n < 0) || (decide (o ≠ wVar) && decide (n ≠ 0))) && okL ks
def okL : List Ty → Bool
  | [] => true
  | k :: ks => okT k && okL ks
end
/-- Is it a type? -/
def isT (t : Ty) : Bool := decide (sz 2001 t ≤ 2000) && okT t
mutual
/-- Are two types one? -/
def eqT : Ty → Ty → Bool
  | .mk o n ks, .mk o' n' ks' => decide (o = o') && decide (n = n') && eqL ks ks'
def eqL : List Ty → List Ty → Bool
  | [], [] => true
  | k :: ks, k' :: ks' => eqT k k' && eqL ks ks'
  | _, _ => false
end
mutual
/-- Has it no var and no fun? -/
def sentT : Ty → Bool
  | .mk o _ ks => decide (o ≠ wVar) && decide (o ≠ wFun) && sentL ks
def sentL : List Ty → Bool
  | [] => true
  | k :: ks => sentT k && sentL ks
end
theorem szL_ge (most m : Int) (ks : List Ty) (h : m ≥ most) : szL most m ks = m := by
  cases ks with
  | nil => rfl
  | cons k ks => simp [szL, h]
theorem szL_cons (most m : Int) (k : Ty) (ks : List Ty) (h : m < most) : szL most m (k :: ks) = szL most (m + sz (most - m) k) ks := by
  rw [szL, if_neg (by omega)]
mutual
theorem sz_le (most : Int) (t : Ty) (h : 1 ≤ most) : 1 ≤ sz most t ∧ sz most t ≤ most := by
  cases t with
  | mk o n ks =>
    rw [sz]
    exact ⟨szL_lo most 1 ks, szL_le most 1 ks h⟩
theorem szL_le (most m : Int) (ks : List Ty) (h : m ≤ most) : szL most m ks ≤ most := by
  cases ks with
  | nil => simpa [szL] using h
  | cons k ks =>
    rw [szL]
    split
    · exact h
    · have := sz_le (most - m) k (by omega)
      exact szL_le most _ ks (by omega)
theorem szL_lo (most m : Int) (ks : List Ty) : m ≤ szL most m ks := by
  cases ks with
  | nil => simp [szL]
  | cons k ks =>
    rw [szL]
    split
    · exact Int.le_refl _
    · have := sz_le (most - m) k (by omega)
      have := szL_lo most (m + sz (most - m) k) ks
      omega
end
mutual
theorem eqT_eq (a b : Ty) (h : eqT a b = true) : a = b := by
  cases a with
  | mk o n ks =>
    cases b with
    | mk o' n' ks' =>
      simp only [eqT, Bool.and_eq_true, decide_eq_true_eq] at h
      obtain ⟨⟨rfl, rfl⟩, h⟩ := h
      rw [eqL_eq ks ks' h]
theorem eqL_eq (a b : List Ty) (h : eqL a b = true) : a = b := by
  cases a with
  | nil =>
    cases b with
    | nil => rfl
    | cons k ks => simp [eqL] at h
  | cons k ks =>
    cases b with
    | nil => simp [eqL] at h
    | cons k' ks' =>
      simp only [eqL, Bool.and_eq_true] at h
      rw [eqT_eq k k' h.1, eqL_eq ks ks' h.2]
end
/-- What a node alone owes. -/
def oddN (o : List UInt8) (n : Int) (m : Nat) : Bool := decide ((m : Int) ≠ kidsOf o) || decide (n < 0) || (decide (o ≠ wVar) && decide (n ≠ 0))
theorem okL_all (ks : List Ty) : okL ks = !(ks.any fun k => !okT k) := by
  induction ks with
  | nil => rfl
  | cons k ks ih => simp only [okL, ih, List.any_cons, Bool.not_or, Bool.not_not]
theorem okT_of (t : Ty) : okT t = (!oddN t.op t.n t.kids.length && !(t.kids.any fun k => !okT k)) := by
  cases t with
  | mk o n ks =>
    rw [okT, okL_all]
    rfl
theorem sentL_all (ks : List Ty) : sentL ks = !(ks.any fun k => !sentT k) := by
  induction ks with
  | nil => rfl
  | cons k ks ih => simp only [sentL, ih, List.any_cons, Bool.not_or, Bool.not_not]
theorem sentT_of (t : Ty) : sentT t = (decide (t.op ≠ wVar) && decide (t.op ≠ wFun) && !(t.kids.any fun k => !sentT k)) := by
  cases t with
  | mk o n ks => rw [sentT, sentL_all]; rfl
theorem eqT_of (a b : Ty) : eqT a b = (decide (a.op = b.op) && decide (a.n = b.n) && eqL a.kids b.kids) := by
  cases a; cases b; rfl
theorem eqL_len (a b : List Ty) (h : a.length ≠ b.length) : eqL a b = false := by
  cases hh : eqL a b with
  | false => rfl
  | true => rw [eqL_eq a b hh] at h; exact (h rfl).elim
theorem eqL_drop {a b : List Ty} {j : Nat} (h1 : j < a.length) (h2 : j < b.length) : eqL (a.drop j) (b.drop j) = (eqT a[j] b[j] && eqL (a.drop (j + 1)) (b.drop (j + 1))) := by
  rw [List.drop_eq_getElem_cons h1, List.drop_eq_getElem_cons h2]
  rfl
end Go.Proofs.YtoehaijmkmdggaaGreat.Em
