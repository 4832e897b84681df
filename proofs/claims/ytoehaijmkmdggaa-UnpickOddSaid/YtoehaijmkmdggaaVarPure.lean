/- Plain arithmetic of varints: a number as groups of seven digits, and back. -/
namespace Go.Proofs.Ytoehaijmkmdggaa.Em
def putN (v : Nat) : List UInt8 := if h : v < 128 then [UInt8.ofNat v] else UInt8.ofNat (v % 128 + 128) :: putN (v / 128)
termination_by v
decreasing_by omega
theorem putN_small {v : Nat} (h : v < 128) : putN v = [UInt8.ofNat v] := by rw [putN, dif_pos h]
theorem putN_big {v : Nat} (h : 128 ≤ v) : putN v = UInt8.ofNat (v % 128 + 128) :: putN (v / 128) := by rw [putN, dif_neg (by omega)]
/-- At group k: the number that the rest begins with, and how many bytes it has. -/
def dec : Nat → List UInt8 → Option (Nat × Nat)
  | _, [] => none
  | k, c :: t => if c.toNat < 128 then (if (0 < k ∧ c.toNat = 0) ∨ 9 < k ∨ (k = 9 ∧ 1 < c.toNat) then none else some (c.toNat, 1))
      else (dec (k + 1) t).map fun r => (c.toNat - 128 + 128 * r.1, r.2 + 1)
def getN (b : List UInt8) : Option (Nat × Nat) := dec 0 b
theorem putN_len (v : Nat) : ∀ k, v < 128 ^ (k + 1) → (putN v).length ≤ k + 1 := by
  intro k
  induction k generalizing v with
  | zero => intro h; rw [putN_small (by simpa using h)]; simp
  | succ k ih =>
    intro h
    rcases Nat.lt_or_ge v 128 with h1 | h1
    · rw [putN_small h1]; simp
    · rw [putN_big h1, List.length_cons]
      have := ih (v / 128) (by rw [Nat.div_lt_iff_lt_mul (by omega)]; rw [Nat.pow_succ] at h; exact h)
      omega
theorem putN_len10 {v : Nat} (h : v < 18446744073709551616) : (putN v).length ≤ 10 := putN_len v 9 (by omega)
theorem putN_pos (v : Nat) : 0 < (putN v).length := by
  rcases Nat.lt_or_ge v 128 with h | h
  · rw [putN_small h]; simp
  · rw [putN_big h]; simp
theorem u8_of {n : Nat} (h : n < 256) : (UInt8.ofNat n).toNat = n := by simp [UInt8.toNat_ofNat', Nat.mod_eq_of_lt h]
/-- 'b' times 128 to the k-th stays below 2 to the 64th. -/
theorem dec_put (v : Nat) : ∀ (k : Nat) (t : List UInt8), v * 128 ^ k < 18446744073709551616 → (0 < k → 0 < v) → dec k (putN v ++ t) = some (v, (putN v).length) := by
  induction v using Nat.strongRecOn with
  | _ v ih =>
    intro k t h h0
    rcases Nat.lt_or_ge v 128 with h1 | h1
    · rw [putN_small h1, List.cons_append, List.nil_append, dec, u8_of (by omega), if_pos h1]
      rw [if_neg]
      · simp
      · rintro (⟨h2, h3⟩ | h2 | ⟨rfl, h3⟩)
        · have := h0 h2; omega
        · have h4 : 128 ^ 10 ≤ 128 ^ k := Nat.pow_le_pow_right (by omega) h2
          have h5 : 128 ^ k ≤ v * 128 ^ k := Nat.le_mul_of_pos_left _ (h0 (by omega))
          omega
        · omega
    · rw [putN_big h1, List.cons_append, dec, u8_of (by omega), if_neg (by omega), ih (v / 128) (by omega) (k + 1) t]
      · simp; omega
      · rw [Nat.pow_succ]
        have : v / 128 * (128 ^ k * 128) = v / 128 * 128 * 128 ^ k := by rw [Nat.mul_comm (128 ^ k) 128, Nat.mul_assoc]
        rw [this]
        exact Nat.lt_of_le_of_lt (Nat.mul_le_mul_right _ (Nat.div_mul_le_self v 128)) h
      · intro _; omega
theorem get_put {v : Nat} (h : v < 18446744073709551616) (t : List UInt8) : getN (putN v ++ t) = some (v, (putN v).length) := dec_put v 0 t (by omega) (by omega)
theorem dec_some : ∀ (b : List UInt8) (k v n : Nat), dec k b = some (v, n) → v * 128 ^ k < 18446744073709551616 ∧ (0 < k → 0 < v) ∧ b.take n = putN v ∧ n = (putN v).length ∧ n ≤ b.length := by
  intro b
  induction b with
  | nil => intro k v n h; simp [dec] at h
  | cons c t ih =>
    intro k v n h
    rw [dec] at h
    have hc := c.toNat_lt
    by_cases h1 : c.toNat < 128
    · rw [if_pos h1] at h
      split at h
      · simp at h
      · rename_i h2
        simp only [Option.some.injEq, Prod.mk.injEq] at h
        obtain ⟨rfl, rfl⟩ := h
        refine ⟨?_, fun hk => ?_, ?_, ?_, by simp⟩
        · rcases Nat.lt_or_ge k 9 with hk | hk
          · have h3 : 128 ^ k ≤ 128 ^ 8 := Nat.pow_le_pow_right (by omega) (by omega)
            have h4 := Nat.mul_le_mul (Nat.le_of_lt h1) h3
            omega
          · have hk9 : k = 9 := by omega
            subst hk9
            omega
        · omega
        · rw [putN_small h1]; simp
        · rw [putN_small h1]; simp
    · rw [if_neg h1] at h
      obtain ⟨⟨x, m⟩, hd, he⟩ := Option.map_eq_some_iff.1 h
      simp only [Prod.mk.injEq] at he
      obtain ⟨rfl, rfl⟩ := he
      obtain ⟨i1, i2, i3, i4, i5⟩ := ih _ _ _ hd
      have hx := i2 (by omega)
      have hb : 128 ≤ c.toNat - 128 + 128 * x := by omega
      have e1 : (c.toNat - 128 + 128 * x) % 128 + 128 = c.toNat := by omega
      have e2 : (c.toNat - 128 + 128 * x) / 128 = x := by omega
      refine ⟨?_, fun _ => by omega, ?_, ?_, by simp; omega⟩
      · rw [Nat.pow_succ] at i1
        have h6 : x * (128 ^ k * 128) = 128 * x * 128 ^ k := by rw [Nat.mul_comm (128 ^ k) 128, ← Nat.mul_assoc, Nat.mul_comm x 128]
        rw [h6] at i1
        -- (c - 128 + 128 x) 128^k < (128 x + 128) 128^k ≤ 2^64 as 128^(k+1) divides 2^64 for k ≤ 8
        rcases Nat.lt_or_ge k 9 with hk | hk
        · obtain ⟨j, hj⟩ : ∃ j, k + j = 8 := ⟨8 - k, by omega⟩
          have hp : 18446744073709551616 = 128 ^ k * (128 ^ j * 256) := by
            rw [← Nat.mul_assoc, ← Nat.pow_add, hj]
          have i1' : 128 * x * 128 ^ k < 128 ^ k * (128 ^ j * 256) := by rw [← hp]; exact i1
          rw [Nat.mul_comm (128 * x)] at i1'
          have i2' := Nat.lt_of_mul_lt_mul_left i1'
          have : 128 ^ j * 256 = 128 * (128 ^ j * 2) := by rw [Nat.mul_comm 128, Nat.mul_assoc]
          have i3' : c.toNat - 128 + 128 * x < 128 ^ j * 256 := by omega
          rw [hp, Nat.mul_comm]
          exact Nat.mul_lt_mul_of_pos_left i3' (Nat.pow_pos (by omega))
        · have h3 : 128 ^ 9 ≤ 128 ^ k := Nat.pow_le_pow_right (by omega) hk
          have h4 : 128 * 128 ^ 9 ≤ 128 * x * 128 ^ k := Nat.mul_le_mul (by omega) h3
          omega
      · rw [List.take_succ_cons, i3, putN_big hb, e1, e2]; simp
      · rw [putN_big hb, List.length_cons, e2, i4]
theorem get_some {b : List UInt8} {v n : Nat} (h : getN b = some (v, n)) : v < 18446744073709551616 ∧ b.take n = putN v ∧ n = (putN v).length ∧ n ≤ b.length := by
  obtain ⟨h1, _, h3⟩ := dec_some b 0 v n h
  exact ⟨by simpa using h1, h3⟩
theorem get_append {b : List UInt8} {v n : Nat} (h : getN b = some (v, n)) : b = putN v ++ b.drop n := by
  obtain ⟨_, h2, _⟩ := get_some h
  rw [← h2, List.take_append_drop]
theorem get_none_of {b : List UInt8} (h : ∀ v, v < 18446744073709551616 → ¬ putN v <+: b) : getN b = none := by
  cases hg : getN b with
  | none => rfl
  | some r =>
    obtain ⟨v, n⟩ := r
    exact absurd ⟨_, (get_append hg).symm⟩ (h v (get_some hg).1)
/-! zigs -/
def zig (v : Int) : Nat := if 0 ≤ v then (2 * v).toNat else (-2 * v - 1).toNat
def zag (u : Nat) : Int := if u % 2 = 0 then (u / 2 : Nat) else -((u / 2 : Nat) : Int) - 1
theorem zag_zig (v : Int) : zag (zig v) = v := by unfold zag zig; split <;> split <;> omega
theorem zig_zag (u : Nat) : zig (zag u) = u := by unfold zag zig; split <;> split <;> omega
theorem zig_lt {v : Int} (h1 : -9223372036854775808 ≤ v) (h2 : v ≤ 9223372036854775807) : zig v < 18446744073709551616 := by unfold zig; split <;> omega
theorem zag_in {u : Nat} (h : u < 18446744073709551616) : -9223372036854775808 ≤ zag u ∧ zag u ≤ 9223372036854775807 := by unfold zag; split <;> omega
/-! the first byte below 128 -/
def fidx (l : List UInt8) : Int := match l.findIdx? (fun x => decide (x.toNat < 128)) with
  | some k => (k : Int)
  | none => -1
theorem fidx_at {l : List UInt8} {k : Nat} (h : k < l.length) (hp : ∀ x ∈ l.take k, 128 ≤ x.toNat) (hx : l[k].toNat < 128) : fidx l = (k : Int) := by
  have : l.findIdx? (fun x => decide (x.toNat < 128)) = some k := by
    rw [List.findIdx?_eq_some_iff_getElem]
    refine ⟨h, by simpa using hx, fun j hj => ?_⟩
    have := hp l[j] (by rw [List.mem_take_iff_getElem]; exact ⟨j, by omega, rfl⟩)
    simp only [decide_eq_true_eq]
    omega
  unfold fidx
  rw [this]
theorem fidx_on {l : List UInt8} {k : Nat} (h : k < l.length) (hp : ∀ x ∈ l.take k, 128 ≤ x.toNat) (hx : ¬ l[k].toNat < 128) : ∀ x ∈ l.take (k + 1), 128 ≤ x.toNat := by
  intro x hm
  rw [List.take_succ_eq_append_getElem h, List.mem_append] at hm
  rcases hm with hm | hm
  · exact hp x hm
  · have : x = l[k] := by simpa using hm
    subst this
    omega
theorem fidx_none {l : List UInt8} {k : Nat} (h1 : k ≤ l.length) (h : ¬ k < l.length) (hp : ∀ x ∈ l.take k, 128 ≤ x.toNat) : fidx l = -1 := by
  rw [List.take_of_length_le (by omega)] at hp
  have : l.findIdx? (fun x => decide (x.toNat < 128)) = none := by
    rw [List.findIdx?_eq_none_iff]
    intro x hx
    have := hp x hx
    simp only [decide_eq_false_iff_not]
    omega
  unfold fidx
  rw [this]
/-- The number of groups. -/
def val : List UInt8 → Nat
  | [] => 0
  | c :: t => c.toNat % 128 + 128 * val t
theorem val_snoc (p : List UInt8) (c : UInt8) : val (p ++ [c]) = val p + c.toNat % 128 * 128 ^ p.length := by
  induction p with
  | nil => simp [val]
  | cons d p ih =>
    simp only [List.cons_append, val, ih, List.length_cons, Nat.pow_succ]
    rw [Nat.mul_add, Nat.add_assoc]
    congr 2
    rw [← Nat.mul_assoc, Nat.mul_comm 128, Nat.mul_assoc, Nat.mul_comm 128]
theorem val_lt (p : List UInt8) : val p < 128 ^ p.length := by
  induction p with
  | nil => simp [val]
  | cons d p ih =>
    simp only [val, List.length_cons, Nat.pow_succ]
    omega
theorem dec_at : ∀ (l : List UInt8) (j k : Nat) (h : k < l.length), (∀ x ∈ l.take k, 128 ≤ x.toNat) → l[k].toNat < 128 →
    dec j l = if (0 < j + k ∧ l[k].toNat = 0) ∨ 9 < j + k ∨ (j + k = 9 ∧ 1 < l[k].toNat) then none else some (val (l.take (k + 1)), k + 1) := by
  intro l
  induction l with
  | nil => intro j k h; simp at h
  | cons c t ih =>
    intro j k h hp hx
    cases k with
    | zero =>
      simp only [List.getElem_cons_zero] at hx ⊢
      rw [dec, if_pos hx]
      simp only [Nat.add_zero]
      split
      · rfl
      · simp [val]; omega
    | succ k =>
      simp only [List.getElem_cons_succ] at hx ⊢
      have hc := hp c (by simp)
      rw [dec, if_neg (by omega), ih (j + 1) k (by simpa using h) (fun x hm => hp x (by rw [List.take_succ_cons]; exact List.mem_cons_of_mem _ hm)) hx]
      rw [show j + 1 + k = j + (k + 1) from by omega]
      split
      · rfl
      · have := c.toNat_lt
        simp [val]
        omega
theorem dec_all : ∀ (l : List UInt8) (j : Nat), (∀ x ∈ l, 128 ≤ x.toNat) → dec j l = none := by
  intro l
  induction l with
  | nil => intro j _; rfl
  | cons c t ih =>
    intro j hp
    have hc := hp c (by simp)
    rw [dec, if_neg (by omega), ih (j + 1) (fun x hx => hp x (List.mem_cons_of_mem _ hx))]
    rfl
/-- The or of a group onto those below it. -/
theorem or_add (v x i : Nat) (hv : v < 128 ^ i) : v ||| x * 128 ^ i = v + x * 128 ^ i := by
  have e : 128 ^ i = 2 ^ (7 * i) := by rw [Nat.pow_mul]
  rw [e] at hv ⊢
  rw [Nat.or_comm, ← Nat.shiftLeft_eq, ← Nat.shiftLeft_add_eq_or_of_lt hv, Nat.add_comm]
end Go.Proofs.Ytoehaijmkmdggaa.Em
