/- Plain arithmetic of sum: the two sums of chapter 2 as folds over bytes. -/
namespace Go.Proofs.Ytcbkklfdeloeeaa.Em
def adA (c : UInt8) (a : Nat) : Nat := (a + c.toNat) % 65521
def adStep (s : Nat × Nat) (c : UInt8) : Nat × Nat := ((s.1 + c.toNat) % 65521, (s.2 + (s.1 + c.toNat) % 65521) % 65521)
def ad (l : List UInt8) : Nat × Nat := l.foldl adStep (1, 0)
def adler (l : List UInt8) : Nat := (ad l).2 * 65536 + (ad l).1
def mkStep (h : Nat) (c : UInt8) : Nat := ((h ^^^ c.toNat) * 1099511628211) % 18446744073709551616
def h0 : Nat := 14695981039346656037
theorem h0_lt : h0 < 18446744073709551616 := by unfold h0; omega
def mark (l : List UInt8) : Nat := l.foldl mkStep h0

theorem adStep_lt (s : Nat × Nat) (c : UInt8) : (adStep s c).1 < 65521 ∧ (adStep s c).2 < 65521 :=
  ⟨Nat.mod_lt _ (by omega), Nat.mod_lt _ (by omega)⟩
theorem adf_lt (l : List UInt8) : ∀ s : Nat × Nat, s.1 < 65521 → s.2 < 65521 → (l.foldl adStep s).1 < 65521 ∧ (l.foldl adStep s).2 < 65521 := by
  induction l with
  | nil => intro s h1 h2; exact ⟨h1, h2⟩
  | cons c l ih => intro s _ _; exact ih _ (adStep_lt s c).1 (adStep_lt s c).2
theorem ad_lt (l : List UInt8) : (ad l).1 < 65521 ∧ (ad l).2 < 65521 := adf_lt l _ (by decide) (by decide)
theorem adler_lt (l : List UInt8) : adler l < 4294967296 := by
  have := ad_lt l; unfold adler; omega
theorem adler_low (l : List UInt8) : adler l % 65536 = (ad l).1 := by
  have := ad_lt l; unfold adler; omega
theorem adler_high (l : List UInt8) : adler l / 65536 = (ad l).2 := by
  have := ad_lt l; unfold adler; omega
theorem ad_snoc (l : List UInt8) (c : UInt8) : ad (l ++ [c]) = adStep (ad l) c := by simp [ad]
theorem mkStep_lt (h : Nat) (c : UInt8) : mkStep h c < 18446744073709551616 := by unfold mkStep; omega
theorem mkf_lt (l : List UInt8) : ∀ h, h < 18446744073709551616 → l.foldl mkStep h < 18446744073709551616 := by
  induction l with
  | nil => intro h hh; exact hh
  | cons c l ih => intro h _; exact ih _ (mkStep_lt h c)
theorem mark_lt (l : List UInt8) : mark l < 18446744073709551616 := mkf_lt l _ h0_lt
theorem mark_snoc (l : List UInt8) (c : UInt8) : mark (l ++ [c]) = mkStep (mark l) c := by
  unfold mark; rw [List.foldl_append, List.foldl_cons, List.foldl_nil]

/-! one byte turned -/
theorem adf_ne (l : List UInt8) : ∀ s t : Nat × Nat, s.1 < 65521 → t.1 < 65521 → s.1 ≠ t.1 → (l.foldl adStep s).1 ≠ (l.foldl adStep t).1 := by
  induction l with
  | nil => intro s t _ _ h; exact h
  | cons c l ih =>
    intro s t hs ht h
    refine ih _ _ (adStep_lt s c).1 (adStep_lt t c).1 ?_
    have := c.toNat_lt
    simp only [adStep]; omega
theorem ad_turn (p q : List UInt8) (c d : UInt8) (h : c ≠ d) : (ad (p ++ c :: q)).1 ≠ (ad (p ++ d :: q)).1 := by
  have hp := ad_lt p
  unfold ad at hp ⊢
  rw [List.foldl_append, List.foldl_append, List.foldl_cons, List.foldl_cons]
  refine adf_ne q _ _ (adStep_lt _ c).1 (adStep_lt _ d).1 ?_
  have h1 := c.toNat_lt
  have h2 := d.toNat_lt
  have h3 : c.toNat ≠ d.toNat := fun e => h (UInt8.toNat_inj.1 e)
  simp only [adStep]; omega
theorem adler_turn (p q : List UInt8) (c d : UInt8) (h : c ≠ d) : adler (p ++ c :: q) ≠ adler (p ++ d :: q) := by
  intro e
  exact ad_turn p q c d h (by rw [← adler_low, ← adler_low, e])
theorem inv_mod (z : Nat) (hz : z < 18446744073709551616) : ((z * 1099511628211) % 18446744073709551616 * 14886173955864302971) % 18446744073709551616 = z := by
  rw [Nat.mod_mul_mod, Nat.mul_assoc]
  have e : 1099511628211 * 14886173955864302971 = 887285111055 * 18446744073709551616 + 1 := by rfl
  rw [e]; omega
theorem mul_inj (x y : Nat) (hx : x < 18446744073709551616) (hy : y < 18446744073709551616) (h : (x * 1099511628211) % 18446744073709551616 = (y * 1099511628211) % 18446744073709551616) : x = y := by
  have h1 := inv_mod x hx
  rw [h, inv_mod y hy] at h1
  exact h1.symm
theorem xor_inj (a b c : Nat) (h : a ^^^ c = b ^^^ c) : a = b := by
  have : a ^^^ c ^^^ c = b ^^^ c ^^^ c := by rw [h]
  simpa [Nat.xor_assoc] using this
theorem xor_inj' (a c d : Nat) (h : a ^^^ c = a ^^^ d) : c = d := by
  rw [Nat.xor_comm a c, Nat.xor_comm a d] at h; exact xor_inj _ _ _ h
theorem xor_lt (h : Nat) (c : UInt8) (hh : h < 18446744073709551616) : h ^^^ c.toNat < 18446744073709551616 :=
  Nat.xor_lt_two_pow (n := 64) hh (Nat.lt_trans c.toNat_lt (by omega))
theorem mkf_ne (l : List UInt8) : ∀ s t : Nat, s < 18446744073709551616 → t < 18446744073709551616 → s ≠ t → l.foldl mkStep s ≠ l.foldl mkStep t := by
  induction l with
  | nil => intro s t _ _ h; exact h
  | cons c l ih =>
    intro s t hs ht h
    refine ih _ _ (mkStep_lt s c) (mkStep_lt t c) (fun e => h ?_)
    exact xor_inj _ _ _ (mul_inj _ _ (xor_lt s c hs) (xor_lt t c ht) e)
theorem mark_turn (p q : List UInt8) (c d : UInt8) (h : c ≠ d) : mark (p ++ c :: q) ≠ mark (p ++ d :: q) := by
  have hp := mark_lt p
  unfold mark at hp ⊢
  rw [List.foldl_append, List.foldl_append, List.foldl_cons, List.foldl_cons]
  refine mkf_ne q _ _ (mkStep_lt _ c) (mkStep_lt _ d) (fun e => h ?_)
  have := mul_inj _ _ (xor_lt _ c hp) (xor_lt _ d hp) e
  exact UInt8.toNat_inj.1 (xor_inj' _ _ _ this)
end Go.Proofs.Ytcbkklfdeloeeaa.Em
