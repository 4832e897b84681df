/- Plain: programs, their bytes, and bytes read as a program. -/
import Derived.Test.YtcbkklfdeloeeaaCodeH
namespace Go.Proofs.Ytcbkklfdeloeeaa
open Go.RowKit
set_option linter.unusedVariables false
set_option maxRecDepth 100000
namespace Em
/-- A program. -/
structure Prg where
  depth : Int
  funs : List (List (Int × Int))
  strs : List (List UInt8)
def okI (x : Int × Int) : Bool := decide (1 ≤ x.1) && decide (x.1 ≤ 35) && (decide (x.2 = 0) || hasN x.1)
def okF (f : List (Int × Int)) : Bool := decide (f.length ≤ 4000) && f.all okI
def okS (s : List UInt8) : Bool := decide (s.length ≤ 2000)
def okP (p : Prg) : Bool := decide (0 ≤ p.depth) && decide (p.depth ≤ 4) && decide (p.strs.length ≤ 2000) && decide (p.funs.length ≤ 200) && p.strs.all okS && p.funs.all okF
def putI (x : Int × Int) : List UInt8 := UInt8.ofNat (x.1 % 256).toNat :: (if hasN x.1 then putN (zig x.2) else [])
def putF (f : List (Int × Int)) : List UInt8 := putN f.length ++ f.flatMap putI
def putS (s : List UInt8) : List UInt8 := putN s.length ++ s
def putP (p : Prg) : List UInt8 := putN p.depth.toNat ++ putN p.strs.length ++ p.strs.flatMap putS ++ putN p.funs.length ++ p.funs.flatMap putF
def bytesP (p : Prg) : List UInt8 := if okP p then putP p else []
/-- A number that is none too big. -/
def rdC (most : Nat) (l : List UInt8) : Option (Nat × List UInt8) := match getN l with
  | none => none
  | some (v, n) => if most < v then none else some (v, l.drop n)
def rdMany {α : Type} (g : List UInt8 → Option (α × List UInt8)) : Nat → List UInt8 → Option (List α × List UInt8)
  | 0, l => some ([], l)
  | k + 1, l => match g l with
    | none => none
    | some (t, r) => match rdMany g k r with
      | none => none
      | some (ts, r') => some (t :: ts, r')
def rdTx (l : List UInt8) : Option (List UInt8 × List UInt8) := match rdC 2000 l with
  | none => none
  | some (n, r) => if r.length < n then none else some (r.take n, r.drop n)
def rdI : List UInt8 → Option ((Int × Int) × List UInt8)
  | [] => none
  | c :: r => if hasN (c.toNat : Int) then (match getN r with
    | none => none
    | some (v, n) => some (((c.toNat : Int), zag v), r.drop n)) else some (((c.toNat : Int), 0), r)
def rdF (l : List UInt8) : Option (List (Int × Int) × List UInt8) := match rdC 4000 l with
  | none => none
  | some (m, r) => rdMany rdI m r
def rdP (l : List UInt8) : Option (Prg × List UInt8) := match rdC 4 l with
  | none => none
  | some (d, r1) => match rdC 2000 r1 with
    | none => none
    | some (n, r2) => match rdMany rdTx n r2 with
      | none => none
      | some (ss, r3) => match rdC 200 r3 with
        | none => none
        | some (m, r4) => match rdMany rdF m r4 with
          | none => none
          | some (fs, r5) => some (⟨d, fs, ss⟩, r5)
def readP (b : List UInt8) : Option Prg := match rdP b with
  | none => none
  | some (p, r) => if okP p && r.isEmpty then some p else none
end Em
open Em (Prg)
/-! ### what was read is what was put -/
theorem rdC_put {most : Nat} {l r : List UInt8} {v : Nat} (h : Em.rdC most l = some (v, r)) : l = Em.putN v ++ r ∧ v ≤ most := by
  unfold Em.rdC at h
  cases hg : Em.getN l with
  | none => rw [hg] at h; cases h
  | some y =>
    obtain ⟨x, n⟩ := y
    rw [hg] at h
    simp only at h
    split at h
    · cases h
    · injection h with h
      injection h with h1 h2
      subst h1 h2
      exact ⟨Em.get_append hg, by omega⟩
theorem rdMany_put {α : Type} {g : List UInt8 → Option (α × List UInt8)} {put : α → List UInt8} (hg : ∀ l t r, g l = some (t, r) → l = put t ++ r) : ∀ (k : Nat) (l : List UInt8) (ts : List α) (r : List UInt8), Em.rdMany g k l = some (ts, r) → l = ts.flatMap put ++ r ∧ ts.length = k
  | 0, l, ts, r, h => by
    rw [Em.rdMany] at h
    injection h with h
    injection h with h1 h2
    subst h1 h2
    simp
  | k + 1, l, ts, r, h => by
    rw [Em.rdMany] at h
    cases h1 : g l with
    | none => rw [h1] at h; cases h
    | some y =>
      obtain ⟨t, r1⟩ := y
      rw [h1] at h
      simp only at h
      cases h2 : Em.rdMany g k r1 with
      | none => rw [h2] at h; cases h
      | some z =>
        obtain ⟨us, r2⟩ := z
        rw [h2] at h
        simp only at h
        injection h with h
        injection h with e1 e2
        subst e1 e2
        obtain ⟨e3, e4⟩ := rdMany_put hg k r1 us r2 h2
        refine ⟨?_, by simp [e4]⟩
        rw [hg l t r1 h1, e3]
        simp
theorem rdTx_put (l s r : List UInt8) (h : Em.rdTx l = some (s, r)) : l = Em.putS s ++ r := by
  unfold Em.rdTx at h
  cases h1 : Em.rdC 2000 l with
  | none => rw [h1] at h; cases h
  | some y =>
    obtain ⟨n, r1⟩ := y
    rw [h1] at h
    simp only at h
    split at h
    · cases h
    · rename_i hn
      injection h with h
      injection h with e1 e2
      subst e1 e2
      rw [(rdC_put h1).1, Em.putS, List.length_take, Nat.min_eq_left (by omega), List.append_assoc, List.take_append_drop]
theorem rdI_put (l : List UInt8) (x : Int × Int) (r : List UInt8) (h : Em.rdI l = some (x, r)) : l = Em.putI x ++ r := by
  cases l with
  | nil => cases h
  | cons c s =>
    have hc : UInt8.ofNat ((c.toNat : Int) % 256).toNat = c := by
      have := c.toNat_lt
      rw [show ((c.toNat : Int) % 256).toNat = c.toNat by omega]
      simp
    rw [Em.rdI] at h
    split at h
    · rename_i hN
      cases hg : Em.getN s with
      | none => rw [hg] at h; cases h
      | some y =>
        obtain ⟨v, n⟩ := y
        rw [hg] at h
        injection h with h
        injection h with e1 e2
        subst e1 e2
        have hs := Em.get_append hg
        rw [Em.putI]
        simp only [hN, if_true, hc, Em.zig_zag, List.cons_append]
        rw [← hs]
    · rename_i hN
      injection h with h
      injection h with e1 e2
      subst e1 e2
      rw [Em.putI]
      simp [hN, hc]
theorem rdF_put (l : List UInt8) (f : List (Int × Int)) (r : List UInt8) (h : Em.rdF l = some (f, r)) : l = Em.putF f ++ r := by
  unfold Em.rdF at h
  cases h1 : Em.rdC 4000 l with
  | none => rw [h1] at h; cases h
  | some y =>
    obtain ⟨m, r1⟩ := y
    rw [h1] at h
    obtain ⟨e1, e2⟩ := rdMany_put rdI_put m r1 f r h
    rw [(rdC_put h1).1, Em.putF, e2, List.append_assoc, ← e1]
theorem rdP_put {l : List UInt8} {p : Prg} {r : List UInt8} (h : Em.rdP l = some (p, r)) : l = Em.putP p ++ r := by
  unfold Em.rdP at h
  cases h1 : Em.rdC 4 l with
  | none => rw [h1] at h; cases h
  | some y1 =>
    obtain ⟨d, r1⟩ := y1
    rw [h1] at h
    simp only at h
    cases h2 : Em.rdC 2000 r1 with
    | none => rw [h2] at h; cases h
    | some y2 =>
      obtain ⟨n, r2⟩ := y2
      rw [h2] at h
      simp only at h
      cases h3 : Em.rdMany Em.rdTx n r2 with
      | none => rw [h3] at h; cases h
      | some y3 =>
        obtain ⟨ss, r3⟩ := y3
        rw [h3] at h
        simp only at h
        cases h4 : Em.rdC 200 r3 with
        | none => rw [h4] at h; cases h
        | some y4 =>
          obtain ⟨m, r4⟩ := y4
          rw [h4] at h
          simp only at h
          cases h5 : Em.rdMany Em.rdF m r4 with
          | none => rw [h5] at h; cases h
          | some y5 =>
            obtain ⟨fs, r5⟩ := y5
            rw [h5] at h
            simp only at h
            injection h with h
            injection h with e1 e2
            subst e1 e2
            obtain ⟨a1, a2⟩ := rdMany_put rdTx_put n r2 ss r3 h3
            obtain ⟨b1, b2⟩ := rdMany_put rdF_put m r4 fs r5 h5
            rw [(rdC_put h1).1, (rdC_put h2).1, a1, (rdC_put h4).1, b1, Em.putP, a2, b2]
            simp
/-! ### what was put is read -/
theorem rdC_of {most v : Nat} (h : v ≤ most) (hm : most < 18446744073709551616) (r : List UInt8) : Em.rdC most (Em.putN v ++ r) = some (v, r) := by
  rw [Em.rdC, Em.get_put (by omega)]
  simp only
  rw [if_neg (by omega), List.drop_left]
theorem rdMany_of {α : Type} {g : List UInt8 → Option (α × List UInt8)} {put : α → List UInt8} : ∀ (ts : List α) (r : List UInt8), (∀ t ∈ ts, ∀ r, g (put t ++ r) = some (t, r)) → Em.rdMany g ts.length (ts.flatMap put ++ r) = some (ts, r)
  | [], r, h => rfl
  | t :: ts, r, h => by
    rw [List.length_cons, Em.rdMany, List.flatMap_cons, List.append_assoc, h t (by simp)]
    simp only
    rw [rdMany_of ts r fun u hu => h u (by simp [hu])]
theorem rdTx_of (s r : List UInt8) (h : s.length ≤ 2000) : Em.rdTx (Em.putS s ++ r) = some (s, r) := by
  rw [Em.rdTx, Em.putS, List.append_assoc, rdC_of h (by omega)]
  simp only
  rw [if_neg (by simp), List.take_left, List.drop_left]
/-- A number that fits. -/
def In64 (x : Int) : Prop := -9223372036854775808 ≤ x ∧ x ≤ 9223372036854775807
theorem rdI_of (x : Int × Int) (r : List UInt8) (h : Em.okI x = true) (hx : In64 x.2) : Em.rdI (Em.putI x ++ r) = some (x, r) := by
  obtain ⟨o, n⟩ := x
  simp only [Em.okI, Bool.and_eq_true, decide_eq_true_eq, Bool.or_eq_true] at h
  obtain ⟨⟨h1, h2⟩, h3⟩ := h
  have hc : ((UInt8.ofNat (o % 256).toNat).toNat : Int) = o := by
    rw [UInt8.toNat_ofNat', Nat.mod_eq_of_lt (by omega)]
    omega
  rw [Em.putI, List.cons_append]
  rw [Em.rdI]
  simp only [hc]
  cases hN : Em.hasN o with
  | true =>
    simp only [if_true]
    rw [Em.get_put (Em.zig_lt hx.1 hx.2)]
    simp only [List.drop_left, Em.zag_zig]
  | false =>
    have h0 : n = 0 := by
      rcases h3 with h3 | h3
      · exact h3
      · rw [hN] at h3; cases h3
    subst h0
    simp
theorem rdF_of (f : List (Int × Int)) (r : List UInt8) (h : Em.okF f = true) (hx : ∀ x ∈ f, In64 x.2) : Em.rdF (Em.putF f ++ r) = some (f, r) := by
  simp only [Em.okF, Bool.and_eq_true, decide_eq_true_eq, List.all_eq_true] at h
  rw [Em.rdF, Em.putF, List.append_assoc, rdC_of h.1 (by omega)]
  simp only
  exact rdMany_of f r fun t ht r => rdI_of t r (h.2 t ht) (hx t ht)
/-- A program whose numbers fit. -/
def PrgIn (p : Prg) : Prop := ∀ f ∈ p.funs, ∀ x ∈ f, In64 x.2
theorem rdP_of (p : Prg) (r : List UInt8) (h : Em.okP p = true) (hx : PrgIn p) : Em.rdP (Em.putP p ++ r) = some (p, r) := by
  simp only [Em.okP, Bool.and_eq_true, decide_eq_true_eq, List.all_eq_true] at h
  obtain ⟨⟨⟨⟨⟨h1, h2⟩, h3⟩, h4⟩, h5⟩, h6⟩ := h
  rw [Em.rdP, Em.putP, List.append_assoc, List.append_assoc, List.append_assoc, List.append_assoc, rdC_of (by omega) (by omega)]
  simp only
  rw [rdC_of h3 (by omega)]
  simp only
  rw [rdMany_of p.strs _ fun t ht r => rdTx_of t r (by have := h5 t ht; simpa [Em.okS] using this)]
  simp only
  rw [rdC_of h4 (by omega)]
  simp only
  rw [rdMany_of p.funs r fun t ht r => rdF_of t r (h6 t ht) (hx t ht)]
  simp only [Int.toNat_of_nonneg h1]
/-! ### the laws -/
theorem readP_bytes {b : List UInt8} {p : Prg} {r : List UInt8} (h : Em.rdP b = some (p, r)) : decide (Em.bytesP p = b) = (Em.okP p && r.isEmpty) := by
  have hb := rdP_put h
  rw [Bool.eq_iff_iff, decide_eq_true_eq, Bool.and_eq_true, List.isEmpty_iff]
  unfold Em.bytesP
  constructor
  · intro e
    cases hok : Em.okP p with
    | false =>
      rw [hok] at e
      have e : [] = b := e
      subst e
      cases h
    | true =>
      rw [hok] at e
      have e : Em.putP p = b := e
      refine ⟨rfl, ?_⟩
      rw [hb] at e
      have := congrArg List.length e
      simp only [List.length_append] at this
      exact List.eq_nil_of_length_eq_zero (by omega)
  · rintro ⟨h1, h2⟩
    rw [h1, if_pos rfl, hb, h2, List.append_nil]
theorem readP_put (p : Prg) (hx : PrgIn p) : Em.readP (Em.bytesP p) = if Em.okP p then some p else none := by
  unfold Em.bytesP
  cases h : Em.okP p with
  | false => rfl
  | true =>
    have := rdP_of p [] h hx
    rw [List.append_nil] at this
    simp only [if_true]
    rw [Em.readP, this]
    simp [h]
theorem readP_some {b : List UInt8} {p : Prg} (h : Em.readP b = some p) : Em.rdP b = some (p, []) ∧ Em.okP p = true := by
  unfold Em.readP at h
  cases h1 : Em.rdP b with
  | none => rw [h1] at h; cases h
  | some y =>
    obtain ⟨q, r⟩ := y
    rw [h1] at h
    simp only at h
    split at h
    · rename_i hc
      rw [Bool.and_eq_true, List.isEmpty_iff] at hc
      injection h with h
      subst h
      rw [hc.2]
      exact ⟨rfl, hc.1⟩
    · cases h
theorem rdMany_all {α : Type} {g : List UInt8 → Option (α × List UInt8)} {Q : α → Prop} (hg : ∀ l t r, g l = some (t, r) → Q t) : ∀ (k : Nat) (l : List UInt8) (ts : List α) (r : List UInt8), Em.rdMany g k l = some (ts, r) → ∀ t ∈ ts, Q t
  | 0, l, ts, r, h, t, ht => by
    rw [Em.rdMany] at h
    injection h with h
    injection h with h1 h2
    subst h1
    cases ht
  | k + 1, l, ts, r, h, t, ht => by
    rw [Em.rdMany] at h
    cases h1 : g l with
    | none => rw [h1] at h; cases h
    | some y =>
      obtain ⟨t1, r1⟩ := y
      rw [h1] at h
      simp only at h
      cases h2 : Em.rdMany g k r1 with
      | none => rw [h2] at h; cases h
      | some z =>
        obtain ⟨us, r2⟩ := z
        rw [h2] at h
        simp only at h
        injection h with h
        injection h with e1 e2
        subst e1 e2
        rcases List.mem_cons.1 ht with e | e
        · rw [e]; exact hg l t1 r1 h1
        · exact rdMany_all hg k r1 us r2 h2 t e
theorem rdI_in (l : List UInt8) (x : Int × Int) (r : List UInt8) (h : Em.rdI l = some (x, r)) : In64 x.2 := by
  cases l with
  | nil => cases h
  | cons c s =>
    rw [Em.rdI] at h
    split at h
    · cases hg : Em.getN s with
      | none => rw [hg] at h; cases h
      | some y =>
        obtain ⟨v, n⟩ := y
        rw [hg] at h
        injection h with h
        injection h with e1 e2
        subst e1
        exact Em.zag_in (Em.get_some hg).1
    · injection h with h
      injection h with e1 e2
      subst e1
      exact ⟨by simp, by simp⟩
theorem rdP_in {l : List UInt8} {p : Prg} {r : List UInt8} (h : Em.rdP l = some (p, r)) : PrgIn p := by
  unfold Em.rdP at h
  split at h
  · cases h
  · split at h
    · cases h
    · split at h
      · cases h
      · split at h
        · cases h
        · split at h
          · cases h
          · rename_i h5
            injection h with h
            injection h with e1 e2
            subst e1
            intro f hf x hx
            refine rdMany_all (Q := fun f => ∀ x ∈ f, In64 x.2) (fun l f r hF => ?_) _ _ _ _ h5 f hf x hx
            unfold Em.rdF at hF
            split at hF
            · cases hF
            · exact rdMany_all (fun l x r h => rdI_in l x r h) _ _ _ _ hF
/-- A program's bytes cut short are none's. -/
theorem readP_cut (p : Prg) (hok : Em.okP p = true) (hx : PrgIn p) (k : Nat) (hk : k < (Em.putP p).length) : Em.readP ((Em.putP p).take k) = none := by
  cases h : Em.readP ((Em.putP p).take k) with
  | none => rfl
  | some q =>
    exfalso
    obtain ⟨h1, h2⟩ := readP_some h
    have h3 := rdP_put h1
    have h4 : Em.putP p = Em.putP q ++ (Em.putP p).drop k := by
      rw [List.append_nil] at h3
      rw [← h3, List.take_append_drop]
    have h5 := rdP_of q ((Em.putP p).drop k) h2 (rdP_in h1)
    rw [← h4] at h5
    have h6 := rdP_of p [] hok hx
    rw [List.append_nil, h5] at h6
    injection h6 with h6
    injection h6 with e1 e2
    have := congrArg List.length e2
    simp only [List.length_drop, List.length_nil] at this
    omega
/-- Nor are a program's bytes with more behind. -/
theorem readP_more (p : Prg) (hok : Em.okP p = true) (hx : PrgIn p) (c : UInt8) : Em.readP (Em.putP p ++ [c]) = none := by
  rw [Em.readP, rdP_of p [c] hok hx]
  simp
theorem putP_pos (p : Prg) : 0 < (Em.putP p).length := by
  have := Em.putN_pos p.depth.toNat
  simp only [Em.putP, List.length_append]
  omega
end Go.Proofs.Ytcbkklfdeloeeaa
