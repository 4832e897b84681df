/- Words for the walks: slices of slices, in one spelling. No program is named here. -/
import Derived.Test.YtilhglnfjaablaaLibA
namespace Go.Proofs.Ytilhglnfjaablaa
open Go.RowKit
section
variable {P : Program}
/-- Where a slice of a slice begins. -/
def subA (A : Option Addr) (k c s : Nat) : Option Addr := if c = k then A else A.map fun x => x.add (k * s)
theorem run_sl (w : World) (t e : TypeId) (s : Nat) (ht : P.underlying t = some (.slice e)) (hs : (P.info? e).map (fun i => i.size) = some s) (A : Option Addr) (n c : Nat) (lo hi : Option Value) (l h : Nat)
    (hlo : (lo = none ∧ l = 0) ∨ ∃ k, lo = some (.int k (l : Int))) (hhi : (hi = none ∧ h = n) ∨ ∃ k, hi = some (.int k (h : Int))) (h1 : l ≤ h) (h2 : h ≤ c) :
    (Instr.sliceAt t (.slice A n c) lo hi none).run P w = .ok (.slice (subA A l c s) (h - l) (c - l)) w := by
  obtain ⟨i, hi', hsz⟩ := Option.map_eq_some_iff.1 hs
  subst hsz
  have he : P.elem t = e := by unfold Program.elem; rw [ht]
  have hu : P.underlying t = some (.slice (P.elem t)) := by rw [he, ht]
  have hz : (Go.sizeOf (P.elem t)).run P w = .ok i.size w := by simp [he, Go.sizeOf, typeInfo, hi']
  have e0 : (Instr.sliceAt t (.slice A n c) lo hi none).run P w = (Instr.slice t (.slice A n c) lo hi none).run P w := by
    unfold Instr.sliceAt
    simp [run_underlying ht]
  rw [e0]
  rcases hlo with ⟨rfl, rfl⟩ | ⟨k, rfl⟩ <;> rcases hhi with ⟨rfl, rfl⟩ | ⟨k', rfl⟩
  · rw [run_slice_all w t A h c hu, hz]
    rfl
  · rw [run_slice_h w t A n c hu k' h (by omega) (by omega), hz]
    rfl
  · rw [run_slice_l w t A h c hu k l (by omega) (by omega), hz]
    rfl
  · rw [run_slice_lh w t A n c hu k k' l h (by omega) (by omega) (by omega), hz]
    rfl
theorem wpList_sl {w : World} {ops : Array Oper} {rest : List Oper} {o : Oper} {a : Act} {Q : Exit → Act → World → Prop} (hgd : o.guard = none) (x : Operand) (lo hi : Option Operand) (t e s : Nat)
    (ho : o.op = .slice t x lo hi none) (ht : P.underlying t = some (.slice e)) (hs : (P.info? e).map (fun i => i.size) = some s) (A : Option Addr) (n c : Nat) (hx : a.eval x = .slice A n c) (l h : Nat)
    (hlo : (lo.map a.eval = none ∧ l = 0) ∨ ∃ k, lo.map a.eval = some (.int k (l : Int))) (hhi : (hi.map a.eval = none ∧ h = n) ∨ ∃ k, hi.map a.eval = some (.int k (h : Int))) (h1 : l ≤ h) (h2 : h ≤ c)
    (K : wpList P ops Q rest (a.put o.dst (.slice (subA A l c s) (h - l) (c - l))) w) : wpList P ops Q (o :: rest) a w :=
  wpList_plain hgd fun _ hK => by
    have hr := run_sl (P := P) w t e s ht hs A n c _ _ l h hlo hhi h1 h2
    unfold Oper.wp execOp
    simp only [ho, hx, Option.map_none, hr, Oper.upon, Result.andThen_ok, Sem.run_bind, Sem.run_pure]
    exact hK _ _ K
theorem cells_sub {α : Type} {A : Option Addr} {c s lo hi : Nat} {L : List α} {F : Addr → α → Prop} (h1 : lo ≤ hi) (h2 : hi ≤ L.length) (hL : L.length ≤ c) (h : 0 < L.length → ∃ ad, A = some ad ∧ ∀ (j : Nat) (hj : j < L.length), F (ad.add (j * s)) L[j]) :
    0 < ((L.take hi).drop lo).length → ∃ ad, subA A lo c s = some ad ∧ ∀ (j : Nat) (hj : j < ((L.take hi).drop lo).length), F (ad.add (j * s)) ((L.take hi).drop lo)[j] := by
  intro hp
  simp only [List.length_drop, List.length_take] at hp
  obtain ⟨ad, rfl, hc⟩ := h (by omega)
  refine ⟨ad.add (lo * s), by unfold subA; rw [if_neg (by omega)]; rfl, fun j hj => ?_⟩
  simp only [List.length_drop, List.length_take] at hj
  have := hc (lo + j) (by omega)
  rw [List.getElem_drop, List.getElem_take]
  have e : (ad.add (lo * s)).add (j * s) = ad.add ((lo + j) * s) := by
    rw [Nat.add_mul]
    unfold Addr.add
    (repeat' split) <;> simp_all <;> omega
  rw [e]
  exact this
theorem Bs.sub {w : World} {A : Option Addr} {n c : Nat} {L : List UInt8} (h : Bs w (.slice A n c) L) (lo hi : Nat) (h1 : lo ≤ hi) (h2 : hi ≤ L.length) : Bs w (.slice (subA A lo c 1) (hi - lo) (c - lo)) ((L.take hi).drop lo) := by
  obtain ⟨A', c', e, g1, g2, g3⟩ := h
  injection e with e1 e2 e3
  subst e1 e2 e3
  have hl : ((L.take hi).drop lo).length = hi - lo := by simp only [List.length_drop, List.length_take]; omega
  refine ⟨_, _, by rw [hl], by rw [hl]; omega, by omega, ?_⟩
  have := cells_sub (s := 1) (F := fun a b => w.cell? a = some (bv b)) h1 h2 g1 (fun hp => by simpa using g3 hp)
  simpa using this
/-- A slice of bytes, from there on. -/
theorem slFrom {w : World} {ops : Array Oper} {rest : List Oper} {o : Oper} {a : Act} {Q : Exit → Act → World → Prop} (hgd : o.guard = none) (x lo : Operand) (t e : Nat) (ho : o.op = .slice t x (some lo) none none)
    (ht : P.underlying t = some (.slice e)) (hs : (P.info? e).map (fun i => i.size) = some 1) (v : Value) (L : List UInt8) (hx : a.eval x = v) (hb : Bs w v L) (kk : IntKind) (i : Int) (hlo : a.eval lo = .int kk i) (k : Nat) (hi : i = (k : Int)) (m : Nat) (hm : L.length = k + m)
    (K : ∀ A' c', Bs w (.slice A' m c') (L.drop k) → m ≤ c' → c' ≤ 9223372036854775807 → wpList P ops Q rest (a.put o.dst (.slice A' m c')) w) : wpList P ops Q (o :: rest) a w := by
  have hb0 := hb
  obtain ⟨A, c, rfl, g1, g2, g3⟩ := hb
  subst hi
  refine wpList_sl hgd x (some lo) none t e 1 ho ht hs A L.length c hx k L.length (.inr ⟨kk, by simp [hlo]⟩) (.inl ⟨rfl, rfl⟩) (by omega) g1 ?_
  have hb1 := hb0.sub k L.length (by omega) (Nat.le_refl _)
  rw [List.take_length] at hb1
  rw [show L.length - k = m from by omega] at hb1 ⊢
  exact K _ _ hb1 (by omega) (by omega)
/-- A slice of bytes, so many. -/
theorem slTo {w : World} {ops : Array Oper} {rest : List Oper} {o : Oper} {a : Act} {Q : Exit → Act → World → Prop} (hgd : o.guard = none) (x hi : Operand) (t e : Nat) (ho : o.op = .slice t x none (some hi) none)
    (ht : P.underlying t = some (.slice e)) (hs : (P.info? e).map (fun i => i.size) = some 1) (v : Value) (L : List UInt8) (hx : a.eval x = v) (hb : Bs w v L) (kk : IntKind) (i : Int) (hhi : a.eval hi = .int kk i) (m : Nat) (hi : i = (m : Int)) (hm : m ≤ L.length)
    (K : ∀ A' c', Bs w (.slice A' m c') (L.take m) → m ≤ c' → c' ≤ 9223372036854775807 → wpList P ops Q rest (a.put o.dst (.slice A' m c')) w) : wpList P ops Q (o :: rest) a w := by
  have hb0 := hb
  obtain ⟨A, c, rfl, g1, g2, g3⟩ := hb
  subst hi
  refine wpList_sl hgd x none (some _) t e 1 ho ht hs A L.length c hx 0 m (.inl ⟨rfl, rfl⟩) (.inr ⟨kk, by simp [hhi]⟩) (by omega) (by omega) ?_
  have hb1 := hb0.sub 0 m (by omega) hm
  rw [List.drop_zero] at hb1
  exact K _ _ hb1 (by omega) (by omega)
/-- A slice of bytes, from there to there. -/
theorem slMid {w : World} {ops : Array Oper} {rest : List Oper} {o : Oper} {a : Act} {Q : Exit → Act → World → Prop} (hgd : o.guard = none) (x lo hi : Operand) (t e : Nat) (ho : o.op = .slice t x (some lo) (some hi) none)
    (ht : P.underlying t = some (.slice e)) (hs : (P.info? e).map (fun i => i.size) = some 1) (v : Value) (L : List UInt8) (hx : a.eval x = v) (hb : Bs w v L) (kk kh : IntKind) (i j : Int) (hlo : a.eval lo = .int kk i) (hhi : a.eval hi = .int kh j) (k m : Nat) (hi : i = (k : Int)) (hj : j = ((k + m : Nat) : Int)) (hm : k + m ≤ L.length)
    (K : ∀ A' c', Bs w (.slice A' m c') ((L.drop k).take m) → m ≤ c' → c' ≤ 9223372036854775807 → wpList P ops Q rest (a.put o.dst (.slice A' m c')) w) : wpList P ops Q (o :: rest) a w := by
  have hb0 := hb
  obtain ⟨A, c, rfl, g1, g2, g3⟩ := hb
  subst hi hj
  refine wpList_sl hgd x (some lo) (some _) t e 1 ho ht hs A L.length c hx k (k + m) (.inr ⟨kk, by simp [hlo]⟩) (.inr ⟨kh, by simp [hhi]⟩) (by omega) (by omega) ?_
  have hb1 := hb0.sub k (k + m) (by omega) hm
  rw [show k + m - k = m from by omega] at hb1 ⊢
  rw [List.drop_take, show k + m - k = m from by omega] at hb1
  exact K _ _ hb1 (by omega) (by omega)
end
end Go.Proofs.Ytilhglnfjaablaa
