/- Both clients alike: what a call, a tick, a take, pending leave, said at once; an act that came in. -/
import Derived.Test.YtcbkklfdeloeeaaCliV
import Derived.Test.YtcbkklfdeloeeaaCliT
import Derived.Test.YtcbkklfdeloeeaaLibN
import Derived.Test.YtcbkklfdeloeeaaLibR
import Derived.Test.YtcbkklfdeloeeaaRowLib
namespace Go.Proofs.Ytcbkklfdeloeeaa
open Go.ChangeShapes Go.WideShapes Go.RowKit
set_option linter.unusedVariables false
set_option maxRecDepth 100000
theorem cliCall (w : World) (p : Nat) (c : Cl) (hs : c.s < 1000000) (hm : c.m < 18446744073709551616) (v : Value) (l : List UInt8) (hv : Bs w v l) (hl : l.length ≤ 100000) (h : CRep 103 w p c) : Calls Try.prog 34 #[.pointer (some ⟨p, 0, none⟩), v] w (RetC 103 w p (callC c l) (callO c l)) := by
  cases hp : c.p with
  | true =>
    have ho : callO c l = none := by unfold callO; rw [if_pos hp]
    rw [callC_none ho, ho]
    exact cliCall_pending w p c hp v h
  | false => exact cliCall_free w p c hp hs hm v l hv hl h
theorem ref26Call (w : World) (p : Nat) (c : Cl) (hs : c.s < 1000000) (hm : c.m < 18446744073709551616) (v : Value) (l : List UInt8) (hv : Bs w v l) (hl : l.length ≤ 100000) (h : CRep 67 w p c) : Calls Try.prog 40 #[.pointer (some ⟨p, 0, none⟩), v] w (RetC 67 w p (callC c l) (callO c l)) := by
  cases hp : c.p with
  | true =>
    have ho : callO c l = none := by unfold callO; rw [if_pos hp]
    rw [callC_none ho, ho]
    exact ref26Call_pending w p c hp hs hm v l hv hl h
  | false => exact ref26Call_free w p c hp hs hm v l hv hl h
theorem RetC.all {tt : Nat} {w : World} {p : Nat} {c : Cl} {o : Option (List UInt8)} {e : Ending} {w' : World} (h : RetC tt w p c o e w') : Frm (· = p) w w' ∧ CRep tt w' p c ∧ ∃ A k, e = .returned (.tuple #[.slice A (o.getD []).length k, .bool o.isSome]) ∧ Bs w' (.slice A (o.getD []).length k) (o.getD []) := by
  obtain ⟨h1, h2, h3⟩ := h
  refine ⟨h1, h2, ?_⟩
  cases o with
  | none => exact ⟨none, 0, h3, Bs.nil _⟩
  | some l =>
    obtain ⟨A, n, k, rfl, hb⟩ := h3
    obtain rfl : n = l.length := by obtain ⟨_, _, e, _⟩ := hb; cases e; rfl
    exact ⟨A, k, rfl, hb⟩
/-- What a reply says, or nothing. -/
def tE (o : Option ((Nat × Nat) × Nat × List UInt8)) : Nat × Nat × Nat × List UInt8 := match o with
  | none => (0, 0, 0, [])
  | some ((a, b), x, r) => (a, b, x, r)
theorem RetT.all {tt : Nat} {w : World} {p : Nat} {c : Cl} {o : Option ((Nat × Nat) × Nat × List UInt8)} {e : Ending} {w' : World} (h : RetT tt w p c o e w') : Frm (· = p) w w' ∧ CRep tt w' p c ∧ ∃ A k, e = .returned (.tuple #[.agg #[.int .i64 ((tE o).1 : Int), .int .i64 ((tE o).2.1 : Int), .int .i64 ((tE o).2.2.1 : Int), .slice A (tE o).2.2.2.length k], .bool o.isSome]) ∧ Bs w' (.slice A (tE o).2.2.2.length k) (tE o).2.2.2 := by
  obtain ⟨h1, h2, h3⟩ := h
  refine ⟨h1, h2, ?_⟩
  cases o with
  | none => exact ⟨none, 0, h3, Bs.nil _⟩
  | some r =>
    obtain ⟨⟨a, b⟩, x, r⟩ := r
    obtain ⟨A, n, k, rfl, hb⟩ := h3
    obtain rfl : n = r.length := by obtain ⟨_, _, e, _⟩ := hb; cases e; rfl
    exact ⟨A, k, rfl, hb⟩
def pE (c : Cl) : Int := if c.p = true then (c.e : Int) else 0
def pS (c : Cl) : Int := if c.p = true then (c.s : Int) else 0
theorem RetP.all {w : World} {c : Cl} {e : Ending} {w' : World} (h : RetP w c e w') : Keep w w' ∧ e = .returned (.tuple #[.agg #[.int .i64 (pE c), .int .i64 (pS c)], .bool c.p]) := by
  obtain ⟨k, rfl⟩ := h
  refine ⟨k, ?_⟩
  unfold pE pS
  cases c.p <;> rfl
/-- Both clients, alike. -/
def Twin (w W : World) (p q : Nat) (c : Cl) : Prop := Keep w W ∧ w.heap.size ≤ p ∧ w.heap.size ≤ q ∧ p ≠ q ∧ CRep 103 W p c ∧ CRep 67 W q c
theorem Twin.keep {w W W' : World} {p q : Nat} {c : Cl} (h : Twin w W p q c) (k : Keep W W') : Twin w W' p q c := by
  obtain ⟨h1, h2, h3, h4, h5, h6⟩ := h
  exact ⟨Keep.tr h1 k, h2, h3, h4, h5.keep k, h6.keep k⟩
theorem Twin.mid {w W W1 : World} {p q : Nat} {c c' : Cl} (h : Twin w W p q c) (F : Frm (· = p) W W1) (r : CRep 103 W1 p c') : Keep w W1 ∧ CRep 67 W1 q c := by
  obtain ⟨h1, h2, h3, h4, h5, h6⟩ := h
  exact ⟨h1.cl F h2, h6.frm F (fun e => h4 e.symm) h5⟩
theorem Twin.step {w W W1 W2 : World} {p q : Nat} {c' d : Cl} (h : Twin w W p q d) (k : Keep w W1) (r : CRep 103 W1 p c') (s0 : CRep 67 W1 q d) (F : Frm (· = q) W1 W2) (s : CRep 67 W2 q c') : Twin w W2 p q c' := by
  obtain ⟨h1, h2, h3, h4, h5, h6⟩ := h
  exact ⟨k.cl F h3, h2, h3, h4, r.frm F h4 s0, s⟩
/-- Small ones. -/
def Few (M : Nat) (c : Cl) (i : Nat) : Prop := c.m = M ∧ c.e ≤ i ∧ c.s ≤ i ∧ c.n ≤ i ∧ c.b.length ≤ 1000000
theorem Few.call {M : Nat} {c : Cl} {i : Nat} (h : Few M c i) (l : List UInt8) : Few M (callC c l) (i + 1) := by
  obtain ⟨h1, h2, h3, h4, h5⟩ := h
  cases ho : callO c l with
  | none =>
    rw [callC_none ho]
    exact ⟨h1, by omega, by omega, by omega, h5⟩
  | some q =>
    rw [callC_some ho]
    unfold callO at ho
    split at ho
    · cases ho
    · exact ⟨h1, by show c.e ≤ _; omega, by show c.s + 1 ≤ _; omega, by show 0 ≤ _; omega, req_len ho⟩
theorem Few.tick {M : Nat} {c : Cl} {i : Nat} (h : Few M c i) : Few M (tickC c) (i + 1) := by
  obtain ⟨h1, h2, h3, h4, h5⟩ := h
  unfold tickC
  split
  · exact ⟨h1, by show c.e ≤ _; omega, by show c.s ≤ _; omega, by show c.n + 1 ≤ _; omega, h5⟩
  · exact ⟨h1, by omega, by omega, by omega, h5⟩
theorem Few.take {M : Nat} {c : Cl} {i : Nat} (h : Few M c i) (l : List UInt8) : Few M (takeC c l) (i + 1) := by
  obtain ⟨h1, h2, h3, h4, h5⟩ := h
  unfold takeC
  split
  · exact ⟨h1, by show c.e ≤ _; omega, by show c.s ≤ _; omega, by show c.n ≤ _; omega, h5⟩
  · exact ⟨h1, by omega, by omega, by omega, h5⟩
theorem Few.rest {M : Nat} {c : Cl} {i : Nat} (h : Few M c i) : Few M (restC c) (i + 1) := by
  obtain ⟨h1, h2, h3, h4, h5⟩ := h
  exact ⟨h1, by show c.e + 1 ≤ _; omega, by show 0 ≤ _; omega, by show c.n ≤ _; omega, h5⟩
theorem wpList_appE {P : Program} {w : World} {ops : Array Oper} {rest : List Oper} {o : Oper} {a : Act} {Q : Exit → Act → World → Prop} (hgd : o.guard = none) (s x : Operand) (t : TypeId)
    (ho : o.op = .call { callee := .builtin .append, args := #[s, x], argTypes := #[t, t] })
    (e : Nat) (z : Value) (ht : P.underlying t = some (.slice e)) (hinfo : (P.info? e).map (fun i => (i.zero, i.size, i.bytes)) = some (some z, 1, 1)) (hzs : z.cells.size = 1)
    (ad : Addr) (hs : a.eval s = .slice (some ad) 0 0) (y : Value) (ys : List UInt8) (hx : a.eval x = y) (hy : Bs w y ys) (hl : ys.length ≤ 1000000)
    (h : ∀ A c w', Bs w' (.slice A ys.length c) ys → Keep w w' → wpList P ops Q rest (a.put o.dst (.slice A ys.length c)) w') : wpList P ops Q (o :: rest) a w :=
  wpList_appF hgd s x t ho e z ht hinfo hzs ad 0 [] hs ⟨some ad, 0, rfl, Nat.le_refl _, by omega, fun h => by simp at h⟩ y ys hx hy (by simpa using hl) fun A c w' h2 h3 => h A c w' h2 h3
/-- An act that came in. -/
structure CAct where
  kind : Int
  e : Int
  s : Int
  err : UInt8
  b : List UInt8
def KCAct (w : World) (cs : List Value) (a : CAct) : Prop :=
  ∃ v, cs = [.int .i64 a.kind, .int .i64 a.e, .int .i64 a.s, .int .u8 (a.err.toNat : Int), v] ∧ Bs w v a.b
theorem opn_call26 : Opn Try.prog 54 (fun _ cs (x : Int × Int) => cs = [.int .i64 x.1, .int .i64 x.2]) := by
  intro H enc W fuel cs d ps hf hw
  obtain ⟨n, rfl, hl, hg⟩ := trod_fields Try.underlying54 hf hw
  have hl2 : cs.length = 2 := hl.trans (by kernel_rfl)
  obtain ⟨d0, p0, t0, w0⟩ := hg 0 _ rfl
  obtain ⟨d1, p1, t1, w1⟩ := hg 1 _ rfl
  obtain ⟨x0, e0, f0⟩ := opn_int Try.underlying3 H enc W n _ d0 p0 t0 w0
  obtain ⟨x1, e1, f1⟩ := opn_int Try.underlying3 H enc W n _ d1 p1 t1 w1
  match cs, hl2 with
  | [c0, c1], _ =>
    have h0 : [c0] = [_] := e0
    have h1 : [c1] = [_] := e1
    simp only [List.cons.injEq, and_true] at h0 h1
    subst h0 h1
    exact ⟨(x0, x1), rfl⟩
theorem opn_cact : Opn Try.prog 69 KCAct := by
  intro H enc W fuel cs d ps hf hw
  obtain ⟨n, rfl, hl, hg⟩ := trod_fields Try.underlying69 hf hw
  have hl5 : cs.length = 5 := hl.trans (by kernel_rfl)
  obtain ⟨d0, p0, t0, w0⟩ := hg 0 _ rfl
  obtain ⟨d1, p1, t1, w1⟩ := hg 1 _ rfl
  obtain ⟨d2, p2, t2, w2⟩ := hg 2 _ rfl
  obtain ⟨d3, p3, t3, w3⟩ := hg 3 _ rfl
  obtain ⟨x0, e0, f0⟩ := opn_int Try.underlying3 H enc W n _ d0 p0 t0 w0
  obtain ⟨⟨y0, y1⟩, e1⟩ := opn_call26 H enc W n _ d1 p1 t1 w1
  obtain ⟨x2, e2⟩ := opn_u8 Try.underlying5 H enc W n _ d2 p2 t2 w2
  obtain ⟨x3, v3, e3, f3, _⟩ := opn_bs Try.underlying29 Try.underlying5 (by kernel_rfl) (by kernel_rfl) H enc W n _ d3 p3 t3 w3
  match cs, hl5 with
  | [c0, c1, c2, c3, c4], _ =>
    have h0 : [c0] = [_] := e0
    have h1 : [c1, c2] = [_, _] := e1
    have h2 : [c3] = [_] := e2
    have h3 : [c4] = [_] := e3
    simp only [List.cons.injEq, and_true] at h0 h1 h2 h3
    obtain ⟨g0, g1⟩ := h1
    subst h0 g0 g1 h2 h3
    exact ⟨⟨x0, y0, y1, x2, x3⟩, _, rfl, f3⟩
section
variable {H : Type} {enc : TypeId × Value → H} {W : World} {base : Nat}
theorem open_cacts {t : TypeId} {v : Value} {d : DataW H} {p : List MemPlace} (ht : Try.prog.underlying t = some (.slice 69))
    (hv : Value.okWide Try.prog W .any base t v) (h : DataW.Trod enc Try.prog W 0 (fun _ => true) true t v d p) (hz : ∀ n ∈ d.weights Try.prog t, n ≤ reachBytes) : ∃ l, Sl 5 KCAct W v l ∧ True :=
  open_sl (K' := fun w v l => Sl 5 KCAct w v l ∧ True) (Opn.imp (opn_slice opn_cact ht (sz := 5) (by kernel_rfl) rfl) fun w cs l ⟨v, h1, h2, h3⟩ => ⟨l, v, h1, h2, trivial⟩) ht hv h hz
end
end Go.Proofs.Ytcbkklfdeloeeaa
