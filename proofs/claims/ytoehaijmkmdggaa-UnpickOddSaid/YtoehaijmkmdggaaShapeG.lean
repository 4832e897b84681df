/- Graphs that came in; walks: are two rows of values one? are two blocks? -/
import Derived.Test.YtoehaijmkmdggaaShapeK
import Derived.Test.YtoehaijmkmdggaaOpen
import Derived.Test.YtoehaijmkmdggaaLibR
namespace Go.Proofs.Ytoehaijmkmdggaa
open Go.ChangeShapes Go.WideShapes Go.RowKit
set_option linter.unusedVariables false
set_option maxRecDepth 100000
namespace Em
/-- A block of a graph. -/
structure Blk where
  tag : Int
  str : List UInt8
  kids : List (Bool × Int)
  deriving DecidableEq
/-- A graph. -/
structure Gr where
  root : Bool × Int
  blocks : List Blk
  deriving DecidableEq
end Em
def KRf (_ : World) (cs : List Value) (x : Bool × Int) : Prop := cs = [.bool x.1, .int .i64 x.2] ∧ (Lit.int .i64 x.2).wf = true
def KBk (w : World) (cs : List Value) (b : Em.Blk) : Prop := ∃ v, cs = [.int .i64 b.tag, .string (str b.str), v] ∧ (Lit.int .i64 b.tag).wf = true ∧ Sl 2 KRf w v b.kids
theorem KBk.keep {w w' : World} {cs : List Value} {b : Em.Blk} (h : KBk w cs b) (k : Keep w w') : KBk w' cs b := by
  obtain ⟨v, h1, h2, h3⟩ := h
  exact ⟨v, h1, h2, h3.keep k fun _ _ h => h⟩
/-- A value that is a graph. -/
def GrV (w : World) (v : Value) (g : Em.Gr) : Prop := ∃ u, v = .agg #[.bool g.root.1, .int .i64 g.root.2, u] ∧ (Lit.int .i64 g.root.2).wf = true ∧ Sl 3 KBk w u g.blocks
theorem GrV.keep {w w' : World} {v : Value} {g : Em.Gr} (h : GrV w v g) (k : Keep w w') : GrV w' v g := by
  obtain ⟨u, h1, h2, h3⟩ := h
  exact ⟨u, h1, h2, h3.keep k fun _ _ h => h.keep k⟩
theorem opn_rf : Opn Try.prog 28 KRf := by
  intro H enc W fuel cs d ps hf hw
  obtain ⟨n, rfl, hl, hg⟩ := trod_fields Try.underlying28 hf hw
  have hl2 : cs.length = 2 := hl.trans (by kernel_rfl)
  obtain ⟨d0, p0, t0, w0⟩ := hg 0 _ rfl
  obtain ⟨d1, p1, t1, w1⟩ := hg 1 _ rfl
  obtain ⟨x0, e0⟩ := opn_bool Try.underlying4 H enc W n _ d0 p0 t0 w0
  obtain ⟨x1, e1, f1⟩ := opn_int Try.underlying2 H enc W n _ d1 p1 t1 w1
  match cs, hl2 with
  | [c0, c1], _ =>
    have h0 : [c0] = [_] := e0
    have h1 : [c1] = [_] := e1
    simp only [List.cons.injEq, and_true] at h0 h1
    subst h0 h1
    exact ⟨(x0, x1), rfl, f1⟩
theorem opn_bk : Opn Try.prog 80 KBk := by
  intro H enc W fuel cs d ps hf hw
  obtain ⟨n, rfl, hl, hg⟩ := trod_fields Try.underlying80 hf hw
  have hl3 : cs.length = 3 := hl.trans (by kernel_rfl)
  obtain ⟨d0, p0, t0, w0⟩ := hg 0 _ rfl
  obtain ⟨d1, p1, t1, w1⟩ := hg 1 _ rfl
  obtain ⟨d2, p2, t2, w2⟩ := hg 2 _ rfl
  obtain ⟨x0, e0, f0⟩ := opn_int Try.underlying3 H enc W n _ d0 p0 t0 w0
  obtain ⟨x1, e1, _⟩ := opn_str Try.underlying9 H enc W n _ d1 p1 t1 w1
  obtain ⟨x2, v2, e2, f2, _⟩ := opn_slice opn_rf Try.underlying78 (sz := 2) (by kernel_rfl) rfl H enc W n _ d2 p2 t2 w2
  match cs, hl3 with
  | [c0, c1, c2], _ =>
    have h0 : [c0] = [_] := e0
    have h1 : [c1] = [_] := e1
    have h2 : [c2] = [_] := e2
    simp only [List.cons.injEq, and_true] at h0 h1 h2
    subst h0 h1 h2
    refine ⟨⟨x0, x1.data.toList, x2⟩, _, ?_, f0, f2⟩
    simp only [str_of]
theorem opn_gr : Opn Try.prog 31 (fun w cs (g : Em.Gr) => ∃ u, cs = [.bool g.root.1, .int .i64 g.root.2, u] ∧ (Lit.int .i64 g.root.2).wf = true ∧ Sl 3 KBk w u g.blocks) := by
  intro H enc W fuel cs d ps hf hw
  obtain ⟨n, rfl, hl, hg⟩ := trod_fields Try.underlying31 hf hw
  have hl3 : cs.length = 3 := hl.trans (by kernel_rfl)
  obtain ⟨d0, p0, t0, w0⟩ := hg 0 _ rfl
  obtain ⟨d1, p1, t1, w1⟩ := hg 1 _ rfl
  obtain ⟨⟨r0, r1⟩, e0, f0⟩ := opn_rf H enc W n _ d0 p0 t0 w0
  obtain ⟨x2, v2, e2, f2, _⟩ := opn_slice opn_bk Try.underlying29 (sz := 3) (by kernel_rfl) rfl H enc W n _ d1 p1 t1 w1
  match cs, hl3 with
  | [c0, c1, c2], _ =>
    have h0 : [c0, c1] = [_, _] := e0
    have h2 : [c2] = [_] := e2
    simp only [List.cons.injEq, and_true] at h0 h2
    obtain ⟨g0, g1⟩ := h0
    subst g0 g1 h2
    exact ⟨⟨(r0, r1), x2⟩, _, rfl, f0, f2⟩
section
variable {H : Type} {enc : TypeId × Value → H} {W : World} {base : Nat}
theorem open_gr {v : Value} {d : DataW H} {p : List MemPlace}
    (hv : Value.okWide Try.prog W .any base 31 v) (h : DataW.Trod enc Try.prog W 0 (fun _ => true) true 31 v d p) (hz : ∀ n ∈ d.weights Try.prog 31, n ≤ reachBytes) :
    ∃ g : Em.Gr, GrV W v g ∧ True := by
  obtain ⟨c, rfl, hc⟩ := okWide_struct Try.underlying31 hv
  obtain ⟨fuel, hf⟩ := h
  obtain ⟨x, u, hx, h1, h2⟩ := opn_gr H enc W fuel _ d p hf hz
  have hx' : c.toList = _ := hx
  refine ⟨x, ⟨u, ?_, h1, h2⟩, trivial⟩
  congr 1
  exact Array.toList_inj.1 hx'
end
theorem drop_step {α : Type} [DecidableEq α] {xs ys : List α} {j : Nat} (h1 : j < xs.length) (h2 : j < ys.length) : decide (xs.drop j = ys.drop j) = (decide (xs[j] = ys[j]) && decide (xs.drop (j + 1) = ys.drop (j + 1))) := by
  rw [Bool.eq_iff_iff, Bool.and_eq_true, decide_eq_true_iff, decide_eq_true_iff, decide_eq_true_iff, List.drop_eq_getElem_cons h1, List.drop_eq_getElem_cons h2, List.cons.injEq]
end Go.Proofs.Ytoehaijmkmdggaa
