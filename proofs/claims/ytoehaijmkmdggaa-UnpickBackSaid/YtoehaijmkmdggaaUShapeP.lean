/- Walks: a string put into a heap (package shape). Walks: a string's bytes out of a heap (package shape). Walks: the graph of a number; the laws' own check (shape). Walks: the laws' own check (shape); the law ShapePut. Graphs that came in; walks: are two rows of values one? are two blocks? -/
import Derived.Test.YtoehaijmkmdggaaUHeapR
import Derived.Test.YtoehaijmkmdggaaULib
import Derived.Test.YtoehaijmkmdggaaULibK
import Derived.Test.YtoehaijmkmdggaaUReg
import Derived.Test.YtoehaijmkmdggaaUOpen
import Derived.Test.YtoehaijmkmdggaaULibR
set_option linter.unusedSimpArgs false
set_option linter.unusedVariables false
set_option linter.unusedSimpArgs false
namespace Go.Proofs.Ytoehaijmkmdggaa
open Go.RowKit
set_option linter.unusedVariables false
set_option maxRecDepth 100000
/-- A string's words. -/
def wordsOf (s : List UInt8) : List Int := s.map fun b => intW (b.toNat : Int)
theorem wordsOf_wf (s : List UInt8) : ∀ f ∈ wordsOf s, (Lit.int .i64 f).wf = true := by
  intro f hf
  obtain ⟨b, _, rfl⟩ := List.mem_map.1 hf
  have := b.toNat_lt
  unfold intW
  rw [IntKind.wrap_i64]
  simp [Lit.wf, IntKind.min, IntKind.max, IntKind.bits, IntKind.signed, wrap64]
  omega
/-- A row of the call's own: its block, a cell of it. -/
theorem own_at {w : World} {base e n : Nat} {g c : Nat} {xs : List Value} (h : w.ownsRow base e 1 (.slice (some ⟨g, 0, none⟩) n c) n xs) (k : Nat) (hk : k < xs.length) : w.cell? ⟨g, k, none⟩ = some xs[k] ∧ w.frozen? ⟨g, k, none⟩ = false := by
  have hc := h.cells (g := g) rfl k xs[k] (by simp [hk])
  rw [add_pl] at hc
  refine ⟨hc, ?_⟩
  rcases h.2 with ⟨e, _⟩ | ⟨g', cap, cur, e, hg, hh, _⟩
  · cases e
  · cases e
    simp [World.frozen?, hh]
end Go.Proofs.Ytoehaijmkmdggaa
namespace Go.Proofs.Ytoehaijmkmdggaa
open Go.RowKit
set_option linter.unusedVariables false
set_option maxRecDepth 100000
namespace Em
/-- Is a word a byte? -/
def isB (f : Int) : Bool := f % 2 == 1 && (decide (0 ≤ f / 2) && decide (f / 2 < 256))
def byteOf (f : Int) : UInt8 := UInt8.ofNat (f / 2).toNat
/-- Words as bytes. -/
def textB (fs : List Int) : Option (List UInt8) := if fs.all isB = true then some (fs.map byteOf) else none
/-- A string's bytes, in a heap. -/
def textH (H : Hp) (n : Int) : Option (List UInt8) := if (blk H n).1 = 1 then textB (blk H n).2 else none
end Em
theorem used_ge {H : Em.Hp} {b : Int × List Int} (h : b ∈ H) : b.2.length ≤ Em.used H := by
  induction H with
  | nil => cases h
  | cons c t ih =>
    rw [Em.used]
    rcases List.mem_cons.1 h with rfl | h
    · omega
    · have := ih h
      omega
theorem blk_mem (H : Em.Hp) (n : Int) : Em.blk H n = (0, []) ∨ Em.blk H n ∈ H := by
  unfold Em.blk
  cases hi : Em.idx H n with
  | none => exact .inl rfl
  | some i =>
    have := Em.idx_lt hi
    right
    simp only [List.getD_eq_getElem?_getD, List.getElem?_eq_getElem this, Option.getD_some]
    exact List.getElem_mem this
theorem textB_no {fs : List Int} {k : Nat} (hk : k < fs.length) (h : Em.isB fs[k] = false) : Em.textB fs = none := by
  unfold Em.textB
  rw [if_neg]
  intro e
  rw [List.all_eq_true] at e
  have := e fs[k] (List.getElem_mem hk)
  rw [h] at this
  cases this
theorem textB_yes {fs : List Int} (h : ∀ x ∈ fs.take fs.length, Em.isB x = true) : Em.textB fs = some (fs.map Em.byteOf) := by
  rw [List.take_length] at h
  exact if_pos (List.all_eq_true.2 h)
/-- A text, or none, is answered. -/
def RetX (w : World) (o : Option (List UInt8)) (e : Ending) (w' : World) : Prop := Keep w w' ∧ e = .returned (.tuple #[.string (str (o.getD [])), .bool o.isSome])
theorem RetX.of {w w' : World} {o o' : Option (List UInt8)} {e : Ending} (h : o = o') (r : RetX w o' e w') : RetX w o e w' := h ▸ r
end Go.Proofs.Ytoehaijmkmdggaa
namespace Go.Proofs.Ytoehaijmkmdggaa
open Go.RowKit
set_option linter.unusedVariables false
set_option maxRecDepth 100000
end Go.Proofs.Ytoehaijmkmdggaa
namespace Go.Proofs.Ytoehaijmkmdggaa
open Go.RowKit
set_option linter.unusedVariables false
set_option maxRecDepth 100000
theorem wordsOf_all (s : List UInt8) : (wordsOf s).all Em.isB = true := by
  rw [List.all_eq_true]
  intro f hf
  obtain ⟨b, _, rfl⟩ := List.mem_map.1 hf
  have hb := b.toNat_lt
  have h1 := intW_odd (b.toNat : Int)
  have h2 := intW_back (b.toNat : Int) (by omega) (by omega)
  unfold Em.isB
  rw [h2, h1]
  rw [decide_eq_true (by omega), decide_eq_true (by omega)]
  rfl
theorem wordsOf_bytes (s : List UInt8) : (wordsOf s).map Em.byteOf = s := by
  unfold wordsOf
  rw [List.map_map]
  have : (Em.byteOf ∘ fun b : UInt8 => intW (b.toNat : Int)) = id := by
    funext b
    have hb := b.toNat_lt
    have h2 := intW_back (b.toNat : Int) (by omega) (by omega)
    simp only [Function.comp, Em.byteOf, h2, Int.toNat_natCast, id]
    exact UInt8.toNat.inj (by rw [UInt8.toNat_ofNat', Nat.mod_eq_of_lt hb])
  rw [this, List.map_id]
theorem textB_words (s : List UInt8) : Em.textB (wordsOf s) = some s := by
  unfold Em.textB
  rw [if_pos (wordsOf_all s), wordsOf_bytes]
end Go.Proofs.Ytoehaijmkmdggaa
namespace Go.Proofs.Ytoehaijmkmdggaa
open Go.ChangeShapes Go.WideShapes Go.RowKit
set_option linter.unusedVariables false
set_option maxRecDepth 100000
namespace Em
/-- A block of a graph. -/
structure Blk where
  tag : Int
  str : List UInt8
  kids : List (Bool × Int)
  deriving DecidableEq
/-- A graph. -/
structure Gr where
  root : Bool × Int
  blocks : List Blk
  deriving DecidableEq
end Em
def KRf (_ : World) (cs : List Value) (x : Bool × Int) : Prop := cs = [.bool x.1, .int .i64 x.2] ∧ (Lit.int .i64 x.2).wf = true
def KBk (w : World) (cs : List Value) (b : Em.Blk) : Prop := ∃ v, cs = [.int .i64 b.tag, .string (str b.str), v] ∧ (Lit.int .i64 b.tag).wf = true ∧ Sl 2 KRf w v b.kids
theorem KBk.keep {w w' : World} {cs : List Value} {b : Em.Blk} (h : KBk w cs b) (k : Keep w w') : KBk w' cs b := by
  obtain ⟨v, h1, h2, h3⟩ := h
  exact ⟨v, h1, h2, h3.keep k fun _ _ h => h⟩
/-- A value that is a graph. -/
def GrV (w : World) (v : Value) (g : Em.Gr) : Prop := ∃ u, v = .agg #[.bool g.root.1, .int .i64 g.root.2, u] ∧ (Lit.int .i64 g.root.2).wf = true ∧ Sl 3 KBk w u g.blocks
theorem GrV.keep {w w' : World} {v : Value} {g : Em.Gr} (h : GrV w v g) (k : Keep w w') : GrV w' v g := by
  obtain ⟨u, h1, h2, h3⟩ := h
  exact ⟨u, h1, h2, h3.keep k fun _ _ h => h.keep k⟩
section
variable {H : Type} {enc : TypeId × Value → H} {W : World} {base : Nat}
end
end Go.Proofs.Ytoehaijmkmdggaa
