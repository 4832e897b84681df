/- Walks: the reader of package unpick: a number, a value that is no block, a string. Walks: the reader of package unpick: a string; the types of a type's fields. The reader of package unpick: what a value, a block comes to. -/
import Derived.Test.YtoehaijmkmdggaaTRdR
import Derived.Test.YtoehaijmkmdggaaTLibK
import Derived.LaidEql
import Derived.Stop.Asserts
import Derived.Test.YtoehaijmkmdggaaTVarZ
import Derived.Test.YtoehaijmkmdggaaTLib
import Derived.Deep.QuietTactic
import Derived.BigQuiet
import Derived.Deep.RegionHeld3
set_option linter.unusedSimpArgs false
set_option linter.unusedVariables false
namespace Go.Proofs.Ytoehaijmkmdggaa
open Go.RowKit
open Em (Ty)
set_option linter.unusedVariables false
set_option linter.unusedSimpArgs false
set_option maxRecDepth 100000
/-- A reader's state, whatever bytes are left in which slice. -/
def RdS (tt B : Nat) (Z : Nat → Prop) (w0 w : World) (p : Nat) (lv tv : Value) (ex : List Value) (its : List (Em.Blk × Value)) (tys : List (Ty × List Value)) (s : Em.Rd) : Prop := ∃ bv, RdM tt B Z w0 w p bv lv tv ex its tys s
theorem heap_set2R {w : World} {b : Nat} {x y : Value} {ty : TypeId} (h : w.heap[b]? = some (.cells #[x, y] ty)) (u v : Value) : ((w.setCell ⟨b, 0, none⟩ u).setCell ⟨b, 1, none⟩ v).heap[b]? = some (.cells #[u, v] ty) := heap_setT (j := 1) (heap_setT (j := 0) h u) v
theorem frm_set2R (w : World) (r : Nat) (u v : Value) : Frm (· = r) w ((w.setCell ⟨r, 0, none⟩ u).setCell ⟨r, 1, none⟩ v) :=
  ((Frm.rf (· = r) w).st (p := ⟨r, 0, none⟩) (.inl rfl) _).st (p := ⟨r, 1, none⟩) (.inl rfl) _
section
variable {B : Nat} {Z : Nat → Prop} {w0 w : World} {p : Nat} {bv lv tv : Value} {its : List (Em.Blk × Value)} {tys : List (Ty × List Value)} {s : Em.Rd}
theorem RWent.far {Z Z' : Nat → Prop} {w w1 w' : World} {lv tv lv' tv' : Value} {its its' : List (Em.Blk × Value)} {r : Nat} (h : RWent Z Z' w w1 p lv tv lv' tv' its its') (hr : w.heap.size ≤ r) (F : Frm (· = r) w1 w') : RWent Z Z' w w' p lv tv lv' tv' its its' :=
  { h with frm := h.frm.trn F fun i e => .inr (by have e : i = r := e; omega) }
theorem zag_le (v : Nat) (h : v < 18446744073709551616) : -9223372036854775808 ≤ Em.zag v ∧ Em.zag v ≤ 9223372036854775807 := by
  unfold Em.zag
  split <;> omega
theorem imm_wf {n : Int} (h1 : -9223372036854775808 ≤ n) (h2 : n ≤ 9223372036854775807) : (Lit.int .i64 n).wf = true := by
  simp [Lit.wf, IntKind.min, IntKind.max, IntKind.bits, IntKind.signed]
  omega
theorem immBad_int (n : Int) : Em.immBad [105, 110, 116] n = (decide (n < -4611686018427387904) || decide (n ≥ 4611686018427387904)) := by
  unfold Em.immBad
  rw [decide_eq_false (show ¬ ([105, 110, 116] : List UInt8) = Em.wBool by decide)]
  simp
end
end Go.Proofs.Ytoehaijmkmdggaa
namespace Go.Proofs.Ytoehaijmkmdggaa
open Go.RowKit
open Em (Ty)
set_option linter.unusedVariables false
set_option linter.unusedSimpArgs false
set_option maxRecDepth 100000
section
variable {B : Nat} {Z : Nat → Prop} {w0 w : World} {p : Nat} {bv lv tv : Value} {its : List (Em.Blk × Value)} {tys : List (Ty × List Value)} {s : Em.Rd}
end
/-- The tag, and the types, of a type's fields were answered. -/
def ShpA (I : Nat → Prop) (w : World) (t : Ty) (e : Ending) (w' : World) : Prop :=
  ∃ v d, e = .returned (.tuple #[.int .i64 (Em.tagT t.op), v]) ∧ Sl 3 (TyI (fun k => I k ∨ (w.heap.size ≤ k ∧ k < w'.heap.size)) d) w' v (Em.kidsT t) ∧ InX (fun k => I k ∨ (w.heap.size ≤ k ∧ k < w'.heap.size)) v ∧ Keep w w'
theorem TyI.leaf {I : Nat → Prop} {w : World} (o : List UInt8) : TyI I 1 w [.string (str o), .int .i64 0, .slice none 0 0] (.mk o 0 []) :=
  ⟨_, rfl, (by decide : (Lit.int .i64 0).wf = true), Sl.nil w, fun ad n c e hn => by cases e⟩
theorem new2 (w : World) (o o' o'' : Obj) : (((w.alloc o).alloc o').alloc o'').heap[w.heap.size + 1]? = some o' := ((Keep.al (Keep.rf ((w.alloc o).alloc o')) o'').frm fun _ => False).heap (fun h => h) (new_second w o o')
theorem new3 (w : World) (o o' o'' : Obj) : (((w.alloc o).alloc o').alloc o'').heap[w.heap.size + 1 + 1]? = some o'' := by
  have := new_second (w.alloc o) o' o''
  rwa [size_alloc] at this
theorem sl_one3 {α : Type} {K : World → List Value → α → Prop} {W : World} {g : Nat} {a0 a1 a2 : Value} {ty : TypeId} {x : α} (h : W.heap[g]? = some (.cells #[a0, a1, a2] ty)) (hx : K W [a0, a1, a2] x) : Sl 3 K W (.slice (some ⟨g, 0, none⟩) 1 1) [x] := by
  refine ⟨_, _, rfl, by simp, by omega, fun _ => ⟨_, rfl, fun j hj => ?_⟩⟩
  obtain rfl : j = 0 := by simpa using hj
  refine ⟨[a0, a1, a2], rfl, fun i u hu => ?_, hx⟩
  have := top_cells h i
  rw [add_pl]
  rw [Nat.zero_mul, Nat.zero_add, this]
  simpa using hu
theorem sl_two3 {α : Type} {K : World → List Value → α → Prop} {W : World} {g : Nat} {a0 a1 a2 b0 b1 b2 : Value} {ty : TypeId} {x y : α} (h : W.heap[g]? = some (.cells #[a0, a1, a2, b0, b1, b2] ty)) (hx : K W [a0, a1, a2] x) (hy : K W [b0, b1, b2] y) : Sl 3 K W (.slice (some ⟨g, 0, none⟩) 2 2) [x, y] := by
  refine ⟨_, _, rfl, by simp, by omega, fun _ => ⟨_, rfl, fun j hj => ?_⟩⟩
  rcases (show j = 0 ∨ j = 1 by simp at hj; omega) with rfl | rfl
  · refine ⟨[a0, a1, a2], rfl, fun i u hu => ?_, hx⟩
    have := top_cells h i
    rw [add_pl, Nat.zero_mul, Nat.zero_add, this]
    match i, hu with
    | 0, hu => simpa using hu
    | 1, hu => simpa using hu
    | 2, hu => simpa using hu
    | i + 3, hu => simp at hu
  · refine ⟨[b0, b1, b2], rfl, fun i u hu => ?_, hy⟩
    have := top_cells h (3 + i)
    rw [add_pl, Nat.one_mul, this]
    match i, hu with
    | 0, hu => simpa using hu
    | 1, hu => simpa using hu
    | 2, hu => simpa using hu
    | i + 3, hu => simp at hu
section
variable {I : Nat → Prop} {w : World} {d : Nat} {cs : List Value} {t : Ty}
end
end Go.Proofs.Ytoehaijmkmdggaa
namespace Go.Proofs.Ytoehaijmkmdggaa
open Go.RowKit
open Em (Ty)
set_option linter.unusedVariables false
set_option linter.unusedSimpArgs false
set_option maxRecDepth 100000
end Go.Proofs.Ytoehaijmkmdggaa
