/- Words on graphs in memory that drawing and reading share. -/
import Derived.Test.YtoehaijmkmdggaaGreatGShapeP
import Derived.Test.YtoehaijmkmdggaaGreatGLibR
set_option linter.unusedSimpArgs false
set_option linter.unusedVariables false
namespace Go.Proofs.YtoehaijmkmdggaaGreat
set_option linter.unusedVariables false
set_option maxRecDepth 100000
namespace Em
def Blk.str! (b : Blk) (s : List UInt8) : Blk := ⟨b.tag, s, b.kids⟩
def Blk.kids! (b : Blk) (k : List (Bool × Int)) : Blk := ⟨b.tag, b.str, k⟩
end Em
open Go.RowKit
def refCells (r : Bool × Int) : List Value := [.bool r.1, .int .i64 r.2]
def blkCells (it : Em.Blk × Value) : List Value := [.int .i64 it.1.tag, .string (str it.1.str), it.2]
theorem flat_set {its : List (Em.Blk × Value)} {i j : Nat} {it it' : Em.Blk × Value} {u : Value} (hi : its[i]? = some it) (he : blkCells it' = (blkCells it).set j u) (hj : j < 3) : (its.map blkCells).flatten.set (i * 3 + j) u = ((its.set i it').map blkCells).flatten := by
  induction its generalizing i with
  | nil => cases hi
  | cons a t ih =>
    cases i with
    | zero =>
      injection hi with hi
      subst hi
      rw [List.map_cons, List.flatten_cons, List.set_append_left _ _ (by simp [blkCells]; omega), List.set_cons_zero, List.map_cons, List.flatten_cons, he, Nat.zero_mul, Nat.zero_add]
    | succ i =>
      rw [List.map_cons, List.flatten_cons, List.set_append_right _ _ (by simp [blkCells]; omega), List.set_cons_succ, List.map_cons, List.flatten_cons, show (i + 1) * 3 + j - (blkCells a).length = i * 3 + j by simp [blkCells]; omega, ih hi]
theorem mem_set_or {α : Type} {l : List α} {i : Nat} {a b : α} (h : a ∈ l.set i b) : a ∈ l ∨ a = b := by
  rcases List.mem_or_eq_of_mem_set h with h | h
  · exact .inl h
  · exact .inr h
/-- A block was pushed onto the row, which is not put back yet. -/
def BPush (w0 : World) (B : Nat) (l : Value) (its : List (Em.Blk × Value)) (tag : Int) (W : World) (v : Value) : Prop :=
  ∃ Wb, Keep w0 Wb ∧ Wb.grownBy W l.ownBlock ∧ (v.ownBlock = l.ownBlock ∨ v.ownBlock = some Wb.heap.size) ∧ W.ownsRow B 72 3 v (its.length + 1) ((its.map blkCells).flatten ++ blkCells (⟨tag, [], []⟩, .slice none 0 0))
theorem BPush.keep {w0 W W' : World} {B : Nat} {l v : Value} {its : List (Em.Blk × Value)} {tag : Int} (h : BPush w0 B l its tag W v) (k : Keep W W') : BPush w0 B l its tag W' v := by
  obtain ⟨Wb, h1, h2, h3, h4⟩ := h
  exact ⟨Wb, h1, grown_keep h2 k, h3, own_keep h4 k⟩
theorem BPush.mk {w0 Wb W : World} {B : Nat} {l v : Value} {its : List (Em.Blk × Value)} {tag : Int} (k : Keep w0 Wb) (h : App Wb B 72 3 l (its.length + 1) ((its.map blkCells).flatten ++ blkCells (⟨tag, [], []⟩, .slice none 0 0)) v W) : BPush w0 B l its tag W v := by
  obtain ⟨h1, h2, h3⟩ := h
  exact ⟨Wb, k, h2, h3, h1⟩
theorem infoBlk : (Tryz.prog.info? 72).map (fun i => (i.zero, i.size, i.bytes)) = some (some (.agg #[.int .i64 0, .string (str []), .slice none 0 0]), 3, 48) := by kernel_rfl
theorem bl_set {its : List (Em.Blk × Value)} {i : Nat} {b : Em.Blk} {v u : Value} (h : its[i]? = some (b, v)) (g : Em.Blk → Em.Blk) : (its.set i (g b, u)).map (·.1) = (its.map (·.1)).modify i g := by
  apply List.ext_getElem?
  intro j
  rw [List.getElem?_map, List.getElem?_modify, List.getElem?_map, List.getElem?_set]
  by_cases e : i = j
  · subst e
    have := (List.getElem?_eq_some_iff.1 h).1
    have h2 := (List.getElem?_eq_some_iff.1 h).2
    simp [this, h2]
  · simp [e]
theorem row_at {w : World} {B m n g c i : Nat} {its : List (Em.Blk × Value)} {b : Em.Blk} {v : Value} (h : w.ownsRow B 72 3 (.slice (some ⟨g, 0, none⟩) m c) n (its.map blkCells).flatten) (hi : its[i]? = some (b, v)) (j : Nat) (u : Value) (hu : (blkCells (b, v))[j]? = some u) :
    w.cell? ⟨g, i * 3 + j, none⟩ = some u ∧ w.frozen? ⟨g, i * 3 + j, none⟩ = false := by
  have hl := (List.getElem?_eq_some_iff.1 hi).1
  have hj := (List.getElem?_eq_some_iff.1 hu).1
  have hc := h.cells (g := g) rfl (i * 3 + j) u (by
    rw [flat_get 3 _ (fun cs hcs => by
      obtain ⟨it, _, rfl⟩ := List.mem_map.1 hcs
      rfl) i j (by simpa using hl) hj, List.getElem_map, (List.getElem?_eq_some_iff.1 hi).2]
    exact hu)
  rw [add_pl] at hc
  refine ⟨hc, ?_⟩
  rcases h.2 with ⟨e, _⟩ | ⟨g', cap, cur, e, hg, hh, _⟩
  · cases e
  · cases e
    simp [World.frozen?, hh]
theorem infoRf : (Tryz.prog.info? 59).map (fun i => (i.zero, i.size, i.bytes)) = some (some (.agg #[.bool false, .int .i64 0]), 2, 16) := by kernel_rfl
theorem own_nilR (w : World) (B : Nat) : w.ownsRow B 59 2 (.slice none 0 0) 0 [] := ⟨by simp, .inl ⟨rfl, rfl⟩⟩
theorem src_new2 (W : World) (n : Nat) (a b : Value) {t : TypeId} (h : W.heap.size = n) : Src (W.alloc (.cells #[a, b] t)) 2 (.slice (some ⟨n, 0, none⟩) 1 1) 1 [a, b] := by
  subst h
  refine ⟨rfl, _, _, rfl, fun _ => ⟨_, rfl, fun j u hu => ?_⟩⟩
  rw [add_pl]
  exact lit_cells rfl j (by simpa using hu)
theorem ref_one (x : Bool × Int) (u : Value) (h : u ∈ refCells x) : u.oneCell' = true := by
  simp [refCells] at h
  rcases h with rfl | rfl <;> rfl
end Go.Proofs.YtoehaijmkmdggaaGreat
