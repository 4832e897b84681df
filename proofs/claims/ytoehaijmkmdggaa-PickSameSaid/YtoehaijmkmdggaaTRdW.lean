/- Walks: the reader of package unpick: a block that comes the first time; its region that pushes it. -/
import Derived.Test.YtoehaijmkmdggaaTRdN
set_option linter.unusedSimpArgs false
set_option linter.unusedVariables false
namespace Go.Proofs.Ytoehaijmkmdggaa
open Go.RowKit
open Em (Ty)
set_option linter.unusedVariables false
set_option linter.unusedSimpArgs false
set_option maxRecDepth 100000
/-- One struct of three cells, in a new block. -/
def OneN (N : Nat) (a b c : Value) (ty : TypeId) (W : World) (v : Value) : Prop := ∃ g, N ≤ g ∧ v = .slice (some ⟨g, 0, none⟩) 1 1 ∧ W.heap[g]? = some (.cells #[a, b, c] ty)
theorem OneN.frm {N : Nat} {a b c : Value} {ty : TypeId} {W W' : World} {v : Value} {S : Nat → Prop} (h : OneN N a b c ty W v) (F : Frm S W W') (hS : ∀ k, S k → k < N) : OneN N a b c ty W' v := by
  obtain ⟨g, h1, h2, h3⟩ := h
  exact ⟨g, h1, h2, F.heap (fun e => by have := hS _ e; omega) h3⟩
theorem OneN.src {N : Nat} {a b c : Value} {ty : TypeId} {W : World} {v : Value} (h : OneN N a b c ty W v) : Src W 3 v 1 [a, b, c] := by
  obtain ⟨g, _, rfl, h⟩ := h
  exact src3 h
theorem App.keep {w w' w2 : World} {base e size n : Nat} {v v' : Value} {cs : List Value} (h : App w base e size v n cs v' w') (k : Keep w' w2) : App w base e size v n cs v' w2 := ⟨own_keep h.1 k, grown_keep h.2.1 k, h.2.2⟩
theorem BPush.app {w0 W : World} {B : Nat} {l v : Value} {its : List (Em.Blk × Value)} {tag : Int} (h : BPush w0 B l its tag W v) : ∃ Wb, Keep w0 Wb ∧ App Wb B 80 3 l (its.length + 1) ((its.map blkCells).flatten ++ blkCells (⟨tag, [], []⟩, .slice none 0 0)) v W := by
  obtain ⟨Wb, h1, h2, h3, h4⟩ := h
  exact ⟨Wb, h1, h4, h2, h3⟩
theorem infoTyR : (Try.prog.info? 25).map (fun i => (i.zero, i.size, i.bytes)) = some (some (.agg #[.string ByteArray.empty, .int .i64 0, .slice none 0 0]), 3, 48) := by kernel_rfl
section
variable {tt B : Nat} {Z : Nat → Prop} {w0 w W : World} {p : Nat} {bv lv tv : Value} {ex : List Value} {its : List (Em.Blk × Value)} {tys : List (Ty × List Value)} {s : Em.Rd}
end
theorem tagT_wf (o : List UInt8) : (Lit.int .i64 (Em.tagT o)).wf = true := by
  unfold Em.tagT
  split
  · decide
  · split
    · decide
    · split
      · decide
      · split <;> decide
/-- More blocks of types, after a call that kept all. -/
theorem RWent.more {Z Z' : Nat → Prop} {w w' : World} {p : Nat} {lv tv : Value} {its : List (Em.Blk × Value)} (k : Keep w w') (h1 : ∀ k, Z k → Z' k) (h2 : ∀ k, Z' k → Z k ∨ w.heap.size ≤ k) : RWent Z Z' w w' p lv tv lv tv its its :=
  ⟨k.frm _, fun k h => .inl h, fun k h => .inl h, fun k e => by
    rcases e with e | e
    · exact .inl (.inl e)
    · rcases h2 k e with e | e
      · exact .inl (.inr e)
      · exact .inr e, h1, Nat.le_refl _⟩
/-- The kids that were read so far. -/
def KidR (tt B : Nat) (Z0 : Nat → Prop) (w0 w : World) (p : Nat) (lv tv : Value) (ex : List Value) (its : List (Em.Blk × Value)) (xs : List (Bool × Int)) (s1 : Em.Rd) (v : Value) (W : World) : Prop :=
  ∃ Z1 bv1 lv1 tv1 its1 tys1, RdM tt B Z1 w0 W p bv1 lv1 tv1 ex its1 tys1 s1 ∧ RWent Z0 Z1 w W p lv tv lv1 tv1 its its1 ∧ W.ownsRow w.heap.size 28 2 v xs.length (xs.map refCells).flatten ∧ (∀ z, v.ownBlock = some z → ¬ HasR Z1 p lv1 tv1 its1 z) ∧ ∀ z ∈ xs, (Lit.int .i64 z.2).wf = true
theorem KidR.push {tt B p : Nat} {Z0 Z1 Z2 : Nat → Prop} {w0 w W W1 W2 W3 W4 : World} {bv1 bv2 lv tv lv1 tv1 lv2 tv2 v v' : Value} {ex : List Value} {its its1 its2 : List (Em.Blk × Value)} {tys1 tys2 : List (Ty × List Value)} {s1 s2 : Em.Rd} {xs : List (Bool × Int)} {x : Bool × Int}
    (hd : RdM tt B Z1 w0 W p bv1 lv1 tv1 ex its1 tys1 s1) (hw : RWent Z0 Z1 w W p lv tv lv1 tv1 its its1) (hn : ∀ z, v.ownBlock = some z → ¬ HasR Z1 p lv1 tv1 its1 z) (hwf : ∀ z ∈ xs, (Lit.int .i64 z.2).wf = true) (ho : W.ownsRow w.heap.size 28 2 v xs.length (xs.map refCells).flatten) (k1 : Keep W W1)
    (hd2 : RdM tt B Z2 w0 W2 p bv2 lv2 tv2 ex its2 tys2 s2) (hw2 : RWent Z1 Z2 W1 W2 p lv1 tv1 lv2 tv2 its1 its2) (hx : (Lit.int .i64 x.2).wf = true) (k3 : Keep W2 W3) (hw0 : w0.heap.size ≤ w.heap.size) (ha : App W3 w.heap.size 28 2 v (xs.length + 1) ((xs.map refCells).flatten ++ refCells x) v' W4) :
    KidR tt B Z0 w0 w p lv tv ex its (xs ++ [x]) s2 v' W4 := by
  obtain ⟨h1, h2, h3⟩ := ha
  have F : Frm (fun k => v.ownBlock = some k) W3 W4 := Frm.of_grown h2 fun _ e => e
  have hlt := World.ownsRow.lt ho
  have hk1 := k1.size
  have hn2 : ∀ z, v.ownBlock = some z → ¬ HasR Z2 p lv2 tv2 its2 z := fun z e => hw2.out (Nat.lt_of_lt_of_le (hlt z e).2 hk1) (hn z e)
  have hd3 := (hd2.keep k3).frm F (fun k hk e => hn2 k e hk) fun k e => Nat.le_trans hw0 (hlt k e).1
  refine ⟨Z2, bv2, lv2, tv2, its2, tys2, hd3, ?_, by simpa using h1, ?_, ?_⟩
  · have h4 := ((hw.tr (RWent.of_keep k1)).tr hw2).tr (RWent.of_keep k3)
    exact { h4 with frm := h4.frm.trn F fun i e => .inr (hlt i e).1 }
  · intro z e
    rcases h3 with e2 | e2
    · exact hn2 z (by rw [← e2, e])
    · rw [e2] at e
      injection e with e
      intro hz
      have h5 := (hd2.lt z hz).2
      have h6 := k3.size
      omega
  · intro z hz
    rcases List.mem_append.1 hz with hz | hz
    · exact hwf z hz
    · rw [List.mem_singleton.1 hz]; exact hx
theorem kidsT_len {t : Ty} (h : Em.okS t = true) : (Em.kidsT t).length ≤ 2 := by
  have ho := Em.okS_op h
  unfold Em.kidsT
  split
  · simp
  · split
    · simp
    · split
      · next c =>
        have c' : t.op = Em.wPair ∨ t.op = Em.wRef := c
        rcases ho with e | e | e | e | e | ⟨e, h2⟩ | ⟨e, h2⟩ | ⟨e, h2⟩ <;> first | omega | (exfalso; rw [e] at c'; revert c'; decide)
      · simp
/-- The rest of a block's types. -/
theorem kidsA_drop (r : Ty → Em.Rd → Em.Out (Bool × Int)) (xs : List (Bool × Int)) (kt : List Ty) (j : Nat) (s : Em.Rd) (hj : j < kt.length) : Em.kidsA r xs (kt.drop j) s = match r kt[j] s with | .err c => .err c | .ok x s' => Em.kidsA r (xs ++ [x]) (kt.drop (j + 1)) s' := by
  rw [List.drop_eq_getElem_cons hj]
  rfl
section
variable {B f : Nat} {Z : Nat → Prop} {w0 w : World} {p : Nat} {bv lv tv : Value} {its : List (Em.Blk × Value)} {tys : List (Ty × List Value)} {s : Em.Rd}
end
end Go.Proofs.Ytoehaijmkmdggaa
