/- The reader of the reference in memory: a fourth cell, its error; pushes in another order. The reader of the reference in memory: a type, then a block are pushed. -/
import Derived.Test.YtoehaijmkmdggaaURdVs
import Derived.Test.YtoehaijmkmdggaaURdW
import Derived.Deep.RegionLaw
set_option linter.unusedSimpArgs false
set_option linter.unusedVariables false
namespace Go.Proofs.Ytoehaijmkmdggaa
open Go.RowKit
open Em (Ty)
set_option linter.unusedVariables false
set_option linter.unusedSimpArgs false
set_option maxRecDepth 100000
section
variable {tt B : Nat} {Z : Nat → Prop} {w0 w : World} {p : Nat} {bv lv tv : Value} {ex : List Value} {its : List (Em.Blk × Value)} {tys : List (Ty × List Value)} {s : Em.Rd}
end
end Go.Proofs.Ytoehaijmkmdggaa
namespace Go.Proofs.Ytoehaijmkmdggaa
open Go.RowKit
open Em (Ty)
set_option linter.unusedVariables false
set_option linter.unusedSimpArgs false
set_option maxRecDepth 100000
/-- append, as one step of a region of open order. -/
theorem step_app {P : Program} {ops : Array Oper} {o : Oper} {a : Act} {w : World} {K : Act → World → Prop} {Q : Exit → Act → World → Prop} {E : Prop} (hg : o.guard = none) (s x : Operand) (t : TypeId)
    (ho : o.op = .call { callee := .builtin .append, args := #[s, x], argTypes := #[t, t] })
    (base e : Nat) (z : Value) (size bytes : Nat) (ht : P.underlying t = some (.slice e)) (hinfo : (P.info? e).map (fun i => (i.zero, i.size, i.bytes)) = some (some z, size, bytes)) (hzs : z.cells.size = size) (hsz : 0 < size)
    (v : Value) (n : Nat) (xs : List Value) (hs : a.eval s = v) (hown : w.ownsRow base e size v n xs)
    (y : Value) (m : Nat) (news : List Value) (hx : a.eval x = y) (hy : Src w size y m news) (h1 : ∀ u ∈ news, u.oneCell' = true)
    (h63 : n + m ≤ maxLen) (hbytes : (n + m) * bytes ≤ 140737488355328) (hbase : base ≤ w.heap.size)
    (h : ∀ v' w', App w base e size v (n + m) (xs ++ news) v' w' → K (a.put o.dst v') w') :
    if Region.wanted o (yielded ops a.tmps) = true then Oper.wp P o a w K Q else E := by
  have hw : Region.wanted o (yielded ops a.tmps) = true := by simp [Region.wanted, hg]
  rw [if_pos hw]
  exact wp_app s x t ho base e z size bytes ht hinfo hzs hsz v n xs hs hown y m news hx hy h1 h63 hbytes hbase h
theorem set_three {α : Type} (l : List α) (z0 z1 z2 a b c : α) {n : Nat} (h : l.length = n * 3) : (((l ++ [z0, z1, z2]).set (n * 3) a).set (n * 3 + 1) b).set (n * 3 + 2) c = l ++ [a, b, c] := by
  rw [← h, List.set_append_right _ _ (Nat.le_refl _), Nat.sub_self, List.set_cons_zero, List.set_append_right _ _ (by omega), Nat.add_sub_cancel_left, List.set_cons_succ, List.set_cons_zero, List.set_append_right _ _ (by omega), Nat.add_sub_cancel_left]
  rfl
section
variable {tt B : Nat} {Z : Nat → Prop} {w0 w : World} {p : Nat} {bv lv tv : Value} {ex : List Value} {its : List (Em.Blk × Value)} {tys : List (Ty × List Value)} {s : Em.Rd}
theorem RdM.flat3 (h : RdM tt B Z w0 w p bv lv tv ex its tys s) : (tys.map (·.2)).flatten.length = tys.length * 3 := by
  have key : ∀ l : List (Ty × List Value), (∀ y ∈ l, y.2.length = 3) → (l.map (·.2)).flatten.length = l.length * 3 := by
    intro l
    induction l with
    | nil => intro _; rfl
    | cons a t ih =>
      intro h
      rw [List.map_cons, List.flatten_cons, List.length_append, h a List.mem_cons_self, ih fun y hy => h y (List.mem_cons_of_mem _ hy), List.length_cons]
      omega
  exact key tys fun y hy => (h.tya y hy).elim fun d hd => hd.three
theorem RdM.stored3 {w4 : World} {g m c4 e : Nat} {xs : List Value} (h : w4.ownsRow B e 3 (.slice (some ⟨g, 0, none⟩) m c4) m xs) (i : Nat) (a b c : Value) :
    (((w4.setCell ⟨g, i, none⟩ a).setCell ⟨g, i + 1, none⟩ b).setCell ⟨g, i + 2, none⟩ c).ownsRow B e 3 (.slice (some ⟨g, 0, none⟩) m c4) m (((xs.set i a).set (i + 1) b).set (i + 2) c) ∧ Frm (· = g) w4 (((w4.setCell ⟨g, i, none⟩ a).setCell ⟨g, i + 1, none⟩ b).setCell ⟨g, i + 2, none⟩ c) := by
  refine ⟨(World.ownsRow.stored (World.ownsRow.stored (World.ownsRow.stored h i a).1 (i + 1) b).1 (i + 2) c).1, ?_⟩
  exact (((Frm.rf (· = g) w4).st (p := ⟨g, i, none⟩) (.inl rfl) _).st (p := ⟨g, i + 1, none⟩) (.inl rfl) _).st (p := ⟨g, i + 2, none⟩) (.inl rfl) _
end
end Go.Proofs.Ytoehaijmkmdggaa
