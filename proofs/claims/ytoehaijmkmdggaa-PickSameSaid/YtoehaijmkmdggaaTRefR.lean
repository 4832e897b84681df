/- Plain: the reference's heap: of each word which block begins there. What a Heap of the reference is in memory. Walks: the functions of the reference's heap. Walk: Alloc of the reference's heap. -/
import Derived.Test.YtoehaijmkmdggaaTHeapPure
import Derived.Test.YtoehaijmkmdggaaTHeapR
set_option linter.unusedSimpArgs false
set_option linter.unusedVariables false
namespace Go.Proofs.Ytoehaijmkmdggaa.Em
end Go.Proofs.Ytoehaijmkmdggaa.Em
namespace Go.Proofs.Ytoehaijmkmdggaa
open Go.RowKit Go.Maps
set_option linter.unusedVariables false
set_option linter.unusedSimpArgs false
section
variable {w w1 : World} {p sz : Nat} {a t f : Value} {fv : List Value} {A T : List Int} {F : List (List Int)}
end
end Go.Proofs.Ytoehaijmkmdggaa
namespace Go.Proofs.Ytoehaijmkmdggaa
open Go.RowKit Go.Maps
set_option linter.unusedVariables false
set_option maxRecDepth 100000
end Go.Proofs.Ytoehaijmkmdggaa
namespace Go.Proofs.Ytoehaijmkmdggaa
open Go.RowKit Go.Maps
set_option linter.unusedVariables false
set_option maxRecDepth 100000
/-- What was in S may have changed; what is in S' was in S, or is new. -/
def Ext (w w' : World) (S S' : List Nat) : Prop := Frm (· ∈ S) w w' ∧ ∀ k ∈ S', k ∈ S ∨ w.heap.size ≤ k
theorem Ext.rf (w : World) (S : List Nat) : Ext w w S S := ⟨Frm.rf _ _, fun k h => .inl h⟩
theorem Ext.tr {a b c : World} {S T U : List Nat} (h : Ext a b S T) (k : Ext b c T U) : Ext a c S U :=
  ⟨h.1.trn k.1 h.2, fun i hi => by
    rcases k.2 i hi with e | e
    · exact h.2 i e
    · exact .inr (Nat.le_trans h.1.size e)⟩
theorem Ext.keep {a b c : World} {S T : List Nat} (h : Ext a b S T) (k : Keep b c) : Ext a c S T := ⟨h.1.tr (k.frm _), h.2⟩
theorem Ext.of_keep {a b c : World} {S T : List Nat} (k : Keep a b) (h : Ext b c S T) : Ext a c S T := ⟨(k.frm _).tr h.1, fun i hi => by
  rcases h.2 i hi with e | e
  · exact .inl e
  · exact .inr (Nat.le_trans k.size e)⟩
section
variable {P : Program}
/-- append of ints, at the walk. -/
theorem appI {w : World} {ops : Array Oper} {rest : List Oper} {o : Oper} {a : Act} {Q : Exit → Act → World → Prop} (l m : List Int) (hgd : o.guard = none) (s x : Operand) (t e : TypeId) (z : Value) (bytes : Nat) (ht : P.underlying t = some (.slice e))
    (hinfo : (P.info? e).map (fun i => (i.zero, i.size, i.bytes)) = some (some z, 1, bytes)) (hz : z.cells.size = 1) (hb : bytes ≤ 1000) (ho : o.op = .call { callee := .builtin .append, args := #[s, x], argTypes := #[t, t] })
    (base : Nat) (v : Value) (hs : a.eval s = v) (hown : w.ownsRow base e 1 v l.length (l.map (Value.int .i64))) (y : Value) (hx : a.eval x = y) (hy : Is w y m) (hbase : base ≤ w.heap.size) (hl : l.length + m.length ≤ 1000000000)
    (h : ∀ v' w', w'.ownsRow base e 1 v' (l ++ m).length ((l ++ m).map (Value.int .i64)) → w.grownBy w' v.ownBlock → (v'.ownBlock = v.ownBlock ∨ v'.ownBlock = some w.heap.size) → wpList P ops Q rest (a.put o.dst v') w') : wpList P ops Q (o :: rest) a w :=
  app1 hgd s x t e z bytes ht hinfo hz hb ho base v (l.map (Value.int .i64)) hs (by rw [List.length_map]; exact hown) y (m.map (Value.int .i64)) hx hy (int_one m) hbase (by simpa using hl) fun v' w' h1 h2 h3 => h v' w' (by rw [← List.map_append, List.length_map] at h1; exact h1) h2 h3
end
end Go.Proofs.Ytoehaijmkmdggaa
