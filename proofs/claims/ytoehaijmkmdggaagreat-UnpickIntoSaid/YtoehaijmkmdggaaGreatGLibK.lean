/- Words for the walks: cells of structs that change, bytes that lay there long before. -/
import Derived.Test.YtoehaijmkmdggaaGreatGLib
import Derived.Test.YtoehaijmkmdggaaGreatGLibR
import Derived.Test.YtoehaijmkmdggaaGreatProg
import Derived.Laws.ResultCell
set_option linter.unusedSimpArgs false
set_option linter.unusedVariables false
namespace Go.Proofs.YtoehaijmkmdggaaGreat
open Go.RowKit
set_option linter.unusedVariables false
set_option maxRecDepth 100000
theorem heap_setT {w : World} {p j : Nat} {cs : Array Value} {t : TypeId} (h : w.heap[p]? = some (.cells cs t)) (u : Value) : (w.setCell ⟨p, j, none⟩ u).heap[p]? = some (.cells (cs.setIfInBounds j u) t) := by
  simp [World.setCell, Array.getElem?_modify, h]
theorem src3 {W : World} {g : Nat} {a b c : Value} {t : TypeId} (h : W.heap[g]? = some (.cells #[a, b, c] t)) : Src W 3 (.slice (some ⟨g, 0, none⟩) 1 1) 1 [a, b, c] :=
  ⟨rfl, _, _, rfl, fun _ => ⟨_, rfl, fun j x hx => by
    rw [add_pl, top_cells h, List.getElem?_toArray]
    exact hx⟩⟩
section
variable {P : Program}
/-- A slice of bytes, from there on, which lay there long before. -/
theorem slFrom0 {w w0 : World} {ops : Array Oper} {rest : List Oper} {o : Oper} {a : Act} {Q : Exit → Act → World → Prop} (hgd : o.guard = none) (x lo : Operand) (t e : Nat) (ho : o.op = .slice t x (some lo) none none)
    (ht : P.underlying t = some (.slice e)) (hs : (P.info? e).map (fun i => i.size) = some 1) (v : Value) (L : List UInt8) (hx : a.eval x = v) (hb : Bs w0 v L) (kk : IntKind) (i : Int) (hlo : a.eval lo = .int kk i) (k : Nat) (hi : i = (k : Int)) (m : Nat) (hm : L.length = k + m)
    (K : ∀ A' c', Bs w0 (.slice A' m c') (L.drop k) → m ≤ c' → c' ≤ 9223372036854775807 → wpList P ops Q rest (a.put o.dst (.slice A' m c')) w) : wpList P ops Q (o :: rest) a w := by
  have hb0 := hb
  obtain ⟨A, c, rfl, g1, g2, g3⟩ := hb
  subst hi
  refine wpList_sl hgd x (some lo) none t e 1 ho ht hs A L.length c hx k L.length (.inr ⟨kk, by simp [hlo]⟩) (.inl ⟨rfl, rfl⟩) (by omega) g1 ?_
  have hb1 := hb0.sub k L.length (by omega) (Nat.le_refl _)
  rw [List.take_length] at hb1
  rw [show L.length - k = m from by omega] at hb1 ⊢
  exact K _ _ hb1 (by omega) (by omega)
end
/-- A struct and one more are what a function gives. -/
theorem results_cell2 {P : Program} {fn : Func} {p u : Tmp} {ty : TypeId} (h : fn.results = #[.cell p ty, .tmp u]) (tmps : Array Value) (w : World) (g : Nat) (t : TypeId) (cs : Array Value) (fr : Nat × Nat) (d : TypeDesc)
    (hp : tmps.getD p undef = .pointer (some ⟨g, 0, none⟩)) (hg : w.heap[g]? = some (.cells cs t fr))
    (hu : P.underlying ty = some d) (hd : (match d with | .struct _ | .array _ _ => true | _ => false) = true) (hi : (P.info? ty).map (·.size) = some cs.size) :
    (results fn tmps).run P w = .ok (.tuple #[.agg cs, tmps.getD u undef]) w := by
  have hp' : tmps[p]?.getD undef = .pointer (some ⟨g, 0, none⟩) := by simpa using hp
  simp [results_cell_tmp h, hp', asAddr, run_loadVar_row w g t ty cs fr d hg hu hd hi, Result.andThen]
theorem sizeB8 : (Tryz.prog.info? 5).map (fun i => i.size) = some 1 := by kernel_rfl
theorem size_set (w : World) (a : Addr) (v : Value) : (w.setCell a v).heap.size = w.heap.size := by simp [World.setCell]
theorem heap_set3 {w : World} {b : Nat} {x y z : Value} {ty : TypeId} (h : w.heap[b]? = some (.cells #[x, y, z] ty)) (u v t : Value) : (((w.setCell ⟨b, 0, none⟩ u).setCell ⟨b, 1, none⟩ v).setCell ⟨b, 2, none⟩ t).heap[b]? = some (.cells #[u, v, t] ty) := heap_setT (j := 2) (heap_setT (j := 1) (heap_setT (j := 0) h u) v) t
theorem frm_set3 (w : World) (b : Nat) (u v t : Value) : Frm (· = b) w (((w.setCell ⟨b, 0, none⟩ u).setCell ⟨b, 1, none⟩ v).setCell ⟨b, 2, none⟩ t) :=
  Frm.st (S := (· = b)) (p := ⟨b, 2, none⟩) (Frm.st (S := (· = b)) (p := ⟨b, 1, none⟩) (Frm.st (S := (· = b)) (p := ⟨b, 0, none⟩) (Frm.rf _ w) (.inl rfl) _) (.inl rfl) _) (.inl rfl) _
theorem size_alloc (w : World) (o : Obj) : (w.alloc o).heap.size = w.heap.size + 1 := by simp
theorem new_second (w : World) (o o' : Obj) : ((w.alloc o).alloc o').heap[w.heap.size + 1]? = some o' := by
  rw [← size_alloc w o]
  exact heap_alloc_new _ _
end Go.Proofs.YtoehaijmkmdggaaGreat
