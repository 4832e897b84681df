/- Walks: unpick.Graph. -/
import Derived.Test.YtoehaijmkmdggaaTRdE
import Derived.Test.YtoehaijmkmdggaaTRdVs
import Derived.Test.YtoehaijmkmdggaaTRdW
import Derived.Test.YtoehaijmkmdggaaTLibK
import Derived.LaidEql
import Derived.Stop.Asserts
set_option linter.unusedSimpArgs false
set_option linter.unusedVariables false
namespace Go.Proofs.Ytoehaijmkmdggaa
open Go.RowKit
open Em (Ty)
set_option linter.unusedVariables false
set_option linter.unusedSimpArgs false
set_option maxRecDepth 100000
/-- The reading's end: its graph, away from every block that holds a graph's cells. -/
theorem RdM.slT {tt B : Nat} {Z : Nat → Prop} {w0 w : World} {p : Nat} {bv lv tv : Value} {ex : List Value} {its : List (Em.Blk × Value)} {tys : List (Ty × List Value)} {s : Em.Rd} (h : RdM tt B Z w0 w p bv lv tv ex its tys s) {b : Nat} {cs : Array Value} {fr : Nat × Nat} (hS : w.heap[b]? = some (.cells cs 31 fr)) : Sl 3 (KBkS [b]) w lv s.bl ∧ AvR [b] lv := by
  have av : ∀ {e sz n : Nat} {v : Value} {xs : List Value}, ¬ e = 31 → w.ownsRow B e sz v n xs → AvR [b] v := fun he ho ad n c e hn hm => by
    obtain ⟨_, ⟨e2, _⟩ | ⟨g, c2, cur, e2, hb, hg, _⟩⟩ := ho
    · rw [e2] at e
      cases e
    · rw [e2] at e
      injection e with e _ _
      injection e with e
      subst e
      have hm : g = b := by simpa using hm
      subst hm
      rw [hS] at hg
      injection hg with hg
      injection hg with _ hg _
      exact he hg.symm
  refine ⟨sl_of_own h.row (by rw [h.bl]; simp) (by rw [h.bl]; simp) (fun cs hcs => ?_) fun j h1 h2 => ?_, av (by decide) h.row⟩
  · obtain ⟨it, _, rfl⟩ := List.mem_map.1 hcs
    rfl
  · rw [List.length_map] at h1
    have hmem := List.getElem_mem h1
    have e : s.bl[j] = its[j].1 := by simp [h.bl]
    rw [List.getElem_map, e]
    refine ⟨_, rfl, (h.wf _ hmem).1, ?_, av (by decide) (h.kid _ hmem)⟩
    refine sl_of_own (h.kid _ hmem) rfl (by simp) (fun cs hcs => ?_) fun q g1 g2 => ?_
    · obtain ⟨it, _, rfl⟩ := List.mem_map.1 hcs
      rfl
    · rw [List.getElem_map]
      exact ⟨rfl, (h.wf _ hmem).2 _ (List.getElem_mem _)⟩
/-- A graph that lies in none of the blocks that hold a graph's cells. -/
def GrT (w : World) (v : Value) (g : Em.Gr) : Prop := GrV w v g ∧ ∀ (b : Nat) (cs : Array Value) (fr : Nat × Nat), w.heap[b]? = some (.cells cs 31 fr) → GrS [b] w v g
theorem GrT.keep {w w' : World} {v : Value} {g : Em.Gr} (h : GrT w v g) (k : Keep w w') : GrT w' v g := by
  refine ⟨h.1.keep k, fun b cs fr hb => ?_⟩
  by_cases hlt : b < w.heap.size
  · have h1 : w.heap[b]? = some w.heap[b] := Array.getElem?_eq_getElem hlt
    have h2 := (k.frm fun _ => False).heap (fun h => h) h1
    rw [hb] at h2
    rw [← h2] at h1
    exact (h.2 b cs fr h1).frm (k.frm _)
  · exact GrS.of h.1 k fun i hi => by
      have : i = b := by simpa using hi
      omega
/-- A graph and an error were answered. -/
def GrR (w : World) (o : Em.Gr × Int) (e : Ending) (w' : World) : Prop := ∃ v, e = .returned (.tuple #[v, .int .i64 o.2]) ∧ GrT w' v o.1 ∧ Keep w w'
theorem GrR.gr {w w' : World} {o : Em.Gr × Int} {e : Ending} (h : GrR w o e w') : ∃ v, e = .returned (.tuple #[v, .int .i64 o.2]) ∧ GrV w' v o.1 ∧ Keep w w' := by
  obtain ⟨v, h1, h2, h3⟩ := h
  exact ⟨v, h1, h2.1, h3⟩
theorem GrR.none {w w' : World} {o : Em.Gr × Int} {c : Int} (h : o = (⟨(false, 0), []⟩, c)) (k : Keep w w') : GrR w o (.returned (.tuple #[.agg #[.bool false, .int .i64 0, .slice none 0 0], .int .i64 c])) w' := by
  subst h
  exact ⟨_, rfl, ⟨⟨_, rfl, (by decide : (Lit.int .i64 0).wf = true), Sl.nil _⟩, fun b cs fr hb => ⟨_, rfl, (by decide : (Lit.int .i64 0).wf = true), Sl.nil _, fun ad n c e => (by cases e)⟩⟩, k⟩
theorem RdM.start {tt : Nat} {w0 w : World} {p : Nat} {bv : Value} {ex : List Value} {b : List UInt8} (ht : w.heap[p]? = some (.cells (bv :: .slice none 0 0 :: .slice none 0 0 :: ex).toArray tt)) (hb : Bs w0 bv b) (k : Keep w0 w) (hp : w0.heap.size ≤ p) : RdM tt p (fun _ => False) w0 w p bv (.slice none 0 0) (.slice none 0 0) ex [] [] ⟨b, [], []⟩ :=
  { top := ht, byt := hb, k0 := k, p0 := ⟨hp, Nat.le_refl _⟩, row := ⟨rfl, .inl ⟨rfl, rfl⟩⟩, kid := fun it h => (by cases h), wf := fun it h => (by cases h), tow := ⟨rfl, .inl ⟨rfl, rfl⟩⟩, tya := fun y h => (by cases h), z := fun k h => h.elim, d1 := fun k e => by simp [Value.ownBlock] at e, d2 := fun k e => by simp [Value.ownBlock] at e, d3 := fun it h => (by cases h), bl := rfl, ty := rfl, len := rfl, lim := by simp }
end Go.Proofs.Ytoehaijmkmdggaa
