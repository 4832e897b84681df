/- Walks: the reader of the reference: a block that comes the first time. -/
import Derived.Test.YtoehaijmkmdggaaGreatGRvV
import Derived.Test.YtoehaijmkmdggaaGreatGRvR
import Derived.Deep.DeepCutAuto
import Derived.Deep.CutBlock
import Derived.Deep.Cut
set_option linter.unusedSimpArgs false
set_option linter.unusedVariables false
namespace Go.Proofs.YtoehaijmkmdggaaGreat
open Go.RowKit
open Em (Ty)
set_option linter.unusedVariables false
set_option linter.unusedSimpArgs false
set_option maxRecDepth 100000
theorem own_at1 {w : World} {B e sz n : Nat} {v : Value} {xs : List Value} (h : w.ownsRow B e sz v (n + 1) xs) : ∃ g c, v = .slice (some ⟨g, 0, none⟩) (n + 1) c := by
  obtain ⟨_, ⟨_, h00⟩ | ⟨g, c, cur, e, _⟩⟩ := h
  · omega
  · exact ⟨g, c, e⟩
/-- What the stores behind the append want: the row's cells are not frozen, and are there; the reader's third cell, in both orders. -/
theorem push_facts {tt B : Nat} {Z : Nat → Prop} {w0 w Wb w4 : World} {p : Nat} {bv lv tv : Value} {ex : List Value} {its : List (Em.Blk × Value)} {tys : List (Ty × List Value)} {s : Em.Rd} {g c4 : Nat} {z0 z1 z2 : Value} (h : RdM tt B Z w0 w p bv lv tv ex its tys s) (k : Keep w Wb) (ha : App Wb B 25 3 tv (tys.length + 1) ((tys.map (·.2)).flatten ++ [z0, z1, z2]) (.slice (some ⟨g, 0, none⟩) (tys.length + 1) c4) w4) :
    (w4.cell? ⟨p, 2, none⟩ = some tv ∧ w4.frozen? ⟨p, 2, none⟩ = false) ∧ (w4.cell? ⟨g, tys.length * 3, none⟩ = some z0 ∧ w4.frozen? ⟨g, tys.length * 3, none⟩ = false) ∧ (w4.cell? ⟨g, tys.length * 3 + 1, none⟩ = some z1 ∧ w4.frozen? ⟨g, tys.length * 3 + 1, none⟩ = false) ∧ (w4.cell? ⟨g, tys.length * 3 + 2, none⟩ = some z2 ∧ w4.frozen? ⟨g, tys.length * 3 + 2, none⟩ = false) ∧ ¬ g = p ∧ ¬ p = g ∧ True := by
  obtain ⟨h1, h2, h3⟩ := ha
  have hg : tv.ownBlock = some g ∨ w.heap.size ≤ g := by
    rcases h3 with e | e
    · exact .inl (by rw [← e]; rfl)
    · have e : some g = some Wb.heap.size := e
      injection e with e
      have := k.size
      exact .inr (by omega)
  have hp := (h.lt p (.inl (.inl rfl))).2
  have hgp : ¬ g = p := by
    rcases hg with e | e
    · exact h.d2 g e
    · omega
  have htop : w4.heap[p]? = some (.cells (bv :: lv :: tv :: ex).toArray tt) := (Frm.of_grown (S := fun k => tv.ownBlock = some k) h2 fun _ e => e).heap (fun e => h.d2 p e rfl) ((k.frm fun _ => False).heap (fun h => h) h.top)
  have hfl := h.flat3
  have hc : ∀ j u, [z0, z1, z2][j]? = some u → w4.cell? ⟨g, tys.length * 3 + j, none⟩ = some u := fun j u hu => by
    have := h1.cells (g := g) rfl (tys.length * 3 + j) u (by rw [List.getElem?_append_right (by omega), hfl, Nat.add_sub_cancel_left]; exact hu)
    rwa [add_pl] at this
  have e2 := top_cells htop 2
  simp only [List.getElem?_toArray, List.getElem?_cons_succ, List.getElem?_cons_zero] at e2
  exact ⟨⟨e2, top_free htop 2⟩, ⟨hc 0 _ rfl, World.ownsRow.frozenAt h1 _⟩, ⟨hc 1 _ rfl, World.ownsRow.frozenAt h1 _⟩, ⟨hc 2 _ rfl, World.ownsRow.frozenAt h1 _⟩, hgp, fun e => hgp e.symm, trivial⟩
end Go.Proofs.YtoehaijmkmdggaaGreat
