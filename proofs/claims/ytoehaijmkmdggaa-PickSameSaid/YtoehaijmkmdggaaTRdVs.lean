/- Walks: the reader of package unpick: a value, given what a block comes to. -/
import Derived.Test.YtoehaijmkmdggaaTRdN
set_option linter.unusedSimpArgs false
set_option linter.unusedVariables false
namespace Go.Proofs.Ytoehaijmkmdggaa
open Go.RowKit
open Em (Ty)
set_option linter.unusedVariables false
set_option linter.unusedSimpArgs false
set_option maxRecDepth 100000
section
variable {B f : Nat} {Z : Nat → Prop} {w0 w : World} {p : Nat} {bv lv tv : Value} {its : List (Em.Blk × Value)} {tys : List (Ty × List Value)} {s : Em.Rd}
theorem cell_at {w : World} {B e n i j g c : Nat} {v u : Value} {tys : List (Ty × List Value)} {y : Ty × List Value} (h : w.ownsRow B e 3 v n (tys.map (·.2)).flatten) (h3 : ∀ x ∈ tys, x.2.length = 3) (hi : tys[i]? = some y) (hu : y.2[j]? = some u) (hv : v = .slice (some ⟨g, 0, none⟩) n c) : w.cell? ⟨g, i * 3 + j, none⟩ = some u := by
  have hl := (List.getElem?_eq_some_iff.1 hi).1
  have hj := (List.getElem?_eq_some_iff.1 hu).1
  subst hv
  have hy := h3 y (List.mem_of_getElem? hi)
  have hc := h.cells (g := g) rfl (i * 3 + j) u (by
    rw [flat_get 3 _ (fun cs hcs => by
      obtain ⟨it, hit, rfl⟩ := List.mem_map.1 hcs
      exact h3 it hit) i j (by simpa using hl) (by omega), List.getElem_map, (List.getElem?_eq_some_iff.1 hi).2]
    exact hu)
  rwa [add_pl] at hc
/-- The type of a block that came: what the reader has. -/
theorem RdM.ty_at {tt : Nat} {ex : List Value} (h : RdM tt B Z w0 w p bv lv tv ex its tys s) {i : Nat} {t : Ty} (hi : s.ty[i]? = some t) : i < its.length ∧ ∃ (g c' d' : Nat) (o : List UInt8) (n : Int) (A : Option Addr) (m c2 : Nat), tv = .slice (some ⟨g, 0, none⟩) its.length c' ∧ TyK d' w [.string (str o), .int .i64 n, .slice A m c2] t ∧ w.cell? ⟨g, i * 3, none⟩ = some (.string (str o)) ∧ w.cell? ⟨g, i * 3 + 1, none⟩ = some (.int .i64 n) ∧ w.cell? ⟨g, i * 3 + 2, none⟩ = some (.slice A m c2) := by
  rw [h.ty, List.getElem?_map] at hi
  cases hy : tys[i]? with
  | none => rw [hy] at hi; cases hi
  | some y =>
    rw [hy] at hi
    injection hi with hi
    have hil := (List.getElem?_eq_some_iff.1 hy).1
    have hl := h.len
    refine ⟨by omega, ?_⟩
    obtain ⟨d', hd'⟩ := h.tya y (List.mem_of_getElem? hy)
    have hd2 := hd'.ty
    rw [show y.1 = t from hi] at hd2
    cases d' with
    | zero => exact hd2.elim
    | succ d' =>
      obtain ⟨v, hy2, hn, hs⟩ := id hd2
      obtain ⟨A, c, rfl, _⟩ := id hs
      obtain ⟨_, ⟨_, h00⟩ | ⟨g, c', cur, e, he⟩⟩ := id h.tow
      · omega
      · refine ⟨g, c', d' + 1, _, _, A, _, c, by rw [e, h.len], by rw [← hy2]; exact hd2, ?_, ?_, ?_⟩
        · exact cell_at (j := 0) h.tow (fun x hx => (h.tya x hx).elim fun _ h => h.three) hy (by rw [hy2]; rfl) e
        · exact cell_at (j := 1) h.tow (fun x hx => (h.tya x hx).elim fun _ h => h.three) hy (by rw [hy2]; rfl) e
        · exact cell_at (j := 2) h.tow (fun x hx => (h.tya x hx).elim fun _ h => h.three) hy (by rw [hy2]; rfl) e
end
end Go.Proofs.Ytoehaijmkmdggaa
