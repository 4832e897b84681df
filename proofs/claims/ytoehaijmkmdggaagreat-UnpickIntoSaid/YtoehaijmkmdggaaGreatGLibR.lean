/- Rows of structs of the call's own. No program is named here. -/
import Derived.Test.YtoehaijmkmdggaaGreatGLib
import Derived.Test.YtoehaijmkmdggaaGreatGOpen
set_option linter.unusedSimpArgs false
set_option linter.unusedVariables false
namespace Go.Proofs.YtoehaijmkmdggaaGreat
open Go.RowKit
set_option linter.unusedVariables false
theorem flat_get (sz : Nat) (css : List (List Value)) (h3 : ∀ cs ∈ css, cs.length = sz) (j i : Nat) (hj : j < css.length) (hi : i < sz) : css.flatten[j * sz + i]? = css[j][i]? := by
  induction css generalizing j with
  | nil => simp at hj
  | cons c cs ih =>
    have hc := h3 c (by simp)
    cases j with
    | zero =>
      rw [List.flatten_cons, Nat.zero_mul, Nat.zero_add, List.getElem?_append_left (by omega)]
      rfl
    | succ j =>
      rw [List.flatten_cons, List.getElem?_append_right (by rw [hc, Nat.succ_mul]; omega), hc, show (j + 1) * sz + i - sz = j * sz + i by rw [Nat.succ_mul]; omega]
      exact ih (fun x hx => h3 x (by simp [hx])) j (by simpa using hj)
/-- A row of structs of the call's own reads as what its cells say. -/
theorem sl_of_own {α : Type} {K : World → List Value → α → Prop} {w : World} {base e sz n : Nat} {v : Value} {css : List (List Value)} {xs : List α} (h : w.ownsRow base e sz v n css.flatten) (hn : n = xs.length) (hl : css.length = xs.length) (h3 : ∀ cs ∈ css, cs.length = sz)
    (hk : ∀ (j : Nat) (h : j < css.length) (h' : j < xs.length), K w css[j] xs[j]) : Sl sz K w v xs := by
  have hc := h
  obtain ⟨_, hr⟩ := h
  subst hn
  rcases hr with ⟨rfl, h0⟩ | ⟨g, cap, cur, rfl, hg, hh, h1, h2, h3', h4⟩
  · have h0' : xs.length = 0 := by first | exact h0 | simpa using h0
    have hx : xs = [] := List.eq_nil_of_length_eq_zero h0'
    subst hx
    exact ⟨none, 0, rfl, by simp, by omega, fun h => by simp at h⟩
  · exact ⟨_, cap, rfl, h1, by simpa [maxLen] using h2, fun _ => ⟨_, rfl, fun j hj => ⟨css[j]'(by omega), h3 _ (List.getElem_mem _), fun i u hu => by
      have hi : i < sz := by
        have := (List.getElem?_eq_some_iff.1 hu).1
        rwa [h3 _ (List.getElem_mem _)] at this
      exact hc.cells (g := g) rfl (j * sz + i) u (by rw [flat_get sz css h3 j i (by omega) hi]; exact hu), hk j (by omega) hj⟩⟩⟩
/-- Rows of elements of sz cells each. -/
theorem Sl.keep {α : Type} {sz : Nat} {K : World → List Value → α → Prop} {w w' : World} {v : Value} {xs : List α} (h : Sl sz K w v xs) (k : Keep w w') (hK : ∀ cs x, K w cs x → K w' cs x) : Sl sz K w' v xs := by
  obtain ⟨A, c, e, h1, h2, h3⟩ := h
  exact ⟨A, c, e, h1, h2, fun hp => (h3 hp).imp fun ad ⟨ea, hc⟩ => ⟨ea, fun j hj => (hc j hj).imp fun cs ⟨hl, hcell, hk⟩ => ⟨hl, fun i u hu => k.cell (hcell i u hu), hK _ _ hk⟩⟩⟩
theorem Sl.mono {α : Type} {sz : Nat} {K K' : World → List Value → α → Prop} {w : World} {v : Value} {xs : List α} (h : Sl sz K w v xs) (hK : ∀ cs x, K w cs x → K' w cs x) : Sl sz K' w v xs := by
  obtain ⟨A, c, e, h1, h2, h3⟩ := h
  exact ⟨A, c, e, h1, h2, fun hp => (h3 hp).imp fun ad ⟨ea, hc⟩ => ⟨ea, fun j hj => (hc j hj).imp fun cs ⟨hl, hcell, hk⟩ => ⟨hl, hcell, hK _ _ hk⟩⟩⟩
theorem Sl.nil {α : Type} {sz : Nat} {K : World → List Value → α → Prop} (w : World) : Sl sz K w (.slice none 0 0) ([] : List α) := ⟨none, 0, rfl, by simp, by omega, fun h => by simp at h⟩
/-- A row of structs of the call's own, above w0's heap. -/
def Own {α : Type} (enc : α → List Value) (sz e : Nat) (w0 w : World) (v : Value) (xs : List α) : Prop := w.ownsRow w0.heap.size e sz v xs.length (xs.map enc).flatten ∧ Keep w0 w
theorem Own.keep {α : Type} {enc : α → List Value} {sz e : Nat} {w0 w w' : World} {v : Value} {xs : List α} (h : Own enc sz e w0 w v xs) (k : Keep w w') : Own enc sz e w0 w' v xs := ⟨own_keep h.1 k, Keep.tr h.2 k⟩
theorem Own.nil {α : Type} {enc : α → List Value} {sz e : Nat} {w0 w : World} (k : Keep w0 w) : Own enc sz e w0 w (.slice none 0 0) [] := ⟨⟨by simp, .inl ⟨rfl, rfl⟩⟩, k⟩
theorem Own.slice {α : Type} {enc : α → List Value} {sz e : Nat} {w0 w : World} {v : Value} {xs : List α} (h : Own enc sz e w0 w v xs) : ∃ A c, v = .slice A xs.length c := own_slice h.1
theorem Own.lt {α : Type} {enc : α → List Value} {sz e : Nat} {w0 w : World} {v : Value} {xs : List α} (h : Own enc sz e w0 w v xs) : ∀ k, v.ownBlock = some k → w0.heap.size ≤ k ∧ k < w.heap.size := World.ownsRow.lt h.1
theorem Own.sl {α : Type} {enc : α → List Value} {sz e : Nat} {w0 w : World} {v : Value} {xs : List α} (h : Own enc sz e w0 w v xs) (hz : ∀ a, (enc a).length = sz) {K : World → List Value → α → Prop} (hK : ∀ a ∈ xs, K w (enc a) a) : Sl sz K w v xs :=
  sl_of_own h.1 rfl (by simp) (fun cs hcs => by
    obtain ⟨a, _, rfl⟩ := List.mem_map.1 hcs
    exact hz a) (fun j h1 h2 => by
    rw [List.getElem_map]
    exact hK _ (List.getElem_mem _))
theorem lit_cells {w : World} {cs : Array Value} {t : TypeId} {n : Nat} (hn : w.heap.size = n) (j : Nat) {u : Value} (h : cs[j]? = some u) : (w.alloc (.cells cs t)).cell? ⟨n, j, none⟩ = some u := by
  subst hn
  rw [← h]
  exact top_cells (heap_alloc_new w _) j
section
variable {P : Program}
end
end Go.Proofs.YtoehaijmkmdggaaGreat
