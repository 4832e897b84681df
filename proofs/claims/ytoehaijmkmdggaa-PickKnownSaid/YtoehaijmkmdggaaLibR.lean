/- Rows of structs of the call's own. No program is named here. -/
import Derived.Test.YtoehaijmkmdggaaLib
import Derived.Test.YtoehaijmkmdggaaOpen
namespace Go.Proofs.Ytoehaijmkmdggaa
open Go.RowKit
set_option linter.unusedVariables false
theorem flat_get (sz : Nat) (css : List (List Value)) (h3 : ∀ cs ∈ css, cs.length = sz) (j i : Nat) (hj : j < css.length) (hi : i < sz) : css.flatten[j * sz + i]? = css[j][i]? := by
  induction css generalizing j with
  | nil => simp at hj
  | cons c cs ih =>
    have hc := h3 c (by simp)
    cases j with
    | zero =>
      rw [List.flatten_cons, Nat.zero_mul, Nat.zero_add, List.getElem?_append_left (by omega)]
      rfl
    | succ j =>
      rw [List.flatten_cons, List.getElem?_append_right (by rw [hc, Nat.succ_mul]; omega), hc, show (j + 1) * sz + i - sz = j * sz + i by rw [Nat.succ_mul]; omega]
      exact ih (fun x hx => h3 x (by simp [hx])) j (by simpa using hj)
theorem flat_len (sz : Nat) (css : List (List Value)) (h3 : ∀ cs ∈ css, cs.length = sz) : css.flatten.length = css.length * sz := by
  induction css with
  | nil => simp
  | cons c cs ih =>
    rw [List.flatten_cons, List.length_append, ih fun x hx => h3 x (by simp [hx]), h3 c (by simp), List.length_cons, Nat.succ_mul, Nat.add_comm]
/-- A row of structs of the call's own reads as what its cells say. -/
theorem sl_of_own {α : Type} {K : World → List Value → α → Prop} {w : World} {base e sz n : Nat} {v : Value} {css : List (List Value)} {xs : List α} (h : w.ownsRow base e sz v n css.flatten) (hn : n = xs.length) (hl : css.length = xs.length) (h3 : ∀ cs ∈ css, cs.length = sz)
    (hk : ∀ (j : Nat) (h : j < css.length) (h' : j < xs.length), K w css[j] xs[j]) : Sl sz K w v xs := by
  have hc := h
  obtain ⟨_, hr⟩ := h
  subst hn
  rcases hr with ⟨rfl, h0⟩ | ⟨g, cap, cur, rfl, hg, hh, h1, h2, h3', h4⟩
  · have h0' : xs.length = 0 := by first | exact h0 | simpa using h0
    have hx : xs = [] := List.eq_nil_of_length_eq_zero h0'
    subst hx
    exact ⟨none, 0, rfl, by simp, by omega, fun h => by simp at h⟩
  · exact ⟨_, cap, rfl, h1, by simpa [maxLen] using h2, fun _ => ⟨_, rfl, fun j hj => ⟨css[j]'(by omega), h3 _ (List.getElem_mem _), fun i u hu => by
      have hi : i < sz := by
        have := (List.getElem?_eq_some_iff.1 hu).1
        rwa [h3 _ (List.getElem_mem _)] at this
      exact hc.cells (g := g) rfl (j * sz + i) u (by rw [flat_get sz css h3 j i (by omega) hi]; exact hu), hk j (by omega) hj⟩⟩⟩
/-- Rows of elements of sz cells each. -/
theorem Sl.keep {α : Type} {sz : Nat} {K : World → List Value → α → Prop} {w w' : World} {v : Value} {xs : List α} (h : Sl sz K w v xs) (k : Keep w w') (hK : ∀ cs x, K w cs x → K w' cs x) : Sl sz K w' v xs := by
  obtain ⟨A, c, e, h1, h2, h3⟩ := h
  exact ⟨A, c, e, h1, h2, fun hp => (h3 hp).imp fun ad ⟨ea, hc⟩ => ⟨ea, fun j hj => (hc j hj).imp fun cs ⟨hl, hcell, hk⟩ => ⟨hl, fun i u hu => k.cell (hcell i u hu), hK _ _ hk⟩⟩⟩
theorem Sl.mono {α : Type} {sz : Nat} {K K' : World → List Value → α → Prop} {w : World} {v : Value} {xs : List α} (h : Sl sz K w v xs) (hK : ∀ cs x, K w cs x → K' w cs x) : Sl sz K' w v xs := by
  obtain ⟨A, c, e, h1, h2, h3⟩ := h
  exact ⟨A, c, e, h1, h2, fun hp => (h3 hp).imp fun ad ⟨ea, hc⟩ => ⟨ea, fun j hj => (hc j hj).imp fun cs ⟨hl, hcell, hk⟩ => ⟨hl, hcell, hK _ _ hk⟩⟩⟩
theorem Sl.nil {α : Type} {sz : Nat} {K : World → List Value → α → Prop} (w : World) : Sl sz K w (.slice none 0 0) ([] : List α) := ⟨none, 0, rfl, by simp, by omega, fun h => by simp at h⟩
/-- A row of structs of the call's own, above w0's heap. -/
def Own {α : Type} (enc : α → List Value) (sz e : Nat) (w0 w : World) (v : Value) (xs : List α) : Prop := w.ownsRow w0.heap.size e sz v xs.length (xs.map enc).flatten ∧ Keep w0 w
theorem Own.keep {α : Type} {enc : α → List Value} {sz e : Nat} {w0 w w' : World} {v : Value} {xs : List α} (h : Own enc sz e w0 w v xs) (k : Keep w w') : Own enc sz e w0 w' v xs := ⟨own_keep h.1 k, Keep.tr h.2 k⟩
theorem Own.nil {α : Type} {enc : α → List Value} {sz e : Nat} {w0 w : World} (k : Keep w0 w) : Own enc sz e w0 w (.slice none 0 0) [] := ⟨⟨by simp, .inl ⟨rfl, rfl⟩⟩, k⟩
theorem Own.slice {α : Type} {enc : α → List Value} {sz e : Nat} {w0 w : World} {v : Value} {xs : List α} (h : Own enc sz e w0 w v xs) : ∃ A c, v = .slice A xs.length c := own_slice h.1
theorem Own.lt {α : Type} {enc : α → List Value} {sz e : Nat} {w0 w : World} {v : Value} {xs : List α} (h : Own enc sz e w0 w v xs) : ∀ k, v.ownBlock = some k → w0.heap.size ≤ k ∧ k < w.heap.size := World.ownsRow.lt h.1
theorem Own.sl {α : Type} {enc : α → List Value} {sz e : Nat} {w0 w : World} {v : Value} {xs : List α} (h : Own enc sz e w0 w v xs) (hz : ∀ a, (enc a).length = sz) {K : World → List Value → α → Prop} (hK : ∀ a ∈ xs, K w (enc a) a) : Sl sz K w v xs :=
  sl_of_own h.1 rfl (by simp) (fun cs hcs => by
    obtain ⟨a, _, rfl⟩ := List.mem_map.1 hcs
    exact hz a) (fun j h1 h2 => by
    rw [List.getElem_map]
    exact hK _ (List.getElem_mem _))
theorem lit_cells {w : World} {cs : Array Value} {t : TypeId} {n : Nat} (hn : w.heap.size = n) (j : Nat) {u : Value} (h : cs[j]? = some u) : (w.alloc (.cells cs t)).cell? ⟨n, j, none⟩ = some u := by
  subst hn
  rw [← h]
  exact top_cells (heap_alloc_new w _) j
/-- A row of structs that was written down. -/
theorem sl_lit {α : Type} {K : World → List Value → α → Prop} {w : World} {t : TypeId} {sz n m : Nat} {cs : Array Value} (enc : α → List Value) (xs : List α) (hcs : cs = ((xs.map enc).flatten).toArray) (hn : w.heap.size = n) (hm : m = xs.length) (hz : ∀ a, (enc a).length = sz) (hb : m ≤ 1000000)
    (hK : ∀ a ∈ xs, K (w.alloc (.cells cs t)) (enc a) a) : Sl sz K (w.alloc (.cells cs t)) (.slice (some ⟨n, 0, none⟩) m m) xs := by
  subst hm hcs
  refine ⟨_, _, rfl, Nat.le_refl _, by omega, fun _ => ⟨_, rfl, fun j hj => ⟨enc xs[j], hz _, fun i u hu => ?_, hK _ (List.getElem_mem _)⟩⟩⟩
  have hi : i < sz := by
    have := (List.getElem?_eq_some_iff.1 hu).1
    rwa [hz] at this
  rw [add_pl]
  refine lit_cells hn _ ?_
  rw [List.getElem?_toArray, flat_get sz _ (fun c hc => by
    obtain ⟨a, _, rfl⟩ := List.mem_map.1 hc
    exact hz a) j i (by simpa using hj) hi, List.getElem_map]
  exact hu
section
variable {P : Program}
/-- append of one struct at the walk. -/
theorem app_struct {w : World} {ops : Array Oper} {rest : List Oper} {o : Oper} {a : Act} {Q : Exit → Act → World → Prop} {α : Type} (enc : α → List Value) (hgd : o.guard = none) (s x : Operand) (t e : TypeId) (z : Value) (sz bytes : Nat) (ht : P.underlying t = some (.slice e))
    (hinfo : (P.info? e).map (fun i => (i.zero, i.size, i.bytes)) = some (some z, sz, bytes)) (hz : z.cells.size = sz) (hsz : 0 < sz) (hb : bytes ≤ 1000) (ho : o.op = .call { callee := .builtin .append, args := #[s, x], argTypes := #[t, t] })
    (w0 : World) (v : Value) (xs : List α) (hs : a.eval s = v) (hown : Own enc sz e w0 w v xs) (g c : Nat) (b : α) (hx : a.eval x = .slice (some ⟨g, 0, none⟩) 1 c) (henc : (enc b).length = sz) (h1 : ∀ u ∈ enc b, u.oneCell' = true) (hc : ∀ j u, (enc b)[j]? = some u → w.cell? ⟨g, j, none⟩ = some u) (hl : xs.length ≤ 1000000000)
    (h : ∀ v' w', Own enc sz e w0 w' v' (xs ++ [b]) → Frm (fun k => v.ownBlock = some k) w w' → wpList P ops Q rest (a.put o.dst v') w') : wpList P ops Q (o :: rest) a w :=
  wpList_app hgd s x t ho w0.heap.size e z sz bytes ht hinfo hz hsz v xs.length (xs.map enc).flatten hs hown.1 _ 1 (enc b) hx ⟨by omega, _, _, rfl, fun _ => ⟨_, rfl, fun j u hu => by rw [add_pl]; exact hc j u hu⟩⟩ h1 (by simp only [maxLen]; omega) (by
    have : (xs.length + 1) * bytes ≤ 1000000001 * 1000 := Nat.mul_le_mul (by omega) hb
    omega) hown.2.size fun v' w' h2 => by
      have hF : Frm (fun k => v.ownBlock = some k) w w' := Frm.of_grown h2.2.1 fun _ e => e
      refine h v' w' ⟨?_, Frm.keep hown.2 hF fun i e => (hown.lt i e).1⟩ hF
      have := h2.1
      rw [List.map_append, List.flatten_append, List.length_append]
      simpa using this
end
end Go.Proofs.Ytoehaijmkmdggaa
