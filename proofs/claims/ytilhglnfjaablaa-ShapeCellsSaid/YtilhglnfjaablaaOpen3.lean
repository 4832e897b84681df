/- Words for the rows: structs, and slices of them, that came in. No program is named here. -/
import Derived.Test.YtilhglnfjaablaaOpen2
namespace Go.Proofs.Ytilhglnfjaablaa
open Go.ChangeShapes Go.WideShapes Go.RowKit
/-- What a type's cells read as, at so much fuel. -/
def OpnB {α : Type} (P : Program) (b : Nat) (t : TypeId) (K : World → List Value → α → Prop) : Prop :=
  ∀ (H : Type) (enc : TypeId × Value → H) (W : World) (fuel : Nat) (cs : List Value) (d : DataW H) (ps : List MemPlace), fuel ≤ b →
    DataW.trod enc P W 0 (fun _ => true) true fuel t cs = some (d, ps) → (∀ n ∈ d.weights P t, n ≤ reachBytes) → ∃ x, K W cs x
theorem Opn.b {α : Type} {P : Program} {t : TypeId} {K : World → List Value → α → Prop} (h : Opn P t K) (b : Nat) : OpnB P b t K := fun H enc W fuel cs d ps _ => h H enc W fuel cs d ps
theorem OpnB.all {α : Type} {P : Program} {t : TypeId} {K : World → List Value → α → Prop} (h : ∀ b, OpnB P b t K) : Opn P t K := fun H enc W fuel cs d ps => h fuel H enc W fuel cs d ps (Nat.le_refl _)
theorem OpnB.imp {α β : Type} {P : Program} {b : Nat} {t : TypeId} {K : World → List Value → α → Prop} {K' : World → List Value → β → Prop} (h : OpnB P b t K) (f : ∀ w cs x, K w cs x → ∃ y, K' w cs y) : OpnB P b t K' :=
  fun H enc W fuel cs d ps hb ht hw => by
    obtain ⟨x, hx⟩ := h H enc W fuel cs d ps hb ht hw
    exact f _ _ _ hx
/-- A string that came in. -/
def KStr (w : World) (cs : List Value) (s : ByteArray) : Prop := cs = [.string s] ∧ s.size ≤ 140737488351232
theorem opn_str {P : Program} {t : TypeId} (ht : P.underlying t = some .string) : Opn P t KStr := by
  intro H enc W fuel cs d ps hf hw
  cases fuel with
  | zero => simp [DataW.trod] at hf
  | succ n =>
    unfold DataW.trod at hf
    rw [ht] at hf
    split at hf <;> simp_all
    all_goals (first | (obtain ⟨_, rfl, _⟩ := hf; simp only [DataW.weights, List.mem_singleton, forall_eq] at hw; exact ⟨_, rfl, by have h4 : reachBytes = 140737488351232 := rfl; simp at hw; omega⟩) | skip)
def KBool (w : World) (cs : List Value) (b : Bool) : Prop := cs = [.bool b]
theorem opn_bool {P : Program} {t : TypeId} (ht : P.underlying t = some .bool) : Opn P t KBool := by
  intro H enc W fuel cs d ps hf hw
  cases fuel with
  | zero => simp [DataW.trod] at hf
  | succ n =>
    unfold DataW.trod at hf
    rw [ht] at hf
    split at hf
    all_goals (first | (exact ⟨_, rfl⟩) | (simp_all; done))
theorem opnB_slice {α : Type} {P : Program} {b : Nat} {t e : TypeId} {K : World → List Value → α → Prop} (h : OpnB P b e K) (ht : P.underlying t = some (.slice e)) {sz B : Nat} (hs : P.cellsOf e = sz) (hB : P.bytesOf e = B) :
    OpnB P (b + 1) t (fun w cs (xs : List α) => ∃ v, cs = [v] ∧ Sl sz K w v xs ∧ xs.length * B ≤ 140737488351232) := by
  intro H enc W fuel cs d ps hfb hf hw
  rcases DataW.trod_slice ht hf with ⟨rfl, hx⟩ | ⟨a, len, cap, elems, rest, n, hfn, rfl, hx, hb, hl, hm, hlen, hel, hsp, hns⟩
  · exact ⟨[], _, rfl, ⟨none, 0, rfl, Nat.le_refl _, by omega, fun h => by simp at h⟩, by simp⟩
  · obtain ⟨rfl, _⟩ := Prod.mk.inj hx
    have hws : ∀ m ∈ (DataW.slice (elems.map (·.1)) (rest.map (·.1)) : DataW H).weights P t, m ≤ reachBytes := hw
    simp only [DataW.weights, ht] at hws
    have hsum : (elems.length + rest.length) * B ≤ reachBytes := by
      have := hws (((elems.map (·.1)).length + (rest.map (·.1)).length) * P.bytesOf e) (by simp)
      simpa [hB] using this
    have hall : ∀ (l : List (DataW H)) (x : DataW H), x ∈ l → ∀ m ∈ x.weights P e, m ∈ DataW.weightsAll P e l := by
      intro l
      induction l with
      | nil => intro x hx; cases hx
      | cons y l ih =>
        intro x hx m hm
        simp only [DataW.weightsAll]
        rcases List.mem_cons.1 hx with rfl | hx
        · exact List.mem_append_left _ hm
        · exact List.mem_append_right _ (ih x hx m hm)
    have each : ∀ i, i < len → ∃ (x : α) (c : List Value), c.length = sz ∧ (∀ k u, c[k]? = some u → W.cell? (a.add (i * sz + k)) = some u) ∧ K W c x := by
      intro i hi
      have h1 := hel i hi
      have h2 : elems[i]? = some (elems[i]'(by omega)) := List.getElem?_eq_getElem (by omega)
      rw [h2] at h1
      obtain ⟨c, hc, ht'⟩ := Option.bind_eq_some_iff.1 h1
      rw [hs] at hc
      obtain ⟨hc1, hc2⟩ := cells_get hc
      obtain ⟨x, hk⟩ := h H enc W n c (elems[i]'(by omega)).1 (elems[i]'(by omega)).2 (by omega) ht' (fun m hm => hws m (by
        refine List.mem_cons_of_mem _ (List.mem_append_left _ (hall _ _ ?_ m hm))
        exact List.mem_map.2 ⟨_, List.getElem_mem _, rfl⟩))
      refine ⟨x, c, hc1, fun k u hu => ?_, hk⟩
      have := hc2 k u hu
      have e1 : (a.add (i * sz)).add k = a.add (i * sz + k) := by
        unfold Addr.add
        by_cases z1 : i * sz = 0 <;> by_cases z2 : k = 0 <;> simp [z1, z2, Nat.add_assoc]
      rwa [e1] at this
    obtain ⟨f, hfc⟩ : ∃ f : (i : Nat) → i < len → α, ∀ i hi, ∃ c : List Value, c.length = sz ∧ (∀ k u, c[k]? = some u → W.cell? (a.add (i * sz + k)) = some u) ∧ K W c (f i hi) :=
      ⟨fun i hi => (each i hi).choose, fun i hi => (each i hi).choose_spec⟩
    refine ⟨(List.finRange len).map fun i => f i.1 i.2, _, rfl, ⟨some a, cap, by simp, by simpa using hl, by simpa [maxLen] using hm, fun _ => ⟨a, rfl, fun j hj => ?_⟩⟩, ?_⟩
    · have hj' : j < len := by simpa using hj
      obtain ⟨c, h1, h2, h3⟩ := hfc j hj'
      exact ⟨c, h1, h2, by simpa using h3⟩
    · have : len * B ≤ (elems.length + rest.length) * B := Nat.mul_le_mul_right _ (by omega)
      have h4 : reachBytes = 140737488351232 := rfl
      simp
      omega
theorem weightsEach_mem {H : Type} {P : Program} : ∀ (ts : List TypeId) (l : List (DataW H)) (i : Nat) (t : TypeId) (d : DataW H), ts[i]? = some t → l[i]? = some d → ∀ m ∈ d.weights P t, m ∈ DataW.weightsEach P ts l
  | [], l, i, t, d, h1, h2, m, hm => by simp at h1
  | t' :: ts, [], i, t, d, h1, h2, m, hm => by simp at h2
  | t' :: ts, d' :: l, 0, t, d, h1, h2, m, hm => by
    simp only [List.getElem?_cons_zero, Option.some.injEq] at h1 h2
    subst h1 h2
    simp only [DataW.weightsEach]
    exact List.mem_append_left _ hm
  | t' :: ts, d' :: l, i + 1, t, d, h1, h2, m, hm => by
    simp only [List.getElem?_cons_succ] at h1 h2
    simp only [DataW.weightsEach]
    exact List.mem_append_right _ (weightsEach_mem ts l i t d h1 h2 m hm)
/-- A struct's fields, each by its type. -/
theorem trod_fields {H : Type} {enc : TypeId × Value → H} {P : Program} {W : World} {fuel : Nat} {t : TypeId} {fs : Array Field} {cs : List Value} {d : DataW H} {ps : List MemPlace} (hs : P.underlying t = some (.struct fs))
    (hf : DataW.trod enc P W 0 (fun _ => true) true fuel t cs = some (d, ps)) (hw : ∀ n ∈ d.weights P t, n ≤ reachBytes) :
    ∃ n, fuel = n + 1 ∧ cs.length = P.cellsOf t ∧ ∀ (i : Nat) (f : Field), fs[i]? = some f → ∃ d' ps', DataW.trod enc P W 0 (fun _ => true) true n f.type ((cs.drop f.offset).take (P.cellsOf f.type)) = some (d', ps') ∧ ∀ m ∈ d'.weights P f.type, m ≤ reachBytes := by
  obtain ⟨xs, n, hn, hx, hl, hxl, hg⟩ := DataW.trod_struct hs hf
  obtain ⟨rfl, _⟩ := Prod.mk.inj hx
  refine ⟨n, hn, hl, fun i f hi => ?_⟩
  have hil : i < xs.length := by
    have := (Array.getElem?_eq_some_iff.1 hi).1
    omega
  refine ⟨xs[i].1, xs[i].2, by rw [hg i f hi, List.getElem?_eq_getElem hil], fun m hm => hw m ?_⟩
  simp only [DataW.weights, hs]
  exact weightsEach_mem _ _ i f.type xs[i].1 (by rw [List.getElem?_map, Array.getElem?_toList, hi]; rfl) (by rw [List.getElem?_map, List.getElem?_eq_getElem hil]; rfl) m hm
theorem take_one {cs : List Value} {i : Nat} {v : Value} (h : (cs.drop i).take 1 = [v]) : cs[i]? = some v := by
  have := congrArg (fun l => l[0]?) h
  simpa using this
/-- A struct's further cells, as the walk spells their places. -/
theorem cell_off {w : World} {ad : Addr} {k i : Nat} {v : Value} (h : w.cell? (ad.add (k + i)) = some v) (hi : i ≠ 0 := by decide) : w.cell? ⟨(ad.add k).block, (ad.add k).off + i, none⟩ = some v := by
  have e : ad.add (k + i) = ⟨(ad.add k).block, (ad.add k).off + i, none⟩ := by
    unfold Addr.add
    by_cases hk : k = 0
    · subst hk
      simp [hi]
    · simp [hk, hi, Nat.add_assoc]
  rw [← e]
  exact h
end Go.Proofs.Ytilhglnfjaablaa
