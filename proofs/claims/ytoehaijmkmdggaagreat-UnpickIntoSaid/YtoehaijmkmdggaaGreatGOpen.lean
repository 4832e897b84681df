/- Words for the rows: what came in, opened type by type. No program is named here. Words for the rows: slices of ints that came in. No program is named here. Words for the rows: structs, and slices of them, that came in. No program is named here. Words for the rows: what an argument that came in reads as. Words for the rows: more arguments that came in. -/
import Derived.Test.YtoehaijmkmdggaaGreatGLib
import Derived.ChangeSlices
import Derived.ChangeSame
import Derived.SizedLaws
import Derived.Test.YtoehaijmkmdggaaGreatRows
import Derived.WalkKit
import Derived.ProofKit
import Derived.OpenShut
import Derived.ShutString
import Derived.ChangeOld
import Derived.Below
set_option linter.unusedSimpArgs false
set_option linter.unusedVariables false
namespace Go.Proofs.YtoehaijmkmdggaaGreat
open Go.ChangeShapes Go.WideShapes Go.RowKit
/-- A slice of elements of sz cells each; K: what an element's cells say. -/
def Sl {α : Type} (sz : Nat) (K : World → List Value → α → Prop) (w : World) (v : Value) (xs : List α) : Prop :=
  ∃ A c, v = .slice A xs.length c ∧ xs.length ≤ c ∧ c ≤ 9223372036854775807 ∧ (0 < xs.length → ∃ ad, A = some ad ∧
    ∀ (j : Nat) (h : j < xs.length), ∃ cs : List Value, cs.length = sz ∧ (∀ i u, cs[i]? = some u → w.cell? (ad.add (j * sz + i)) = some u) ∧ K w cs xs[j])
/-- What a type's cells read as. -/
def Opn {α : Type} (P : Program) (t : TypeId) (K : World → List Value → α → Prop) : Prop :=
  ∀ (H : Type) (enc : TypeId × Value → H) (W : World) (fuel : Nat) (cs : List Value) (d : DataW H) (ps : List MemPlace),
    DataW.trod enc P W 0 (fun _ => true) true fuel t cs = some (d, ps) → (∀ n ∈ d.weights P t, n ≤ reachBytes) → ∃ x, K W cs x
theorem Opn.imp {α β : Type} {P : Program} {t : TypeId} {K : World → List Value → α → Prop} {K' : World → List Value → β → Prop} (h : Opn P t K) (f : ∀ w cs x, K w cs x → ∃ y, K' w cs y) : Opn P t K' :=
  fun H enc W fuel cs d ps ht hw => by
    obtain ⟨x, hx⟩ := h H enc W fuel cs d ps ht hw
    exact f _ _ _ hx
theorem cells_get {w : World} {a : Addr} {n : Nat} {cs : List Value} (h : w.cells? 0 a n = some cs) : cs.length = n ∧ ∀ i u, cs[i]? = some u → w.cell? (a.add i) = some u := by
  obtain ⟨_, h1, h2⟩ := World.cells?_some h
  refine ⟨h1, fun i u hu => ?_⟩
  have hi := (List.getElem?_eq_some_iff.1 hu).1
  rw [h2 i (by omega), hu]
theorem opn_slice {α : Type} {P : Program} {t e : TypeId} {K : World → List Value → α → Prop} (h : Opn P e K) (ht : P.underlying t = some (.slice e)) {sz B : Nat} (hs : P.cellsOf e = sz) (hB : P.bytesOf e = B) :
    Opn P t (fun w cs (xs : List α) => ∃ v, cs = [v] ∧ Sl sz K w v xs ∧ xs.length * B ≤ 140737488351232) := by
  intro H enc W fuel cs d ps hf hw
  rcases DataW.trod_slice ht hf with ⟨rfl, hx⟩ | ⟨a, len, cap, elems, rest, n, _, rfl, hx, hb, hl, hm, hlen, hel, hsp, hns⟩
  · exact ⟨[], _, rfl, ⟨none, 0, rfl, Nat.le_refl _, by omega, fun h => by simp at h⟩, by simp⟩
  · obtain ⟨rfl, _⟩ := Prod.mk.inj hx
    have hws : ∀ m ∈ (DataW.slice (elems.map (·.1)) (rest.map (·.1)) : DataW H).weights P t, m ≤ reachBytes := hw
    simp only [DataW.weights, ht] at hws
    have hsum : (elems.length + rest.length) * B ≤ reachBytes := by
      have := hws (((elems.map (·.1)).length + (rest.map (·.1)).length) * P.bytesOf e) (by simp)
      simpa [hB] using this
    have hall : ∀ (l : List (DataW H)) (x : DataW H), x ∈ l → ∀ m ∈ x.weights P e, m ∈ DataW.weightsAll P e l := by
      intro l
      induction l with
      | nil => intro x hx; cases hx
      | cons y l ih =>
        intro x hx m hm
        simp only [DataW.weightsAll]
        rcases List.mem_cons.1 hx with rfl | hx
        · exact List.mem_append_left _ hm
        · exact List.mem_append_right _ (ih x hx m hm)
    have each : ∀ i, i < len → ∃ (x : α) (c : List Value), c.length = sz ∧ (∀ k u, c[k]? = some u → W.cell? (a.add (i * sz + k)) = some u) ∧ K W c x := by
      intro i hi
      have h1 := hel i hi
      have h2 : elems[i]? = some (elems[i]'(by omega)) := List.getElem?_eq_getElem (by omega)
      rw [h2] at h1
      obtain ⟨c, hc, ht'⟩ := Option.bind_eq_some_iff.1 h1
      rw [hs] at hc
      obtain ⟨hc1, hc2⟩ := cells_get hc
      obtain ⟨x, hk⟩ := h H enc W n c (elems[i]'(by omega)).1 (elems[i]'(by omega)).2 ht' (fun m hm => hws m (by
        refine List.mem_cons_of_mem _ (List.mem_append_left _ (hall _ _ ?_ m hm))
        exact List.mem_map.2 ⟨_, List.getElem_mem _, rfl⟩))
      refine ⟨x, c, hc1, fun k u hu => ?_, hk⟩
      have := hc2 k u hu
      have e1 : (a.add (i * sz)).add k = a.add (i * sz + k) := by
        unfold Addr.add
        by_cases z1 : i * sz = 0 <;> by_cases z2 : k = 0 <;> simp [z1, z2, Nat.add_assoc]
      rwa [e1] at this
    obtain ⟨f, hfc⟩ : ∃ f : (i : Nat) → i < len → α, ∀ i hi, ∃ c : List Value, c.length = sz ∧ (∀ k u, c[k]? = some u → W.cell? (a.add (i * sz + k)) = some u) ∧ K W c (f i hi) :=
      ⟨fun i hi => (each i hi).choose, fun i hi => (each i hi).choose_spec⟩
    refine ⟨(List.finRange len).map fun i => f i.1 i.2, _, rfl, ⟨some a, cap, by simp, by simpa using hl, by simpa [maxLen] using hm, fun _ => ⟨a, rfl, fun j hj => ?_⟩⟩, ?_⟩
    · have hj' : j < len := by simpa using hj
      obtain ⟨c, h1, h2, h3⟩ := hfc j hj'
      exact ⟨c, h1, h2, by simpa using h3⟩
    · have : len * B ≤ (elems.length + rest.length) * B := Nat.mul_le_mul_right _ (by omega)
      have h4 : reachBytes = 140737488351232 := rfl
      simp
      omega
theorem opn_int {P : Program} {t : TypeId} {k : IntKind} (ht : P.underlying t = some (.int k)) : Opn P t (fun _ cs (n : Int) => cs = [.int k n] ∧ (Lit.int k n).wf = true) := by
  intro H enc W fuel cs d ps hf hw
  cases fuel with
  | zero => simp [DataW.trod] at hf
  | succ n =>
    unfold DataW.trod at hf
    rw [ht] at hf
    split at hf <;> simp_all
    all_goals (first | exact ⟨_, rfl, hf.1.2⟩ | skip)
theorem opn_u8 {P : Program} {t : TypeId} (ht : P.underlying t = some (.int .u8)) : Opn P t (fun _ cs (b : UInt8) => cs = [bv b]) :=
  Opn.imp (opn_int ht) fun w cs n ⟨h1, h2⟩ => by
    obtain ⟨b, rfl⟩ := in_u8 h2
    exact ⟨b, h1⟩
theorem Sl.bs {w : World} {v : Value} {l : List UInt8} (h : Sl 1 (fun _ cs (b : UInt8) => cs = [bv b]) w v l) : Bs w v l := by
  obtain ⟨A, c, rfl, h1, h2, h3⟩ := h
  refine ⟨A, c, rfl, h1, h2, fun hp => ?_⟩
  obtain ⟨ad, rfl, hc⟩ := h3 hp
  refine ⟨ad, rfl, fun j hj => ?_⟩
  obtain ⟨cs, _, hcell, rfl⟩ := hc j hj
  have := hcell 0 (bv l[j]) rfl
  simpa using this
/-- A slice of bytes that came in. -/
def KB (w : World) (cs : List Value) (l : List UInt8) : Prop := ∃ v, cs = [v] ∧ Bs w v l ∧ l.length ≤ 140737488351232
theorem opn_bs {P : Program} {t e : TypeId} (ht : P.underlying t = some (.slice e)) (he : P.underlying e = some (.int .u8)) (hs : P.cellsOf e = 1) (hB : P.bytesOf e = 1) : Opn P t KB :=
  Opn.imp (opn_slice (opn_u8 he) ht hs hB) fun w cs l ⟨v, h1, h2, h3⟩ => ⟨l, v, h1, h2.bs, by omega⟩
end Go.Proofs.YtoehaijmkmdggaaGreat
namespace Go.Proofs.YtoehaijmkmdggaaGreat
open Go.ChangeShapes Go.WideShapes Go.RowKit
end Go.Proofs.YtoehaijmkmdggaaGreat
namespace Go.Proofs.YtoehaijmkmdggaaGreat
open Go.ChangeShapes Go.WideShapes Go.RowKit
/-- What a type's cells read as, at so much fuel. -/
def OpnB {α : Type} (P : Program) (b : Nat) (t : TypeId) (K : World → List Value → α → Prop) : Prop :=
  ∀ (H : Type) (enc : TypeId × Value → H) (W : World) (fuel : Nat) (cs : List Value) (d : DataW H) (ps : List MemPlace), fuel ≤ b →
    DataW.trod enc P W 0 (fun _ => true) true fuel t cs = some (d, ps) → (∀ n ∈ d.weights P t, n ≤ reachBytes) → ∃ x, K W cs x
theorem Opn.b {α : Type} {P : Program} {t : TypeId} {K : World → List Value → α → Prop} (h : Opn P t K) (b : Nat) : OpnB P b t K := fun H enc W fuel cs d ps _ => h H enc W fuel cs d ps
theorem OpnB.all {α : Type} {P : Program} {t : TypeId} {K : World → List Value → α → Prop} (h : ∀ b, OpnB P b t K) : Opn P t K := fun H enc W fuel cs d ps => h fuel H enc W fuel cs d ps (Nat.le_refl _)
theorem OpnB.imp {α β : Type} {P : Program} {b : Nat} {t : TypeId} {K : World → List Value → α → Prop} {K' : World → List Value → β → Prop} (h : OpnB P b t K) (f : ∀ w cs x, K w cs x → ∃ y, K' w cs y) : OpnB P b t K' :=
  fun H enc W fuel cs d ps hb ht hw => by
    obtain ⟨x, hx⟩ := h H enc W fuel cs d ps hb ht hw
    exact f _ _ _ hx
/-- A string that came in. -/
def KStr (w : World) (cs : List Value) (s : ByteArray) : Prop := cs = [.string s] ∧ s.size ≤ 140737488351232
theorem opn_str {P : Program} {t : TypeId} (ht : P.underlying t = some .string) : Opn P t KStr := by
  intro H enc W fuel cs d ps hf hw
  cases fuel with
  | zero => simp [DataW.trod] at hf
  | succ n =>
    unfold DataW.trod at hf
    rw [ht] at hf
    split at hf <;> simp_all
    all_goals (first | (obtain ⟨_, rfl, _⟩ := hf; simp only [DataW.weights, List.mem_singleton, forall_eq] at hw; exact ⟨_, rfl, by have h4 : reachBytes = 140737488351232 := rfl; simp at hw; omega⟩) | skip)
theorem opnB_slice {α : Type} {P : Program} {b : Nat} {t e : TypeId} {K : World → List Value → α → Prop} (h : OpnB P b e K) (ht : P.underlying t = some (.slice e)) {sz B : Nat} (hs : P.cellsOf e = sz) (hB : P.bytesOf e = B) :
    OpnB P (b + 1) t (fun w cs (xs : List α) => ∃ v, cs = [v] ∧ Sl sz K w v xs ∧ xs.length * B ≤ 140737488351232) := by
  intro H enc W fuel cs d ps hfb hf hw
  rcases DataW.trod_slice ht hf with ⟨rfl, hx⟩ | ⟨a, len, cap, elems, rest, n, hfn, rfl, hx, hb, hl, hm, hlen, hel, hsp, hns⟩
  · exact ⟨[], _, rfl, ⟨none, 0, rfl, Nat.le_refl _, by omega, fun h => by simp at h⟩, by simp⟩
  · obtain ⟨rfl, _⟩ := Prod.mk.inj hx
    have hws : ∀ m ∈ (DataW.slice (elems.map (·.1)) (rest.map (·.1)) : DataW H).weights P t, m ≤ reachBytes := hw
    simp only [DataW.weights, ht] at hws
    have hsum : (elems.length + rest.length) * B ≤ reachBytes := by
      have := hws (((elems.map (·.1)).length + (rest.map (·.1)).length) * P.bytesOf e) (by simp)
      simpa [hB] using this
    have hall : ∀ (l : List (DataW H)) (x : DataW H), x ∈ l → ∀ m ∈ x.weights P e, m ∈ DataW.weightsAll P e l := by
      intro l
      induction l with
      | nil => intro x hx; cases hx
      | cons y l ih =>
        intro x hx m hm
        simp only [DataW.weightsAll]
        rcases List.mem_cons.1 hx with rfl | hx
        · exact List.mem_append_left _ hm
        · exact List.mem_append_right _ (ih x hx m hm)
    have each : ∀ i, i < len → ∃ (x : α) (c : List Value), c.length = sz ∧ (∀ k u, c[k]? = some u → W.cell? (a.add (i * sz + k)) = some u) ∧ K W c x := by
      intro i hi
      have h1 := hel i hi
      have h2 : elems[i]? = some (elems[i]'(by omega)) := List.getElem?_eq_getElem (by omega)
      rw [h2] at h1
      obtain ⟨c, hc, ht'⟩ := Option.bind_eq_some_iff.1 h1
      rw [hs] at hc
      obtain ⟨hc1, hc2⟩ := cells_get hc
      obtain ⟨x, hk⟩ := h H enc W n c (elems[i]'(by omega)).1 (elems[i]'(by omega)).2 (by omega) ht' (fun m hm => hws m (by
        refine List.mem_cons_of_mem _ (List.mem_append_left _ (hall _ _ ?_ m hm))
        exact List.mem_map.2 ⟨_, List.getElem_mem _, rfl⟩))
      refine ⟨x, c, hc1, fun k u hu => ?_, hk⟩
      have := hc2 k u hu
      have e1 : (a.add (i * sz)).add k = a.add (i * sz + k) := by
        unfold Addr.add
        by_cases z1 : i * sz = 0 <;> by_cases z2 : k = 0 <;> simp [z1, z2, Nat.add_assoc]
      rwa [e1] at this
    obtain ⟨f, hfc⟩ : ∃ f : (i : Nat) → i < len → α, ∀ i hi, ∃ c : List Value, c.length = sz ∧ (∀ k u, c[k]? = some u → W.cell? (a.add (i * sz + k)) = some u) ∧ K W c (f i hi) :=
      ⟨fun i hi => (each i hi).choose, fun i hi => (each i hi).choose_spec⟩
    refine ⟨(List.finRange len).map fun i => f i.1 i.2, _, rfl, ⟨some a, cap, by simp, by simpa using hl, by simpa [maxLen] using hm, fun _ => ⟨a, rfl, fun j hj => ?_⟩⟩, ?_⟩
    · have hj' : j < len := by simpa using hj
      obtain ⟨c, h1, h2, h3⟩ := hfc j hj'
      exact ⟨c, h1, h2, by simpa using h3⟩
    · have : len * B ≤ (elems.length + rest.length) * B := Nat.mul_le_mul_right _ (by omega)
      have h4 : reachBytes = 140737488351232 := rfl
      simp
      omega
theorem weightsEach_mem {H : Type} {P : Program} : ∀ (ts : List TypeId) (l : List (DataW H)) (i : Nat) (t : TypeId) (d : DataW H), ts[i]? = some t → l[i]? = some d → ∀ m ∈ d.weights P t, m ∈ DataW.weightsEach P ts l
  | [], l, i, t, d, h1, h2, m, hm => by simp at h1
  | t' :: ts, [], i, t, d, h1, h2, m, hm => by simp at h2
  | t' :: ts, d' :: l, 0, t, d, h1, h2, m, hm => by
    simp only [List.getElem?_cons_zero, Option.some.injEq] at h1 h2
    subst h1 h2
    simp only [DataW.weightsEach]
    exact List.mem_append_left _ hm
  | t' :: ts, d' :: l, i + 1, t, d, h1, h2, m, hm => by
    simp only [List.getElem?_cons_succ] at h1 h2
    simp only [DataW.weightsEach]
    exact List.mem_append_right _ (weightsEach_mem ts l i t d h1 h2 m hm)
/-- A struct's fields, each by its type. -/
theorem trod_fields {H : Type} {enc : TypeId × Value → H} {P : Program} {W : World} {fuel : Nat} {t : TypeId} {fs : Array Field} {cs : List Value} {d : DataW H} {ps : List MemPlace} (hs : P.underlying t = some (.struct fs))
    (hf : DataW.trod enc P W 0 (fun _ => true) true fuel t cs = some (d, ps)) (hw : ∀ n ∈ d.weights P t, n ≤ reachBytes) :
    ∃ n, fuel = n + 1 ∧ cs.length = P.cellsOf t ∧ ∀ (i : Nat) (f : Field), fs[i]? = some f → ∃ d' ps', DataW.trod enc P W 0 (fun _ => true) true n f.type ((cs.drop f.offset).take (P.cellsOf f.type)) = some (d', ps') ∧ ∀ m ∈ d'.weights P f.type, m ≤ reachBytes := by
  obtain ⟨xs, n, hn, hx, hl, hxl, hg⟩ := DataW.trod_struct hs hf
  obtain ⟨rfl, _⟩ := Prod.mk.inj hx
  refine ⟨n, hn, hl, fun i f hi => ?_⟩
  have hil : i < xs.length := by
    have := (Array.getElem?_eq_some_iff.1 hi).1
    omega
  refine ⟨xs[i].1, xs[i].2, by rw [hg i f hi, List.getElem?_eq_getElem hil], fun m hm => hw m ?_⟩
  simp only [DataW.weights, hs]
  exact weightsEach_mem _ _ i f.type xs[i].1 (by rw [List.getElem?_map, Array.getElem?_toList, hi]; rfl) (by rw [List.getElem?_map, List.getElem?_eq_getElem hil]; rfl) m hm
/-- A struct's further cells, as the walk spells their places. -/
theorem cell_off {w : World} {ad : Addr} {k i : Nat} {v : Value} (h : w.cell? (ad.add (k + i)) = some v) (hi : i ≠ 0 := by decide) : w.cell? ⟨(ad.add k).block, (ad.add k).off + i, none⟩ = some v := by
  have e : ad.add (k + i) = ⟨(ad.add k).block, (ad.add k).off + i, none⟩ := by
    unfold Addr.add
    by_cases hk : k = 0
    · subst hk
      simp [hi]
    · simp [hk, hi, Nat.add_assoc]
  rw [← e]
  exact h
end Go.Proofs.YtoehaijmkmdggaaGreat
namespace Go.Proofs.YtoehaijmkmdggaaGreat
open Go.ChangeShapes Go.WideShapes Go.ChangeAt Go.RowKit
open Go.ChangeMaps (open_string shut_string)
set_option linter.unusedVariables false

theorem ownK : ownKnob Tryz.prog.godebug = none := by kernel_rfl
theorem laidOutK : laidOutB Tryz.prog = true := by kernel_rfl
theorem weigh {H : Type} {P : Program} {ts : List TypeId} {ds : List (DataW H)} (h : (DataW.weightsEach P ts ds).all (· ≤ reachBytes) = true) (j : Nat) {t : TypeId} {d : DataW H} (ht : ts[j]? = some t) (hd : ds[j]? = some d) : ∀ n ∈ d.weights P t, n ≤ reachBytes := by
  intro n hn
  have := List.all_eq_true.1 h n (DataW.weights_mem_each ht hd n hn)
  simpa using this
section
variable {H : Type} {enc : TypeId × Value → H} {P : Program} {W : World} {base : Nat}
theorem open_sl {α : Type} {K' : World → Value → α → Prop} {t e : TypeId} {v : Value} {d : DataW H} {p : List MemPlace} (hO : Opn P t (fun w cs x => ∃ v, cs = [v] ∧ K' w v x)) (ht : P.underlying t = some (.slice e))
    (hv : Value.okWide P W .any base t v) (h : DataW.Trod enc P W 0 (fun _ => true) true t v d p) (hz : ∀ n ∈ d.weights P t, n ≤ reachBytes) : ∃ x, K' W v x := by
  obtain ⟨a, len, cap, rfl⟩ := okWide_slice ht hv
  obtain ⟨fuel, hf⟩ := h
  obtain ⟨x, u, hu, hk⟩ := hO H enc W fuel _ d p hf hz
  have : Value.slice a len cap = u := by simpa [Value.cells] using hu
  subst this
  exact ⟨x, hk⟩
theorem open_bs {t e : TypeId} {v : Value} {d : DataW H} {p : List MemPlace} (ht : P.underlying t = some (.slice e)) (he : P.underlying e = some (.int .u8)) (hs : P.cellsOf e = 1) (hB : P.bytesOf e = 1)
    (hv : Value.okWide P W .any base t v) (h : DataW.Trod enc P W 0 (fun _ => true) true t v d p) (hz : ∀ n ∈ d.weights P t, n ≤ reachBytes) : ∃ l, Bs W v l ∧ l.length ≤ 140737488351232 :=
  open_sl (K' := fun w v l => Bs w v l ∧ l.length ≤ 140737488351232) (opn_bs ht he hs hB) ht hv h hz
end
end Go.Proofs.YtoehaijmkmdggaaGreat
namespace Go.Proofs.YtoehaijmkmdggaaGreat
open Go.ChangeShapes Go.WideShapes Go.ChangeAt Go.RowKit
section
variable {H : Type} {enc : TypeId × Value → H} {P : Program} {W : World} {base : Nat}
end
end Go.Proofs.YtoehaijmkmdggaaGreat
