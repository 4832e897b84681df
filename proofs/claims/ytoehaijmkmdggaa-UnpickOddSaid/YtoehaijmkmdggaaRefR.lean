/- What a Heap of the reference is in memory. -/
import Derived.Test.YtoehaijmkmdggaaHeapA
import Derived.Test.YtoehaijmkmdggaaRefPure
namespace Go.Proofs.Ytoehaijmkmdggaa
open Go.RowKit Go.Maps
set_option linter.unusedVariables false
theorem infoI : (Try.prog.info? 3).map (fun i => (i.zero, i.size, i.bytes)) = some (some (.int .i64 0), 1, 8) := by kernel_rfl
theorem infoWs : (Try.prog.info? 68).map (fun i => (i.zero, i.size, i.bytes)) = some (some (.slice none 0 0), 1, 24) := by kernel_rfl
def ownB (v : Value) : List Nat := v.ownBlock.toList
theorem mem_ownB {v : Value} {k : Nat} : k ∈ ownB v ↔ v.ownBlock = some k := by
  unfold ownB
  cases v.ownBlock <;> simp [eq_comm]
theorem nodup_ownB (v : Value) : (ownB v).Nodup := by
  unfold ownB
  cases v.ownBlock <;> simp
/-- A block, and the blocks of some rows. -/
def footV (p : Nat) (vs : List Value) : List Nat := p :: vs.flatMap ownB
theorem mem_footV {p : Nat} {vs : List Value} {k : Nat} : k ∈ footV p vs ↔ k = p ∨ ∃ v ∈ vs, v.ownBlock = some k := by
  simp only [footV, List.mem_cons, List.mem_flatMap, mem_ownB]
theorem footV_set {p N : Nat} {l1 l2 : List Value} {v v' : Value} (h : (footV p (l1 ++ v :: l2)).Nodup) (hlt : ∀ k ∈ footV p (l1 ++ v :: l2), k < N) (hm : v'.ownBlock = v.ownBlock ∨ v'.ownBlock = some N) : (footV p (l1 ++ v' :: l2)).Nodup := by
  rcases hm with e | e
  · have : footV p (l1 ++ v' :: l2) = footV p (l1 ++ v :: l2) := by simp [footV, ownB, e]
    rw [this]; exact h
  · have e2 : ownB v' = [N] := by simp [ownB, e]
    have h1 := fun k hk => hlt k hk
    simp only [footV, List.flatMap_append, List.flatMap_cons, List.nodup_cons, List.nodup_append, List.mem_append, List.mem_cons, e2, List.mem_singleton, List.singleton_append, not_or, List.cons_append, List.nil_append] at h h1 ⊢
    obtain ⟨⟨a1, a2, a3⟩, b1, ⟨c1, c2, c3⟩, d1⟩ := h
    refine ⟨⟨a1, fun e => by have := h1 p (.inl rfl); omega, a3⟩, b1, ⟨fun hx => by have := h1 N (.inr (.inr (.inr hx))); omega, c2⟩, ?_⟩
    rintro x hx y (rfl | hy)
    · intro e
      have := h1 x (.inr (.inl hx))
      omega
    · exact d1 x hx y (.inr hy)
theorem footV_push {p N : Nat} {vs : List Value} {u : Value} (h : (footV p vs).Nodup) (hlt : ∀ k ∈ footV p vs, k < N) (hu : ∀ k, u.ownBlock = some k → N ≤ k) : (footV p (vs ++ [u])).Nodup := by
  have e : footV p (vs ++ [u]) = footV p vs ++ ownB u := by simp [footV]
  rw [e, List.nodup_append]
  refine ⟨h, nodup_ownB u, fun x hx y hy e => ?_⟩
  have := hlt x hx
  have := hu y (mem_ownB.1 hy)
  omega
theorem footV_p {p : Nat} {vs : List Value} (h : (footV p vs).Nodup) {v : Value} (hv : v ∈ vs) {k : Nat} (hk : v.ownBlock = some k) : k ≠ p := by
  rintro rfl
  simp only [footV, List.nodup_cons] at h
  exact h.1 (List.mem_flatMap.2 ⟨v, hv, mem_ownB.2 hk⟩)
theorem footV_ne {p : Nat} {l1 l2 : List Value} {v u : Value} (h : (footV p (l1 ++ v :: l2)).Nodup) (hu : u ∈ l1 ∨ u ∈ l2) {k q : Nat} (hk : u.ownBlock = some k) (hq : v.ownBlock = some q) : k ≠ q := by
  rintro rfl
  simp only [footV, List.nodup_cons, List.flatMap_append, List.flatMap_cons, List.nodup_append] at h
  obtain ⟨_, _, ⟨_, _, h2⟩, h1⟩ := h
  rcases hu with hu | hu
  · exact h1 k (List.mem_flatMap.2 ⟨u, hu, mem_ownB.2 hk⟩) k (List.mem_append_left _ (mem_ownB.2 hq)) rfl
  · exact h2 k (mem_ownB.2 hq) k (List.mem_flatMap.2 ⟨u, hu, mem_ownB.2 hk⟩) rfl
theorem heap_set {w : World} {p j : Nat} {cs : Array Value} {t : TypeId} (h : w.heap[p]? = some (.cells cs t)) (u : Value) : (w.setCell ⟨p, j, none⟩ u).heap[p]? = some (.cells (cs.setIfInBounds j u) t) := by
  simp [World.setCell, Array.getElem?_modify, h]
/-- A Heap of the reference: three rows, and how many words there are. -/
structure RRaw (w : World) (p sz : Nat) (a t f : Value) (fv : List Value) (A T : List Int) (F : List (List Int)) : Prop where
  top : w.heap[p]? = some (.cells #[a, t, f, .int .i64 (sz : Int)] 108)
  ra : w.ownsRow 0 3 1 a A.length (A.map (Value.int .i64))
  rt : w.ownsRow 0 3 1 t T.length (T.map (Value.int .i64))
  rf : w.ownsRow 0 68 1 f fv.length fv
  len : fv.length = F.length
  part : ∀ (i : Nat) (u : Value) (l : List Int), fv[i]? = some u → F[i]? = some l → w.ownsRow 0 36 1 u l.length (l.map (Value.int .i64))
  nodup : (footV p (a :: t :: f :: fv)).Nodup
theorem RRaw.frm {S : Nat → Prop} {w w' : World} {p sz : Nat} {a t f : Value} {fv : List Value} {A T : List Int} {F : List (List Int)} (h : RRaw w p sz a t f fv A T F) (k : Frm S w w') (hs : ∀ i ∈ footV p (a :: t :: f :: fv), ¬ S i) : RRaw w' p sz a t f fv A T F := by
  simp only [mem_footV, List.mem_cons] at hs
  exact { h with top := k.heap (hs p (.inl rfl)) h.top, ra := k.own h.ra fun q hq => hs q (.inr ⟨a, .inl rfl, hq⟩), rt := k.own h.rt fun q hq => hs q (.inr ⟨t, .inr (.inl rfl), hq⟩),
                 rf := k.own h.rf fun q hq => hs q (.inr ⟨f, .inr (.inr (.inl rfl)), hq⟩), part := fun i u l hu hl => k.own (h.part i u l hu hl) fun q hq => hs q (.inr ⟨u, .inr (.inr (.inr (List.mem_of_getElem? hu))), hq⟩) }
theorem RRaw.lt {w : World} {p sz : Nat} {a t f : Value} {fv : List Value} {A T : List Int} {F : List (List Int)} (h : RRaw w p sz a t f fv A T F) : ∀ k ∈ footV p (a :: t :: f :: fv), k < w.heap.size := by
  intro k hk
  simp only [mem_footV, List.mem_cons] at hk
  rcases hk with rfl | ⟨v, rfl | rfl | rfl | hv, hk⟩
  · exact (Array.getElem?_eq_some_iff.1 h.top).1
  · exact (World.ownsRow.lt h.ra k hk).2
  · exact (World.ownsRow.lt h.rt k hk).2
  · exact (World.ownsRow.lt h.rf k hk).2
  · obtain ⟨i, hi, rfl⟩ := List.getElem_of_mem hv
    have hl := h.len
    exact (World.ownsRow.lt (h.part i fv[i] (F[i]'(by omega)) (List.getElem?_eq_getElem hi) (List.getElem?_eq_getElem (by omega))) k hk).2
/-- What an append onto a row, and the store of what it gives, may change. -/
theorem frm_push {w w1 : World} {v : Value} {p j : Nat} (hg : w.grownBy w1 v.ownBlock) (u : Value) : Frm (fun k => k = p ∨ v.ownBlock = some k) w (w1.setCell ⟨p, j, none⟩ u) :=
  Frm.st ((Frm.of_grown hg fun _ e => e).mono fun _ _ e => .inr e) (.inl (.inl rfl)) _
section
variable {w w1 : World} {p sz : Nat} {a t f : Value} {fv : List Value} {A T : List Int} {F : List (List Int)}
theorem own_store {w : World} {base e size n g j : Nat} {v u : Value} {xs : List Value} (h : w.ownsRow base e size v n xs) (hp : ∀ k, v.ownBlock = some k → k ≠ g) : (w.setCell ⟨g, j, none⟩ u).ownsRow base e size v n xs :=
  Frm.own ((Frm.rf (· = g) w).st (p := ⟨g, j, none⟩) (.inl rfl) u) h hp
theorem moved_ne {v v' : Value} {N q : Nat} (hm : v'.ownBlock = v.ownBlock ∨ v'.ownBlock = some N) (h1 : ∀ k, v.ownBlock = some k → k ≠ q) (h2 : q < N) : ∀ k, v'.ownBlock = some k → k ≠ q := by
  intro k hk
  rcases hm with e | e
  · exact h1 k (by rw [← e, hk])
  · rw [e] at hk
    injection hk with hk
    omega
theorem RRaw.pushA (h : RRaw w p sz a t f fv A T F) {v : Value} {A' : List Int} (ho : w1.ownsRow 0 3 1 v A'.length (A'.map (Value.int .i64))) (hg : w.grownBy w1 a.ownBlock) (hm : v.ownBlock = a.ownBlock ∨ v.ownBlock = some w.heap.size) : RRaw (w1.setCell ⟨p, 0, none⟩ v) p sz v t f fv A' T F := by
  have hF := frm_push (p := p) (j := 0) hg v
  have hlt := h.lt
  have hpp := (Array.getElem?_eq_some_iff.1 h.top).1
  have hpa : ∀ k, a.ownBlock = some k → k ≠ p := fun k hk => footV_p h.nodup (v := a) (by simp) hk
  have hx : ∀ (u : Value) (k : Nat), u ∈ t :: f :: fv → u.ownBlock = some k → ¬ (k = p ∨ a.ownBlock = some k) := fun u k hu hk e => by
    rcases e with e | e
    · exact footV_p h.nodup (v := u) (List.mem_cons_of_mem _ hu) hk e
    · exact footV_ne (l1 := []) h.nodup (.inr hu) hk e rfl
  refine { top := ?_, ra := own_store ho (moved_ne hm hpa hpp), rt := hF.own h.rt fun k hk => hx t k (by simp) hk, rf := hF.own h.rf fun k hk => hx f k (by simp) hk, len := h.len, part := fun i u l hu hl => hF.own (h.part i u l hu hl) fun k hk => hx u k (by simp [List.mem_of_getElem? hu]) hk, nodup := footV_set (l1 := []) h.nodup hlt hm }
  have h1 : w1.heap[p]? = some (.cells #[a, t, f, .int .i64 (sz : Int)] 108) := (Frm.of_grown (S := fun k => a.ownBlock = some k) hg fun _ e => e).heap (fun e => hpa p e rfl) h.top
  exact heap_set h1 v
theorem RRaw.pushT (h : RRaw w p sz a t f fv A T F) {v : Value} {T' : List Int} (ho : w1.ownsRow 0 3 1 v T'.length (T'.map (Value.int .i64))) (hg : w.grownBy w1 t.ownBlock) (hm : v.ownBlock = t.ownBlock ∨ v.ownBlock = some w.heap.size) : RRaw (w1.setCell ⟨p, 1, none⟩ v) p sz a v f fv A T' F := by
  have hF := frm_push (p := p) (j := 1) hg v
  have hlt := h.lt
  have hpp := (Array.getElem?_eq_some_iff.1 h.top).1
  have hpa : ∀ k, t.ownBlock = some k → k ≠ p := fun k hk => footV_p h.nodup (v := t) (by simp) hk
  have hx : ∀ (u : Value) (k : Nat), (u ∈ [a] ∨ u ∈ f :: fv) → u.ownBlock = some k → ¬ (k = p ∨ t.ownBlock = some k) := fun u k hu hk e => by
    rcases e with e | e
    · exact footV_p h.nodup (v := u) (by simp at hu ⊢; rcases hu with h | h | h <;> simp [h]) hk e
    · exact footV_ne (l1 := [a]) h.nodup hu hk e rfl
  refine { top := ?_, ra := hF.own h.ra fun k hk => hx a k (by simp) hk, rt := own_store ho (moved_ne hm hpa hpp), rf := hF.own h.rf fun k hk => hx f k (by simp) hk, len := h.len, part := fun i u l hu hl => hF.own (h.part i u l hu hl) fun k hk => hx u k (by simp [List.mem_of_getElem? hu]) hk, nodup := footV_set (l1 := [a]) h.nodup hlt hm }
  have h1 : w1.heap[p]? = some (.cells #[a, t, f, .int .i64 (sz : Int)] 108) := (Frm.of_grown (S := fun k => t.ownBlock = some k) hg fun _ e => e).heap (fun e => hpa p e rfl) h.top
  exact heap_set h1 v
theorem RRaw.pushF (h : RRaw w p sz a t f fv A T F) {v u : Value} {l : List Int} (ho : w1.ownsRow 0 68 1 v (fv ++ [u]).length (fv ++ [u])) (hg : w.grownBy w1 f.ownBlock) (hm : v.ownBlock = f.ownBlock ∨ v.ownBlock = some w.heap.size)
    (hu : w1.ownsRow 0 36 1 u l.length (l.map (Value.int .i64))) (hn : ∀ k, u.ownBlock = some k → k < w.heap.size ∧ k ∉ footV p (a :: t :: f :: fv)) : RRaw (w1.setCell ⟨p, 2, none⟩ v) p sz a t v (fv ++ [u]) A T (F ++ [l]) := by
  have hF := frm_push (p := p) (j := 2) hg v
  have hlt := h.lt
  have hpp := (Array.getElem?_eq_some_iff.1 h.top).1
  have hpa : ∀ k, f.ownBlock = some k → k ≠ p := fun k hk => footV_p h.nodup (v := f) (by simp) hk
  have hx : ∀ (u : Value) (k : Nat), (u ∈ [a, t] ∨ u ∈ fv) → u.ownBlock = some k → ¬ (k = p ∨ f.ownBlock = some k) := fun u k hu hk e => by
    rcases e with e | e
    · exact footV_p h.nodup (v := u) (by simp at hu ⊢; rcases hu with (h | h) | h <;> simp [h]) hk e
    · exact footV_ne (l1 := [a, t]) h.nodup hu hk e rfl
  refine { top := ?_, ra := hF.own h.ra fun k hk => hx a k (by simp) hk, rt := hF.own h.rt fun k hk => hx t k (by simp) hk, rf := own_store ho (moved_ne hm hpa hpp), len := by simp [h.len], part := fun i u' l' hu' hl' => ?_, nodup := ?_ }
  · have h1 : w1.heap[p]? = some (.cells #[a, t, f, .int .i64 (sz : Int)] 108) := (Frm.of_grown (S := fun k => f.ownBlock = some k) hg fun _ e => e).heap (fun e => hpa p e rfl) h.top
    exact heap_set h1 v
  · have hll := h.len
    rcases Nat.lt_or_ge i fv.length with hi | hi
    · rw [List.getElem?_append_left hi] at hu'
      rw [List.getElem?_append_left (by omega)] at hl'
      exact hF.own (h.part i u' l' hu' hl') fun k hk => hx u' k (by simp [List.mem_of_getElem? hu']) hk
    · have hi2 := (List.getElem?_eq_some_iff.1 hu').1
      simp at hi2
      have : i = fv.length := by omega
      subst this
      rw [List.getElem?_append_right (by omega)] at hu' hl'
      simp at hu'
      rw [show fv.length - F.length = 0 from by omega] at hl'
      simp at hl'
      subst hu' hl'
      exact own_store hu fun k hk e => (hn k hk).2 (by rw [e]; simp [footV])
  · have h1 := footV_set (l1 := [a, t]) h.nodup hlt hm
    have e : footV p (a :: t :: v :: (fv ++ [u])) = footV p (([a, t] ++ v :: fv)) ++ ownB u := by simp [footV]
    rw [e, List.nodup_append]
    refine ⟨h1, nodup_ownB u, fun x hx' y hy e => ?_⟩
    subst e
    obtain ⟨g1, g2⟩ := hn x (mem_ownB.1 hy)
    rw [mem_footV] at hx'
    rcases hx' with rfl | ⟨z, hz, hzk⟩
    · exact g2 (by simp [footV])
    · simp only [List.mem_append, List.mem_cons, List.mem_nil_iff, or_false] at hz
      rcases hz with (rfl | rfl) | rfl | hz
      · exact g2 (mem_footV.2 (.inr ⟨_, by simp, hzk⟩))
      · exact g2 (mem_footV.2 (.inr ⟨_, by simp, hzk⟩))
      · rcases hm with e | e
        · exact g2 (mem_footV.2 (.inr ⟨f, by simp, by rw [← e, hzk]⟩))
        · rw [e] at hzk
          injection hzk with hzk
          omega
      · exact g2 (mem_footV.2 (.inr ⟨z, by simp [hz], hzk⟩))
end
/-- A Heap of the reference at p, of these blocks; S: where it lies. -/
def RRep (w : World) (p : Nat) (S : List Nat) (sz : Nat) (H : Em.Hp) : Prop :=
  ∃ a t f fv, S = footV p (a :: t :: f :: fv) ∧ RRaw w p sz a t f fv (Em.ats 0 H) (H.map (·.1)) (H.map (·.2)) ∧ (∀ b ∈ H, (Lit.int .i64 b.1).wf = true ∧ ∀ f ∈ b.2, (Lit.int .i64 f).wf = true) ∧ Em.used H ≤ sz ∧ sz ≤ 20000
theorem RRep.frm {S : Nat → Prop} {w w' : World} {p sz : Nat} {F : List Nat} {H : Em.Hp} (h : RRep w p F sz H) (k : Frm S w w') (hs : ∀ i ∈ F, ¬ S i) : RRep w' p F sz H := by
  obtain ⟨a, t, f, fv, rfl, h, r⟩ := h
  exact ⟨a, t, f, fv, rfl, h.frm k hs, r⟩
theorem RRep.keep {w w' : World} {p sz : Nat} {F : List Nat} {H : Em.Hp} (h : RRep w p F sz H) (k : Keep w w') : RRep w' p F sz H := h.frm (k.frm fun _ => False) fun _ _ h => h
theorem RRep.lt {w : World} {p sz : Nat} {F : List Nat} {H : Em.Hp} (h : RRep w p F sz H) : ∀ k ∈ F, k < w.heap.size := by
  obtain ⟨a, t, f, fv, rfl, h, r⟩ := h
  exact h.lt
end Go.Proofs.Ytoehaijmkmdggaa
