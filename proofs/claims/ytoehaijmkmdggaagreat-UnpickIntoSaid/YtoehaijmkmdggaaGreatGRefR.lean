/- Plain: the reference's heap: of each word which block begins there. What a Heap of the reference is in memory. Walks: the functions of the reference's heap. Walk: Alloc of the reference's heap. -/
import Derived.Test.YtoehaijmkmdggaaGreatGHeapPure
import Derived.Test.YtoehaijmkmdggaaGreatGHeapR
set_option linter.unusedSimpArgs false
set_option linter.unusedVariables false
namespace Go.Proofs.YtoehaijmkmdggaaGreat.Em
/-- Of each word: which block begins there, and one; 0: none. -/
def ats : Nat → Hp → List Int
  | _, [] => []
  | s, b :: t => ((s : Int) + 1) :: (List.replicate b.2.length 0 ++ ats (s + 1) t)
theorem ats_length (s : Nat) (H : Hp) : (ats s H).length = used H := by
  induction H generalizing s with
  | nil => rfl
  | cons b t ih => simp only [ats, List.length_cons, List.length_append, List.length_replicate, ih, used]; omega
theorem ats_append (s : Nat) (H : Hp) (b : Int × List Int) : ats s (H ++ [b]) = ats s H ++ (((s + H.length : Nat) : Int) + 1) :: List.replicate b.2.length 0 := by
  induction H generalizing s with
  | nil => simp [ats]
  | cons c t ih =>
    simp only [List.cons_append, ats, ih, List.append_assoc, List.length_cons]
    rw [show s + 1 + t.length = s + (t.length + 1) from by omega]
theorem ats_idx (s p : Nat) (H : Hp) (k : Nat) (hk : k < used H) : (ats s H)[k]? = some (match idxF p H (2 * ((p + k : Nat) : Int)) with
    | some i => ((s + i : Nat) : Int) + 1
    | none => 0) := by
  induction H generalizing s p k with
  | nil => simp [used] at hk
  | cons b t ih =>
    simp only [ats, idxF]
    rcases Nat.eq_zero_or_pos k with rfl | h0
    · simp
    · rw [if_neg (by omega)]
      rw [List.getElem?_cons, if_neg (by omega)]
      by_cases h1 : k - 1 < b.2.length
      · rw [List.getElem?_append_left (by simpa using h1)]
        rw [List.getElem?_replicate, if_pos h1]
        have : idxF (p + (1 + b.2.length)) t (2 * ((p + k : Nat) : Int)) = none := by
          cases hq : idxF (p + (1 + b.2.length)) t (2 * ((p + k : Nat) : Int)) with
          | none => rfl
          | some i =>
            have := idxF_lt hq
            omega
        rw [this]
        rfl
      · rw [List.getElem?_append_right (by simpa using Nat.le_of_not_lt h1), List.length_replicate]
        simp only [used] at hk
        rw [ih (s + 1) (p + (1 + b.2.length)) (k - 1 - b.2.length) (by omega)]
        rw [show p + (1 + b.2.length) + (k - 1 - b.2.length) = p + k from by omega]
        cases idxF (p + (1 + b.2.length)) t (2 * ((p + k : Nat) : Int)) with
        | none => rfl
        | some i =>
          simp only [Option.map_some]
          rw [show ((s + 1 + i : Nat) : Int) = ((s + (i + 1) : Nat) : Int) from by omega]
/-- Which block, below 0: none. -/
def blkI (H : Hp) (n : Int) : Int := match idx H n with
  | some i => (i : Int)
  | none => -1
theorem blkI_ats {H : Hp} {k : Nat} (hk : k < used H) : ∃ a : Int, (ats 0 H)[k]? = some a ∧ a - 1 = blkI H (2 * (k : Int)) := by
  have h := ats_idx 0 0 H k hk
  simp only [Nat.zero_add] at h
  unfold blkI idx
  cases hq : idxF 0 H (2 * (k : Int)) with
  | none => rw [hq] at h; exact ⟨0, h, rfl⟩
  | some i =>
    rw [hq] at h
    refine ⟨_, h, ?_⟩
    show ((i : Int) + 1) - 1 = (i : Int)
    omega
theorem blkI_no {H : Hp} {n : Int} (h : n % 2 = 1 ∨ n < 0 ∨ 2 * (used H : Int) ≤ n) : blkI H n = -1 := by
  unfold blkI
  cases hq : idx H n with
  | none => rfl
  | some i =>
    have := idxF_lt hq
    simp only [Nat.zero_add] at this
    omega
theorem blk_of {H : Hp} {n : Int} : (0 ≤ blkI H n ∧ ∃ (i : Nat) (h : i < H.length), blkI H n = (i : Int) ∧ blk H n = H[i] ∧ idx H n = some i) ∨ (blkI H n = -1 ∧ blk H n = (0, []) ∧ idx H n = none) := by
  unfold blkI blk
  cases hq : idx H n with
  | none => exact .inr ⟨rfl, rfl, rfl⟩
  | some i =>
    have := idx_lt hq
    refine .inl ⟨by simp only; omega, i, this, rfl, ?_, rfl⟩
    simp [List.getD_eq_getElem?_getD, this]
end Go.Proofs.YtoehaijmkmdggaaGreat.Em
namespace Go.Proofs.YtoehaijmkmdggaaGreat
open Go.RowKit Go.Maps
set_option linter.unusedVariables false
set_option linter.unusedSimpArgs false
theorem infoI : (Tryz.prog.info? 3).map (fun i => (i.zero, i.size, i.bytes)) = some (some (.int .i64 0), 1, 8) := by kernel_rfl
theorem infoWs : (Tryz.prog.info? 31).map (fun i => (i.zero, i.size, i.bytes)) = some (some (.slice none 0 0), 1, 24) := by kernel_rfl
def ownB (v : Value) : List Nat := v.ownBlock.toList
theorem mem_ownB {v : Value} {k : Nat} : k ∈ ownB v ↔ v.ownBlock = some k := by
  unfold ownB
  cases v.ownBlock <;> simp [eq_comm]
theorem nodup_ownB (v : Value) : (ownB v).Nodup := by
  unfold ownB
  cases v.ownBlock <;> simp
/-- A block, and the blocks of some rows. -/
def footV (p : Nat) (vs : List Value) : List Nat := p :: vs.flatMap ownB
theorem mem_footV {p : Nat} {vs : List Value} {k : Nat} : k ∈ footV p vs ↔ k = p ∨ ∃ v ∈ vs, v.ownBlock = some k := by
  simp only [footV, List.mem_cons, List.mem_flatMap, mem_ownB]
theorem footV_set {p N : Nat} {l1 l2 : List Value} {v v' : Value} (h : (footV p (l1 ++ v :: l2)).Nodup) (hlt : ∀ k ∈ footV p (l1 ++ v :: l2), k < N) (hm : v'.ownBlock = v.ownBlock ∨ v'.ownBlock = some N) : (footV p (l1 ++ v' :: l2)).Nodup := by
  rcases hm with e | e
  · have : footV p (l1 ++ v' :: l2) = footV p (l1 ++ v :: l2) := by simp [footV, ownB, e]
    rw [this]; exact h
  · have e2 : ownB v' = [N] := by simp [ownB, e]
    have h1 := fun k hk => hlt k hk
    simp only [footV, List.flatMap_append, List.flatMap_cons, List.nodup_cons, List.nodup_append, List.mem_append, List.mem_cons, e2, List.mem_singleton, List.singleton_append, not_or, List.cons_append, List.nil_append] at h h1 ⊢
    obtain ⟨⟨a1, a2, a3⟩, b1, ⟨c1, c2, c3⟩, d1⟩ := h
    refine ⟨⟨a1, fun e => by have := h1 p (.inl rfl); omega, a3⟩, b1, ⟨fun hx => by have := h1 N (.inr (.inr (.inr hx))); omega, c2⟩, ?_⟩
    rintro x hx y (rfl | hy)
    · intro e
      have := h1 x (.inr (.inl hx))
      omega
    · exact d1 x hx y (.inr hy)
theorem footV_p {p : Nat} {vs : List Value} (h : (footV p vs).Nodup) {v : Value} (hv : v ∈ vs) {k : Nat} (hk : v.ownBlock = some k) : k ≠ p := by
  rintro rfl
  simp only [footV, List.nodup_cons] at h
  exact h.1 (List.mem_flatMap.2 ⟨v, hv, mem_ownB.2 hk⟩)
theorem footV_ne {p : Nat} {l1 l2 : List Value} {v u : Value} (h : (footV p (l1 ++ v :: l2)).Nodup) (hu : u ∈ l1 ∨ u ∈ l2) {k q : Nat} (hk : u.ownBlock = some k) (hq : v.ownBlock = some q) : k ≠ q := by
  rintro rfl
  simp only [footV, List.nodup_cons, List.flatMap_append, List.flatMap_cons, List.nodup_append] at h
  obtain ⟨_, _, ⟨_, _, h2⟩, h1⟩ := h
  rcases hu with hu | hu
  · exact h1 k (List.mem_flatMap.2 ⟨u, hu, mem_ownB.2 hk⟩) k (List.mem_append_left _ (mem_ownB.2 hq)) rfl
  · exact h2 k (mem_ownB.2 hq) k (List.mem_flatMap.2 ⟨u, hu, mem_ownB.2 hk⟩) rfl
/-- A Heap of the reference: three rows, and how many words there are. -/
structure RRaw (w : World) (p sz : Nat) (a t f : Value) (fv : List Value) (A T : List Int) (F : List (List Int)) : Prop where
  top : w.heap[p]? = some (.cells #[a, t, f, .int .i64 (sz : Int)] 51)
  ra : w.ownsRow 0 3 1 a A.length (A.map (Value.int .i64))
  rt : w.ownsRow 0 3 1 t T.length (T.map (Value.int .i64))
  rf : w.ownsRow 0 31 1 f fv.length fv
  len : fv.length = F.length
  part : ∀ (i : Nat) (u : Value) (l : List Int), fv[i]? = some u → F[i]? = some l → w.ownsRow 0 32 1 u l.length (l.map (Value.int .i64))
  nodup : (footV p (a :: t :: f :: fv)).Nodup
theorem RRaw.frm {S : Nat → Prop} {w w' : World} {p sz : Nat} {a t f : Value} {fv : List Value} {A T : List Int} {F : List (List Int)} (h : RRaw w p sz a t f fv A T F) (k : Frm S w w') (hs : ∀ i ∈ footV p (a :: t :: f :: fv), ¬ S i) : RRaw w' p sz a t f fv A T F := by
  simp only [mem_footV, List.mem_cons] at hs
  exact { h with top := k.heap (hs p (.inl rfl)) h.top, ra := k.own h.ra fun q hq => hs q (.inr ⟨a, .inl rfl, hq⟩), rt := k.own h.rt fun q hq => hs q (.inr ⟨t, .inr (.inl rfl), hq⟩),
                 rf := k.own h.rf fun q hq => hs q (.inr ⟨f, .inr (.inr (.inl rfl)), hq⟩), part := fun i u l hu hl => k.own (h.part i u l hu hl) fun q hq => hs q (.inr ⟨u, .inr (.inr (.inr (List.mem_of_getElem? hu))), hq⟩) }
theorem RRaw.lt {w : World} {p sz : Nat} {a t f : Value} {fv : List Value} {A T : List Int} {F : List (List Int)} (h : RRaw w p sz a t f fv A T F) : ∀ k ∈ footV p (a :: t :: f :: fv), k < w.heap.size := by
  intro k hk
  simp only [mem_footV, List.mem_cons] at hk
  rcases hk with rfl | ⟨v, rfl | rfl | rfl | hv, hk⟩
  · exact (Array.getElem?_eq_some_iff.1 h.top).1
  · exact (World.ownsRow.lt h.ra k hk).2
  · exact (World.ownsRow.lt h.rt k hk).2
  · exact (World.ownsRow.lt h.rf k hk).2
  · obtain ⟨i, hi, rfl⟩ := List.getElem_of_mem hv
    have hl := h.len
    exact (World.ownsRow.lt (h.part i fv[i] (F[i]'(by omega)) (List.getElem?_eq_getElem hi) (List.getElem?_eq_getElem (by omega))) k hk).2
/-- What an append onto a row, and the store of what it gives, may change. -/
theorem frm_push {w w1 : World} {v : Value} {p j : Nat} (hg : w.grownBy w1 v.ownBlock) (u : Value) : Frm (fun k => k = p ∨ v.ownBlock = some k) w (w1.setCell ⟨p, j, none⟩ u) :=
  Frm.st ((Frm.of_grown hg fun _ e => e).mono fun _ _ e => .inr e) (.inl (.inl rfl)) _
section
variable {w w1 : World} {p sz : Nat} {a t f : Value} {fv : List Value} {A T : List Int} {F : List (List Int)}
theorem own_store {w : World} {base e size n g j : Nat} {v u : Value} {xs : List Value} (h : w.ownsRow base e size v n xs) (hp : ∀ k, v.ownBlock = some k → k ≠ g) : (w.setCell ⟨g, j, none⟩ u).ownsRow base e size v n xs :=
  Frm.own ((Frm.rf (· = g) w).st (p := ⟨g, j, none⟩) (.inl rfl) u) h hp
theorem moved_ne {v v' : Value} {N q : Nat} (hm : v'.ownBlock = v.ownBlock ∨ v'.ownBlock = some N) (h1 : ∀ k, v.ownBlock = some k → k ≠ q) (h2 : q < N) : ∀ k, v'.ownBlock = some k → k ≠ q := by
  intro k hk
  rcases hm with e | e
  · exact h1 k (by rw [← e, hk])
  · rw [e] at hk
    injection hk with hk
    omega
theorem RRaw.pushA (h : RRaw w p sz a t f fv A T F) {v : Value} {A' : List Int} (ho : w1.ownsRow 0 3 1 v A'.length (A'.map (Value.int .i64))) (hg : w.grownBy w1 a.ownBlock) (hm : v.ownBlock = a.ownBlock ∨ v.ownBlock = some w.heap.size) : RRaw (w1.setCell ⟨p, 0, none⟩ v) p sz v t f fv A' T F := by
  have hF := frm_push (p := p) (j := 0) hg v
  have hlt := h.lt
  have hpp := (Array.getElem?_eq_some_iff.1 h.top).1
  have hpa : ∀ k, a.ownBlock = some k → k ≠ p := fun k hk => footV_p h.nodup (v := a) (by simp) hk
  have hx : ∀ (u : Value) (k : Nat), u ∈ t :: f :: fv → u.ownBlock = some k → ¬ (k = p ∨ a.ownBlock = some k) := fun u k hu hk e => by
    rcases e with e | e
    · exact footV_p h.nodup (v := u) (List.mem_cons_of_mem _ hu) hk e
    · exact footV_ne (l1 := []) h.nodup (.inr hu) hk e rfl
  refine { top := ?_, ra := own_store ho (moved_ne hm hpa hpp), rt := hF.own h.rt fun k hk => hx t k (by simp) hk, rf := hF.own h.rf fun k hk => hx f k (by simp) hk, len := h.len, part := fun i u l hu hl => hF.own (h.part i u l hu hl) fun k hk => hx u k (by simp [List.mem_of_getElem? hu]) hk, nodup := footV_set (l1 := []) h.nodup hlt hm }
  have h1 : w1.heap[p]? = some (.cells #[a, t, f, .int .i64 (sz : Int)] 51) := (Frm.of_grown (S := fun k => a.ownBlock = some k) hg fun _ e => e).heap (fun e => hpa p e rfl) h.top
  exact heap_set h1 v
theorem RRaw.pushT (h : RRaw w p sz a t f fv A T F) {v : Value} {T' : List Int} (ho : w1.ownsRow 0 3 1 v T'.length (T'.map (Value.int .i64))) (hg : w.grownBy w1 t.ownBlock) (hm : v.ownBlock = t.ownBlock ∨ v.ownBlock = some w.heap.size) : RRaw (w1.setCell ⟨p, 1, none⟩ v) p sz a v f fv A T' F := by
  have hF := frm_push (p := p) (j := 1) hg v
  have hlt := h.lt
  have hpp := (Array.getElem?_eq_some_iff.1 h.top).1
  have hpa : ∀ k, t.ownBlock = some k → k ≠ p := fun k hk => footV_p h.nodup (v := t) (by simp) hk
  have hx : ∀ (u : Value) (k : Nat), (u ∈ [a] ∨ u ∈ f :: fv) → u.ownBlock = some k → ¬ (k = p ∨ t.ownBlock = some k) := fun u k hu hk e => by
    rcases e with e | e
    · exact footV_p h.nodup (v := u) (by simp at hu ⊢; rcases hu with h | h | h <;> simp [h]) hk e
    · exact footV_ne (l1 := [a]) h.nodup hu hk e rfl
  refine { top := ?_, ra := hF.own h.ra fun k hk => hx a k (by simp) hk, rt := own_store ho (moved_ne hm hpa hpp), rf := hF.own h.rf fun k hk => hx f k (by simp) hk, len := h.len, part := fun i u l hu hl => hF.own (h.part i u l hu hl) fun k hk => hx u k (by simp [List.mem_of_getElem? hu]) hk, nodup := footV_set (l1 := [a]) h.nodup hlt hm }
  have h1 : w1.heap[p]? = some (.cells #[a, t, f, .int .i64 (sz : Int)] 51) := (Frm.of_grown (S := fun k => t.ownBlock = some k) hg fun _ e => e).heap (fun e => hpa p e rfl) h.top
  exact heap_set h1 v
theorem RRaw.pushF (h : RRaw w p sz a t f fv A T F) {v u : Value} {l : List Int} (ho : w1.ownsRow 0 31 1 v (fv ++ [u]).length (fv ++ [u])) (hg : w.grownBy w1 f.ownBlock) (hm : v.ownBlock = f.ownBlock ∨ v.ownBlock = some w.heap.size)
    (hu : w1.ownsRow 0 32 1 u l.length (l.map (Value.int .i64))) (hn : ∀ k, u.ownBlock = some k → k < w.heap.size ∧ k ∉ footV p (a :: t :: f :: fv)) : RRaw (w1.setCell ⟨p, 2, none⟩ v) p sz a t v (fv ++ [u]) A T (F ++ [l]) := by
  have hF := frm_push (p := p) (j := 2) hg v
  have hlt := h.lt
  have hpp := (Array.getElem?_eq_some_iff.1 h.top).1
  have hpa : ∀ k, f.ownBlock = some k → k ≠ p := fun k hk => footV_p h.nodup (v := f) (by simp) hk
  have hx : ∀ (u : Value) (k : Nat), (u ∈ [a, t] ∨ u ∈ fv) → u.ownBlock = some k → ¬ (k = p ∨ f.ownBlock = some k) := fun u k hu hk e => by
    rcases e with e | e
    · exact footV_p h.nodup (v := u) (by simp at hu ⊢; rcases hu with (h | h) | h <;> simp [h]) hk e
    · exact footV_ne (l1 := [a, t]) h.nodup hu hk e rfl
  refine { top := ?_, ra := hF.own h.ra fun k hk => hx a k (by simp) hk, rt := hF.own h.rt fun k hk => hx t k (by simp) hk, rf := own_store ho (moved_ne hm hpa hpp), len := by simp [h.len], part := fun i u' l' hu' hl' => ?_, nodup := ?_ }
  · have h1 : w1.heap[p]? = some (.cells #[a, t, f, .int .i64 (sz : Int)] 51) := (Frm.of_grown (S := fun k => f.ownBlock = some k) hg fun _ e => e).heap (fun e => hpa p e rfl) h.top
    exact heap_set h1 v
  · have hll := h.len
    rcases Nat.lt_or_ge i fv.length with hi | hi
    · rw [List.getElem?_append_left hi] at hu'
      rw [List.getElem?_append_left (by omega)] at hl'
      exact hF.own (h.part i u' l' hu' hl') fun k hk => hx u' k (by simp [List.mem_of_getElem? hu']) hk
    · have hi2 := (List.getElem?_eq_some_iff.1 hu').1
      simp at hi2
      have : i = fv.length := by omega
      subst this
      rw [List.getElem?_append_right (by omega)] at hu' hl'
      simp at hu'
      rw [show fv.length - F.length = 0 from by omega] at hl'
      simp at hl'
      subst hu' hl'
      exact own_store hu fun k hk e => (hn k hk).2 (by rw [e]; simp [footV])
  · have h1 := footV_set (l1 := [a, t]) h.nodup hlt hm
    have e : footV p (a :: t :: v :: (fv ++ [u])) = footV p (([a, t] ++ v :: fv)) ++ ownB u := by simp [footV]
    rw [e, List.nodup_append]
    refine ⟨h1, nodup_ownB u, fun x hx' y hy e => ?_⟩
    subst e
    obtain ⟨g1, g2⟩ := hn x (mem_ownB.1 hy)
    rw [mem_footV] at hx'
    rcases hx' with rfl | ⟨z, hz, hzk⟩
    · exact g2 (by simp [footV])
    · simp only [List.mem_append, List.mem_cons, List.mem_nil_iff, or_false] at hz
      rcases hz with (rfl | rfl) | rfl | hz
      · exact g2 (mem_footV.2 (.inr ⟨_, by simp, hzk⟩))
      · exact g2 (mem_footV.2 (.inr ⟨_, by simp, hzk⟩))
      · rcases hm with e | e
        · exact g2 (mem_footV.2 (.inr ⟨f, by simp, by rw [← e, hzk]⟩))
        · rw [e] at hzk
          injection hzk with hzk
          omega
      · exact g2 (mem_footV.2 (.inr ⟨z, by simp [hz], hzk⟩))
end
/-- A Heap of the reference at p, of these blocks; S: where it lies. -/
def RRep (w : World) (p : Nat) (S : List Nat) (sz : Nat) (H : Em.Hp) : Prop :=
  ∃ a t f fv, S = footV p (a :: t :: f :: fv) ∧ RRaw w p sz a t f fv (Em.ats 0 H) (H.map (·.1)) (H.map (·.2)) ∧ (∀ b ∈ H, (Lit.int .i64 b.1).wf = true ∧ ∀ f ∈ b.2, (Lit.int .i64 f).wf = true) ∧ Em.used H ≤ sz ∧ sz ≤ 20000
theorem RRep.frm {S : Nat → Prop} {w w' : World} {p sz : Nat} {F : List Nat} {H : Em.Hp} (h : RRep w p F sz H) (k : Frm S w w') (hs : ∀ i ∈ F, ¬ S i) : RRep w' p F sz H := by
  obtain ⟨a, t, f, fv, rfl, h, r⟩ := h
  exact ⟨a, t, f, fv, rfl, h.frm k hs, r⟩
theorem RRep.keep {w w' : World} {p sz : Nat} {F : List Nat} {H : Em.Hp} (h : RRep w p F sz H) (k : Keep w w') : RRep w' p F sz H := h.frm (k.frm fun _ => False) fun _ _ h => h
theorem RRep.lt {w : World} {p sz : Nat} {F : List Nat} {H : Em.Hp} (h : RRep w p F sz H) : ∀ k ∈ F, k < w.heap.size := by
  obtain ⟨a, t, f, fv, rfl, h, r⟩ := h
  exact h.lt
end Go.Proofs.YtoehaijmkmdggaaGreat
namespace Go.Proofs.YtoehaijmkmdggaaGreat
open Go.RowKit Go.Maps
set_option linter.unusedVariables false
set_option maxRecDepth 100000
/-- A Heap that was made. -/
def NewR (w : World) (sz : Nat) (e : Ending) (w' : World) : Prop := ∃ p S, e = .returned (.pointer (some ⟨p, 0, none⟩)) ∧ RRep w' p S sz [] ∧ (∀ k ∈ S, w.heap.size ≤ k) ∧ Keep w w'
theorem own_nil (w : World) (e size : Nat) : w.ownsRow 0 e size (.slice none 0 0) 0 [] := ⟨by simp, .inl ⟨rfl, rfl⟩⟩
theorem refNew (n : Nat) (w : World) (h : n ≤ 20000) : Calls Tryz.prog 6 #[.int .i64 (n : Int)] w (NewR w n) := by
  go_enter Tryz.func6, Tryz.ntmps6
  go_wp2
  go_ret
  refine ⟨w.heap.size, [w.heap.size], rfl, ⟨.slice none 0 0, .slice none 0 0, .slice none 0 0, [], by simp [footV, ownB, Value.ownBlock], { top := ?_, ra := own_nil _ _ _, rt := own_nil _ _ _, rf := own_nil _ _ _, len := rfl, part := fun i u l h => by simp at h, nodup := by simp [footV, ownB, Value.ownBlock] }, by simp, by simp [Em.used], h⟩, by simp, (by repeat (first | exact Keep.rf _ | assumption | apply Keep.al | apply Keep.dr | apply Keep.dn))⟩
  have := heap_alloc_new w (.cells #[.slice none 0 0, .slice none 0 0, .slice none 0 0, .int .i64 (n : Int)] 51)
  exact this
theorem refUsed {p sz : Nat} {S : List Nat} {H : Em.Hp} (w : World) (h : RRep w p S sz H) : Calls Tryz.prog 13 #[.pointer (some ⟨p, 0, none⟩)] w fun e w' => e = .returned (.int .i64 (Em.used H : Int)) ∧ w = w' := by
  obtain ⟨a, t, f, fv, rfl, h, r⟩ := h
  have c0 := top_cells h.top 0
  simp only [List.getElem?_toArray, List.getElem?_cons_succ, List.getElem?_cons_zero] at c0
  obtain ⟨A, c, rfl⟩ := own_slice h.ra
  rw [Em.ats_length] at c0
  clear h r
  go_enter Tryz.func13, Tryz.ntmps13
  go_wp2
  go_ret
  exact ⟨rfl, rfl⟩
theorem refBlock {p sz : Nat} {S : List Nat} {H : Em.Hp} (w : World) (h : RRep w p S sz H) (n : Int) (hn : (Lit.int .i64 n).wf = true) : Calls Tryz.prog 82 #[.pointer (some ⟨p, 0, none⟩), .int .i64 n] w fun e w' => e = .returned (.int .i64 (Em.blkI H n)) ∧ w = w' := by
  have hb := in_i64 hn
  obtain ⟨a, t, f, fv, rfl, h, r⟩ := h
  have c0 := top_cells h.top 0
  simp only [List.getElem?_toArray, List.getElem?_cons_succ, List.getElem?_cons_zero] at c0
  have hsm : Em.used H ≤ 20000 := by omega
  by_cases ho : n % 2 = 1
  · have f1 : (n % 2 == 1) = true := by rw [ho]; rfl
    have hf := hide (Em.blkI_no (H := H) (.inl ho))
    clear ho h r c0
    go_enter Tryz.func82, Tryz.ntmps82
    go_wp2_with fail
    refine (refIsInt _ _).mono ?_
    rintro e w' ⟨rfl, rfl⟩
    rw [f1]
    go_wp2
    go_ret
    exact ⟨by first | (rw [hf.out]; done) | (rw [hf.out]; rfl), rfl⟩
  · have f1 : (n % 2 == 1) = false := by simpa using ho
    by_cases hl : n < 0
    · have hf := hide (Em.blkI_no (H := H) (.inr (.inl hl)))
      clear ho h r c0
      go_enter Tryz.func82, Tryz.ntmps82
      go_wp2_with fail
      refine (refIsInt _ _).mono ?_
      rintro e w' ⟨rfl, rfl⟩
      rw [f1]
      go_wp2
      go_ret
      exact ⟨by first | (rw [hf.out]; done) | (rw [hf.out]; rfl), rfl⟩
    · obtain ⟨k, rfl⟩ : ∃ k : Nat, n = 2 * (k : Int) := ⟨(n / 2).toNat, by omega⟩
      have hd : (2 * (k : Int)).tdiv 2 = (k : Int) := by rw [Int.tdiv_eq_ediv_of_nonneg (by omega)]; omega
      have hd2 : (2 * (k : Int)) / 2 = (k : Int) := by omega
      obtain ⟨hcs, -⟩ := Cs.of_own h.ra
      obtain ⟨A, c, rfl, q1, q2, q3⟩ := hcs
      simp only [List.length_map, Em.ats_length] at q1 q3 c0
      by_cases hk : k < Em.used H
      · obtain ⟨v, hv, hv2⟩ := Em.blkI_ats hk
        obtain ⟨ad, rfl, hc⟩ := q3 (by omega)
        have hcj := hc k hk
        rw [List.getElem_map] at hcj
        have hve : (Em.ats 0 H)[k]'(by rw [Em.ats_length]; exact hk) = v := by
          rw [List.getElem?_eq_getElem (by rw [Em.ats_length]; exact hk)] at hv
          injection hv
        rw [hve] at hcj
        have hvb : -1000000 ≤ v ∧ v ≤ 1000000 := by
          rcases Em.blk_of (H := H) (n := 2 * (k : Int)) with ⟨_, i, hi, e, _⟩ | ⟨e, _⟩
          · have hlu : H.length ≤ Em.used H := by
              have : ∀ G : Em.Hp, G.length ≤ Em.used G := fun G => by
                induction G with
                | nil => simp [Em.used]
                | cons b t ih => simp only [List.length_cons, Em.used]; omega
              exact this H
            omega
          · omega
        have HV := hide hv2
        clear hc q3 hv hv2 hve h r ho
        generalize Em.used H = U at *
        go_enter Tryz.func82, Tryz.ntmps82
        go_wp2_with fail
        refine (refIsInt _ _).mono ?_
        rintro e w' ⟨rfl, rfl⟩
        rw [f1]
        go_wp2
        go_ret
        exact ⟨by first | (rw [← HV.out]; done) | (rw [← HV.out]; rfl), rfl⟩
      · have hf := hide (Em.blkI_no (H := H) (n := 2 * (k : Int)) (.inr (.inr (by omega))))
        clear q3 h r ho
        generalize Em.used H = U at *
        go_enter Tryz.func82, Tryz.ntmps82
        go_wp2_with fail
        refine (refIsInt _ _).mono ?_
        rintro e w' ⟨rfl, rfl⟩
        rw [f1]
        go_wp2
        go_ret
        exact ⟨by first | (rw [hf.out]; done) | (rw [hf.out]; rfl), rfl⟩
/-- Where a block's fields lie. -/
def fldV (fv : List Value) (H : Em.Hp) (n : Int) : Value := match Em.idx H n with
  | some i => fv.getD i (.slice none 0 0)
  | none => .slice none 0 0
theorem refFieldsV {p sz : Nat} {a t f : Value} {fv : List Value} {H : Em.Hp} (w : World) (h : RRaw w p sz a t f fv (Em.ats 0 H) (H.map (·.1)) (H.map (·.2))) (r : (∀ b ∈ H, (Lit.int .i64 b.1).wf = true ∧ ∀ f ∈ b.2, (Lit.int .i64 f).wf = true) ∧ Em.used H ≤ sz ∧ sz ≤ 20000) (n : Int) (hn : (Lit.int .i64 n).wf = true) : Calls Tryz.prog 65 #[.pointer (some ⟨p, 0, none⟩), .int .i64 n] w fun e w' => e = .returned (fldV fv H n) ∧ w = w' := by
  have HB := refBlock w ⟨a, t, f, fv, rfl, h, r⟩ n hn
  have hl := h.len
  simp only [List.length_map] at hl
  rcases Em.blk_of (H := H) (n := n) with ⟨g0, i, hi, g1, g2, g3⟩ | ⟨g1, g2, g3⟩
  · have c0 := top_cells h.top 2
    simp only [List.getElem?_toArray, List.getElem?_cons_succ, List.getElem?_cons_zero] at c0
    obtain ⟨hcs, -⟩ := Cs.of_own h.rf
    obtain ⟨A, c, rfl, q1, q2, q3⟩ := hcs
    obtain ⟨ad, rfl, hc⟩ := q3 (by omega)
    have hcj := hc i (by omega)
    rw [g1] at HB
    have G : fldV fv H n = fv[i]'(by omega) := by
      unfold fldV
      rw [g3]
      simp [List.getD_eq_getElem?_getD, List.getElem?_eq_getElem (show i < fv.length by omega)]
    have HG := hide G
    have hil : i < fv.length := by omega
    obtain ⟨q, A2, c2, e2⟩ : ∃ q A c, fv[i] = Value.slice A q c := by
      obtain ⟨A, c, e⟩ := own_slice (h.part i fv[i] ((H.map (·.2))[i]'(by simpa using hi)) (List.getElem?_eq_getElem hil) (List.getElem?_eq_getElem (by simpa using hi)))
      exact ⟨_, A, c, e⟩
    clear g0 g1 g2 g3 hc q3 h r G
    generalize fv[i] = u at *
    subst e2
    go_enter Tryz.func65, Tryz.ntmps65
    go_wp2_with fail
    refine HB.mono ?_
    rintro e w' ⟨rfl, rfl⟩
    go_wp2
    go_ret
    exact ⟨by first | (rw [HG.out]; done) | (rw [HG.out]; rfl), rfl⟩
  · have G : fldV fv H n = .slice none 0 0 := by
      unfold fldV
      rw [g3]
    have HG := hide G
    rw [g1] at HB
    clear g1 g2 g3 h r G
    go_enter Tryz.func65, Tryz.ntmps65
    go_wp2_with fail
    refine HB.mono ?_
    rintro e w' ⟨rfl, rfl⟩
    go_wp2
    go_ret
    exact ⟨by first | (rw [HG.out]; done) | (rw [HG.out]; rfl), rfl⟩
/-- The fields' row. -/
theorem fldV_own {p sz : Nat} {a t f : Value} {fv : List Value} {H : Em.Hp} {w : World} (h : RRaw w p sz a t f fv (Em.ats 0 H) (H.map (·.1)) (H.map (·.2))) (n : Int) : w.ownsRow 0 32 1 (fldV fv H n) (Em.blk H n).2.length ((Em.blk H n).2.map (Value.int .i64)) := by
  have hl := h.len
  simp only [List.length_map] at hl
  rcases Em.blk_of (H := H) (n := n) with ⟨g0, i, hi, g1, g2, g3⟩ | ⟨g1, g2, g3⟩
  · have hil : i < fv.length := by omega
    have := h.part i fv[i] ((H.map (·.2))[i]'(by simpa using hi)) (List.getElem?_eq_getElem hil) (List.getElem?_eq_getElem (by simpa using hi))
    rw [List.getElem_map] at this
    unfold fldV
    rw [g3, g2]
    simpa [List.getD_eq_getElem?_getD, List.getElem?_eq_getElem hil] using this
  · unfold fldV
    rw [g3, g2]
    exact own_nil _ _ _
/-- What Set does. -/
def SetR (w : World) (p : Nat) (S : List Nat) (sz : Nat) (H : Em.Hp) (n k v : Int) (e : Ending) (w' : World) : Prop := match Em.put H n k v with
  | none => e = .returned (.bool false) ∧ w = w'
  | some H' => e = .returned (.bool true) ∧ RRep w' p S sz H' ∧ Frm (· ∈ S) w w'
theorem ats_setF (s : Nat) (H : Em.Hp) (i k : Nat) (v : Int) : Em.ats s (Em.setF H i k v) = Em.ats s H := by
  have : ∀ (H G : Em.Hp) (s : Nat), H.map (fun b => b.2.length) = G.map (fun b => b.2.length) → Em.ats s H = Em.ats s G := by
    intro H
    induction H with
    | nil =>
      intro G s h
      cases G with
      | nil => rfl
      | cons c u => simp at h
    | cons b t ih =>
      intro G s h
      cases G with
      | nil => simp at h
      | cons c u =>
        simp only [List.map_cons, List.cons.injEq] at h
        simp only [Em.ats, h.1, ih u (s + 1) h.2]
  exact this _ _ s (Em.setF_shape H i k v)
theorem map1_setF (H : Em.Hp) (i k : Nat) (v : Int) : (Em.setF H i k v).map (·.1) = H.map (·.1) := by
  unfold Em.setF
  apply List.ext_getElem?
  intro j
  simp only [List.getElem?_map, List.getElem?_modify]
  cases H[j]? with
  | none => rfl
  | some b => by_cases h : i = j <;> simp [h]
theorem RRaw.set {w : World} {p sz : Nat} {a t f : Value} {fv : List Value} {H : Em.Hp} (h : RRaw w p sz a t f fv (Em.ats 0 H) (H.map (·.1)) (H.map (·.2))) {i g n cap : Nat} (hi : i < H.length) (hu : fv[i]? = some (.slice (some ⟨g, 0, none⟩) n cap)) (k : Nat) (v : Int) :
    RRaw (w.setCell ⟨g, k, none⟩ (.int .i64 v)) p sz a t f fv (Em.ats 0 (Em.setF H i k v)) ((Em.setF H i k v).map (·.1)) ((Em.setF H i k v).map (·.2)) := by
  rw [ats_setF, map1_setF]
  have hl := h.len
  simp only [List.length_map] at hl
  have hil : i < fv.length := by omega
  have hsp : fv = fv.take i ++ .slice (some ⟨g, 0, none⟩) n cap :: fv.drop (i + 1) := by
    have e := List.getElem?_eq_getElem hil
    rw [hu] at e
    injection e with e
    rw [e, ← List.drop_eq_getElem_cons hil, List.take_append_drop]
  have hnd := h.nodup
  have hm : Value.slice (some ⟨g, 0, none⟩) n cap ∈ fv := List.mem_of_getElem? hu
  have hne : ∀ u k', (u = a ∨ u = t ∨ u = f) → u.ownBlock = some k' → k' ≠ g := by
    intro u k' hu' hk
    rw [hsp] at hnd
    have e : a :: t :: f :: (fv.take i ++ Value.slice (some ⟨g, 0, none⟩) n cap :: fv.drop (i + 1)) = (a :: t :: f :: fv.take i) ++ .slice (some ⟨g, 0, none⟩) n cap :: fv.drop (i + 1) := by simp
    rw [e] at hnd
    exact footV_ne hnd (u := u) (.inl (by rcases hu' with h | h | h <;> simp [h])) hk rfl
  refine { top := ?_, ra := own_store h.ra fun k' hk => hne a k' (.inl rfl) hk, rt := own_store h.rt fun k' hk => hne t k' (.inr (.inl rfl)) hk, rf := own_store h.rf fun k' hk => hne f k' (.inr (.inr rfl)) hk, len := by simp [Em.setF, hl], part := fun j u l hu' hl' => ?_, nodup := h.nodup }
  · have : g ≠ p := footV_p h.nodup (v := .slice (some ⟨g, 0, none⟩) n cap) (by simp [hm]) rfl
    exact ((Frm.rf (· = g) w).st (p := ⟨g, k, none⟩) (.inl rfl) _).heap (fun e => this e.symm) h.top
  · simp only [Em.setF, List.getElem?_map, List.getElem?_modify] at hl'
    by_cases hij : i = j
    · subst hij
      rw [hu] at hu'
      injection hu' with hu'
      subst hu'
      rw [List.getElem?_eq_getElem hi] at hl'
      simp at hl'
      have hp := h.part i _ (H[i]).2 hu (by rw [List.getElem?_map, List.getElem?_eq_getElem hi]; rfl)
      subst hl'
      have hm : n = (H[i]).2.length := by
        obtain ⟨_, ⟨e, _⟩ | ⟨_, _, _, e, _⟩⟩ := hp
        · cases e
        · injection e
      subst hm
      simp only [List.length_set, List.map_set]
      exact (World.ownsRow.stored hp k (.int .i64 v)).1
    · cases hq : H[j]? with
      | none => rw [hq] at hl'; simp at hl'
      | some b =>
        rw [hq] at hl'
        simp [hij] at hl'
        subst hl'
        refine own_store (h.part j u b.2 hu' (by rw [List.getElem?_map, hq]; rfl)) fun k' hk => ?_
        rw [hsp] at hnd hu'
        have e : a :: t :: f :: (fv.take i ++ Value.slice (some ⟨g, 0, none⟩) n cap :: fv.drop (i + 1)) = (a :: t :: f :: fv.take i) ++ .slice (some ⟨g, 0, none⟩) n cap :: fv.drop (i + 1) := by simp
        rw [e] at hnd
        refine footV_ne hnd (u := u) ?_ hk rfl
        have htl : (fv.take i).length = i := by rw [List.length_take]; omega
        rcases Nat.lt_or_ge j i with hlt | hge
        · rw [List.getElem?_append_left (by omega)] at hu'
          exact .inl (by simp [List.mem_of_getElem? hu'])
        · rw [List.getElem?_append_right (by omega), htl] at hu'
          have : j - i = (j - i - 1) + 1 := by omega
          rw [this, List.getElem?_cons_succ] at hu'
          exact .inr (List.mem_of_getElem? hu')
theorem refSet {p sz : Nat} {S : List Nat} {H : Em.Hp} (w : World) (h : RRep w p S sz H) (n : Int) (hn : (Lit.int .i64 n).wf = true) (k v : Int) (hv : (Lit.int .i64 v).wf = true) : Calls Tryz.prog 41 #[.pointer (some ⟨p, 0, none⟩), .int .i64 n, .int .i64 k, .int .i64 v] w (SetR w p S sz H n k v) := by
  obtain ⟨a, t, f, fv, rfl, h, r⟩ := h
  have HB := refFieldsV w h r n hn
  have ho := fldV_own h n
  by_cases hk : k < 0 ∨ ((Em.blk H n).2.length : Int) ≤ k
  · have hf := hide (put_no (H := H) (n := n) (v := v) hk)
    obtain ⟨A, c, e⟩ := own_slice ho
    rw [e] at HB
    generalize (Em.blk H n).2.length = l at *
    clear h ho e r
    rcases hk with hk | hk
    all_goals
      go_enter Tryz.func41, Tryz.ntmps41
      go_wp2_with fail
      refine HB.mono ?_
      rintro e w' ⟨rfl, rfl⟩
      go_wp2
      go_ret
      unfold SetR
      rw [hf.out]
      exact ⟨rfl, rfl⟩
  · obtain ⟨j, rfl⟩ := Int.eq_ofNat_of_zero_le (show 0 ≤ k by omega)
    rcases Em.blk_of (H := H) (n := n) with ⟨g0, i, hi, g1, g2, g3⟩ | ⟨g1, g2, g3⟩
    · have hl := h.len
      simp only [List.length_map] at hl
      have hjl : j < (Em.blk H n).2.length := by omega
      have hf := hide (show Em.put H n (j : Int) v = some (Em.setF H i j v) from by
        unfold Em.put
        rw [g3]
        simp only
        rw [if_neg hk, Int.toNat_natCast])
      have hfe : fv[i]? = some (fldV fv H n) := by
        unfold fldV
        rw [g3]
        simp [List.getD_eq_getElem?_getD, List.getElem?_eq_getElem (show i < fv.length by omega)]
      have ho0 := ho
      obtain ⟨_, ⟨_, h00⟩ | ⟨g, c, cur, e, _, gh, _, _, _, _⟩⟩ := ho
      · omega
      · have hfz := top_free gh j
        obtain ⟨hcs, -⟩ := Cs.of_own ho0
        obtain ⟨A, c', e2, q1, q2, q3⟩ := hcs
        simp only [List.length_map] at e2 q1 q3
        rw [e] at e2 hfe HB
        injection e2 with e21 e22 e23
        subst e21 e23
        obtain ⟨ad, ead, hc⟩ := q3 (by omega)
        injection ead with ead
        subst ead
        have hcj := hc j (by omega)
        rw [add_pl] at hcj
        simp only [List.getElem_map] at hcj
        have hset := hide (h.set hi hfe j v)
        have hgf : g ∈ footV p (a :: t :: f :: fv) := mem_footV.2 (.inr ⟨_, List.mem_cons_of_mem _ (List.mem_cons_of_mem _ (List.mem_cons_of_mem _ (List.mem_of_getElem? hfe))), rfl⟩)
        have hints : ∀ b ∈ Em.setF H i j v, (Lit.int .i64 b.1).wf = true ∧ ∀ f ∈ b.2, (Lit.int .i64 f).wf = true := by
          intro c hc
          obtain ⟨q, hq⟩ := List.mem_iff_getElem?.1 hc
          simp only [Em.setF, List.getElem?_modify] at hq
          cases hq' : H[q]? with
          | none => rw [hq'] at hq; simp at hq
          | some d =>
            rw [hq'] at hq
            have hd := r.1 d (List.mem_of_getElem? hq')
            by_cases hij : i = q
            · simp [hij] at hq
              subst hq
              refine ⟨hd.1, fun f hf => ?_⟩
              rcases List.mem_or_eq_of_mem_set hf with hf | rfl
              · exact hd.2 f hf
              · exact hv
            · simp [hij] at hq
              subst hq
              exact hd
        have HI := hide hints
        have hus := hide (Em.used_shape (Em.setF_shape H i j v))
        have R2 := hide r.2
        clear hints g0 g1 g2 g3 h r ho0 e gh hc q3 e22 hk hfe hl
        generalize (Em.blk H n).2 = l at *
        go_enter Tryz.func41, Tryz.ntmps41
        go_wp2_with fail
        refine HB.mono ?_
        rintro e w' ⟨rfl, rfl⟩
        go_wp2
        go_ret
        unfold SetR
        rw [hf.out]
        exact ⟨rfl, ⟨a, t, f, fv, rfl, hset.out, HI.out, by rw [hus.out]; exact R2.out⟩, Frm.st (Frm.rf _ _) (.inl hgf) _⟩
    · rw [g2] at hk
      simp at hk
end Go.Proofs.YtoehaijmkmdggaaGreat
namespace Go.Proofs.YtoehaijmkmdggaaGreat
open Go.RowKit Go.Maps
set_option linter.unusedVariables false
set_option maxRecDepth 100000
/-- What was in S may have changed; what is in S' was in S, or is new. -/
def Ext (w w' : World) (S S' : List Nat) : Prop := Frm (· ∈ S) w w' ∧ ∀ k ∈ S', k ∈ S ∨ w.heap.size ≤ k
theorem Ext.rf (w : World) (S : List Nat) : Ext w w S S := ⟨Frm.rf _ _, fun k h => .inl h⟩
theorem Ext.tr {a b c : World} {S T U : List Nat} (h : Ext a b S T) (k : Ext b c T U) : Ext a c S U :=
  ⟨h.1.trn k.1 h.2, fun i hi => by
    rcases k.2 i hi with e | e
    · exact h.2 i e
    · exact .inr (Nat.le_trans h.1.size e)⟩
theorem Ext.keep {a b c : World} {S T : List Nat} (h : Ext a b S T) (k : Keep b c) : Ext a c S T := ⟨h.1.tr (k.frm _), h.2⟩
theorem Ext.of_keep {a b c : World} {S T : List Nat} (k : Keep a b) (h : Ext b c S T) : Ext a c S T := ⟨(k.frm _).tr h.1, fun i hi => by
  rcases h.2 i hi with e | e
  · exact .inl e
  · exact .inr (Nat.le_trans k.size e)⟩
/-- The world behind an append onto a part of a Heap, and the store of what it gave. -/
theorem ext_push {w w1 : World} {p j : Nat} {l1 l2 : List Value} {v v' : Value} (hg : w.grownBy w1 v.ownBlock) (hm : v'.ownBlock = v.ownBlock ∨ v'.ownBlock = some w.heap.size) : Ext w (w1.setCell ⟨p, j, none⟩ v') (footV p (l1 ++ v :: l2)) (footV p (l1 ++ v' :: l2)) := by
  refine ⟨(frm_push (p := p) (j := j) hg v').mono fun k _ e => ?_, fun k hk => ?_⟩
  · rcases e with rfl | e
    · exact mem_footV.2 (.inl rfl)
    · exact mem_footV.2 (.inr ⟨v, by simp, e⟩)
  · rw [mem_footV] at hk
    rcases hk with rfl | ⟨u, hu, hk⟩
    · exact .inl (mem_footV.2 (.inl rfl))
    · simp only [List.mem_append, List.mem_cons] at hu
      rcases hu with hu | rfl | hu
      · exact .inl (mem_footV.2 (.inr ⟨u, by simp [hu], hk⟩))
      · rcases hm with e | e
        · exact .inl (mem_footV.2 (.inr ⟨v, by simp, by rw [← e, hk]⟩))
        · rw [e] at hk
          injection hk with hk
          exact .inr (by omega)
      · exact .inl (mem_footV.2 (.inr ⟨u, by simp [hu], hk⟩))
theorem footV_snoc {p : Nat} {vs : List Value} {u : Value} {w : World} {S : List Nat} (h : ∀ k ∈ footV p vs, k ∈ S ∨ w.heap.size ≤ k) (hu : ∀ k, u.ownBlock = some k → w.heap.size ≤ k) : ∀ k ∈ footV p (vs ++ [u]), k ∈ S ∨ w.heap.size ≤ k := by
  intro k hk
  rw [mem_footV] at hk
  rcases hk with rfl | ⟨v, hv, hk⟩
  · exact h _ (mem_footV.2 (.inl rfl))
  · simp only [List.mem_append, List.mem_singleton] at hv
    rcases hv with hv | rfl
    · exact h k (mem_footV.2 (.inr ⟨v, hv, hk⟩))
    · exact .inr (hu k hk)
/-- What Alloc does. -/
def AllocR (w : World) (p : Nat) (S : List Nat) (sz : Nat) (H : Em.Hp) (tag : Int) (fs : List Int) (e : Ending) (w' : World) : Prop := match Em.alloc sz H tag fs with
  | none => e = .returned (.tuple #[.int .i64 0, .bool false]) ∧ Keep w w'
  | some (n, H') => e = .returned (.tuple #[.int .i64 n, .bool true]) ∧ ∃ S', RRep w' p S' sz H' ∧ Ext w w' S S'
theorem AllocR.yes {w w' : World} {p sz : Nat} {S : List Nat} {H : Em.Hp} {tag : Int} {fs : List Int} {e : Ending} {n : Int} {H' : Em.Hp} (h : AllocR w p S sz H tag fs e w') (ha : Em.alloc sz H tag fs = some (n, H')) :
    e = .returned (.tuple #[.int .i64 n, .bool true]) ∧ ∃ S', RRep w' p S' sz H' ∧ Ext w w' S S' := by
  unfold AllocR at h
  rw [ha] at h
  exact h
theorem AllocR.no {w w' : World} {p sz : Nat} {S : List Nat} {H : Em.Hp} {tag : Int} {fs : List Int} {e : Ending} (h : AllocR w p S sz H tag fs e w') (ha : Em.alloc sz H tag fs = none) :
    e = .returned (.tuple #[.int .i64 0, .bool false]) ∧ Keep w w' := by
  unfold AllocR at h
  rw [ha] at h
  exact h
theorem slice_one (l : List Value) (u : Value) (h : u ∈ l) (hs : ∃ A n c, u = .slice A n c) : u.oneCell' = true := by
  obtain ⟨A, n, c, rfl⟩ := hs
  rfl
section
variable {P : Program}
/-- append of ints, at the walk. -/
theorem appI {w : World} {ops : Array Oper} {rest : List Oper} {o : Oper} {a : Act} {Q : Exit → Act → World → Prop} (l m : List Int) (hgd : o.guard = none) (s x : Operand) (t e : TypeId) (z : Value) (bytes : Nat) (ht : P.underlying t = some (.slice e))
    (hinfo : (P.info? e).map (fun i => (i.zero, i.size, i.bytes)) = some (some z, 1, bytes)) (hz : z.cells.size = 1) (hb : bytes ≤ 1000) (ho : o.op = .call { callee := .builtin .append, args := #[s, x], argTypes := #[t, t] })
    (base : Nat) (v : Value) (hs : a.eval s = v) (hown : w.ownsRow base e 1 v l.length (l.map (Value.int .i64))) (y : Value) (hx : a.eval x = y) (hy : Is w y m) (hbase : base ≤ w.heap.size) (hl : l.length + m.length ≤ 1000000000)
    (h : ∀ v' w', w'.ownsRow base e 1 v' (l ++ m).length ((l ++ m).map (Value.int .i64)) → w.grownBy w' v.ownBlock → (v'.ownBlock = v.ownBlock ∨ v'.ownBlock = some w.heap.size) → wpList P ops Q rest (a.put o.dst v') w') : wpList P ops Q (o :: rest) a w :=
  app1 hgd s x t e z bytes ht hinfo hz hb ho base v (l.map (Value.int .i64)) hs (by rw [List.length_map]; exact hown) y (m.map (Value.int .i64)) hx hy (int_one m) hbase (by simpa using hl) fun v' w' h1 h2 h3 => h v' w' (by rw [← List.map_append, List.length_map] at h1; exact h1) h2 h3
end
/-- A row was pushed onto the fields' row, which is not put back yet. -/
def FPush (w0 : World) (f : Value) (fv : List Value) (fs : List Int) (u : Value) (W : World) (v : Value) : Prop :=
  ∃ Wb, Keep w0 Wb ∧ Wb.grownBy W f.ownBlock ∧ (v.ownBlock = f.ownBlock ∨ v.ownBlock = some Wb.heap.size) ∧ W.ownsRow 0 31 1 v (fv ++ [u]).length (fv ++ [u]) ∧ W.ownsRow 0 32 1 u fs.length (fs.map (Value.int .i64)) ∧
    (∀ k, u.ownBlock = some k → w0.heap.size ≤ k ∧ k < Wb.heap.size)
theorem FPush.keep {w0 W W' : World} {f u v : Value} {fv : List Value} {fs : List Int} (h : FPush w0 f fv fs u W v) (k : Keep W W') : FPush w0 f fv fs u W' v := by
  obtain ⟨Wb, h1, h2, h3, h4, h5, h6⟩ := h
  exact ⟨Wb, h1, grown_keep h2 k, h3, own_keep h4 k, own_keep h5 k, h6⟩
theorem FPush.mk {w0 Wb W : World} {f u v : Value} {fv : List Value} {fs : List Int} (k : Keep w0 Wb) (hf : ∀ q, f.ownBlock = some q → q < w0.heap.size) (ho : Wb.ownsRow w0.heap.size 32 1 u fs.length (fs.map (Value.int .i64)))
    (h : App Wb 0 31 1 f (fv.length + 1) (fv ++ [u]) v W) : FPush w0 f fv fs u W v := by
  obtain ⟨h1, h2, h3⟩ := h
  have hl := World.ownsRow.lt ho
  refine ⟨Wb, k, h2, h3, by simpa using h1, own_lower ((Frm.of_grown (S := fun q => f.ownBlock = some q) h2 fun _ e => e).own ho fun q hq e => ?_) (Nat.zero_le _), hl⟩
  have := hl q hq
  have := hf q e
  omega
/-- A number was pushed onto a row, which is not put back yet. -/
def IPush (w0 : World) (a : Value) (l : List Int) (W : World) (v : Value) : Prop :=
  ∃ Wb, Keep w0 Wb ∧ Wb.grownBy W a.ownBlock ∧ (v.ownBlock = a.ownBlock ∨ v.ownBlock = some Wb.heap.size) ∧ W.ownsRow 0 3 1 v l.length (l.map (Value.int .i64))
theorem IPush.keep {w0 W W' : World} {a v : Value} {l : List Int} (h : IPush w0 a l W v) (k : Keep W W') : IPush w0 a l W' v := by
  obtain ⟨Wb, h1, h2, h3, h4⟩ := h
  exact ⟨Wb, h1, grown_keep h2 k, h3, own_keep h4 k⟩
theorem IPush.mk {w0 Wb W : World} {a v : Value} {l : List Int} {x : Int} (k : Keep w0 Wb) (h : App Wb 0 3 1 a (l.length + 1) (l.map (Value.int .i64) ++ [.int .i64 x]) v W) : IPush w0 a (l ++ [x]) W v := by
  obtain ⟨h1, h2, h3⟩ := h
  exact ⟨Wb, k, h2, h3, by simpa using h1⟩
theorem cells_src {w : World} {y : Value} {l : List Int} (h : Is w y l) : Src w 1 y l.length (l.map (Value.int .i64)) := by
  have := h.src
  rwa [List.length_map] at this
set_option maxHeartbeats 8000000 in
theorem refAlloc {p sz : Nat} {S : List Nat} {H : Em.Hp} (w : World) (h : RRep w p S sz H) (tag : Int) (ht : (Lit.int .i64 tag).wf = true) (v : Value) (fs : List Int) (hv : Is w v fs) (hst : ∀ W, Frm (· ∈ S) w W → Is W v fs) (hfs : ∀ f ∈ fs, (Lit.int .i64 f).wf = true) (hl : fs.length ≤ 1000000) : Calls Tryz.prog 9 #[.pointer (some ⟨p, 0, none⟩), .int .i64 tag, v] w (AllocR w p S sz H tag fs) := by
  have hv0 := hv
  obtain ⟨A, c, rfl, q1, q2, -⟩ := hv
  simp only [List.length_map] at q1 hv0 hst ⊢
  have h0 := h
  obtain ⟨a, t, f, fv, rfl, h, hi, hsm⟩ := h
  have HST := hide hst
  clear hst
  have hb := in_i64 ht
  have c3 := top_cells h.top 3
  simp only [List.getElem?_toArray, List.getElem?_cons_succ, List.getElem?_cons_zero] at c3
  have HNO := hide (alloc_no (sz := sz) (H := H) (tag := tag) (fs := fs))
  have HYES := hide (alloc_yes (sz := sz) (H := H) (tag := tag) (fs := fs))
  have HU0 := fun W (k : Keep w W) => refUsed W (h0.keep k)
  have hHl : H.length ≤ Em.used H := by
    have : ∀ G : Em.Hp, G.length ≤ Em.used G := fun G => by
      induction G with
      | nil => simp [Em.used]
      | cons b t ih => simp only [List.length_cons, Em.used]; omega
    exact this H
  have hA0 := Em.ats_append 0 H (tag, fs)
  have hAl := Em.ats_length 0 H
  have hTl : (H.map (·.1)).length ≤ Em.used H := by simpa using hHl
  have hFl : (H.map (·.2)).length ≤ Em.used H := by simpa using hHl
  have hTe : (H.map (·.1)).length = H.length := by simp
  have E1 : (H ++ [(tag, fs)]).map (·.1) = H.map (·.1) ++ [tag] := by simp
  have E2 : (H ++ [(tag, fs)]).map (·.2) = H.map (·.2) ++ [fs] := by simp
  generalize Em.ats 0 H = A0 at *
  generalize H.map (·.1) = T at *
  generalize H.map (·.2) = F at *
  generalize hU : Em.used H = U at *
  rw [Nat.zero_add] at hA0
  have HU := hide hU
  have HE1 := hide E1
  have HE2 := hide E2
  have HA0 := hide hA0
  have hAl1 : A0.length ≤ U := by omega
  have HAl := hide hAl
  have HTe := hide hTe
  clear hU E1 E2 hA0 hAl hTe
  go_enter Tryz.func9, Tryz.ntmps9
  go_wp2
  apply region_all (by kernel_rfl) Keep Keep krg ktg krg ktg (fun _ _ h => h) [some 10, some 11, some 12, some 13, some 14, some 15, some 16, some 17, some 18, some 19, some 20, some 21, some 22, some 23, some 24, some 25, some 26, some 27, some 28] [eqG _ , eqG _ , eqG _ , gnG _ _ , gnG _ _ , eqG _ , eqG _ , gnG _ _ , gnG _ _ , gnG _ _ , gnG _ _ , gnG _ _ , gnG _ _ , gnG _ _ , gnG _ _ , gnG _ _ , gnG _ _ , gnG _ _ , eqG _ ] [⟨[], [], true, false, false⟩, ⟨[0], [], true, false, false⟩, ⟨[1], [], true, false, false⟩, ⟨[2], [], true, false, false⟩, ⟨[2, 3], [], true, false, false⟩, ⟨[2, 4], [], true, false, false⟩, ⟨[5], [], true, false, false⟩, ⟨[6], [], true, false, false⟩, ⟨[6, 7], [], true, false, false⟩, ⟨[6, 8], [], true, false, false⟩, ⟨[6], [], true, false, false⟩, ⟨[6, 10], [], true, false, false⟩, ⟨[6, 9, 11], [], true, false, false⟩, ⟨[6], [], true, false, false⟩, ⟨[6, 13], [], true, false, false⟩, ⟨[6, 14], [], true, false, false⟩, ⟨[6, 15], [], true, false, false⟩, ⟨[6, 12, 16], [], true, false, false⟩, ⟨[6, 17], [], true, false, false⟩] [18] (by kernel_rfl) (by kernel_rfl) 
  · refine ⟨?_, ?_, ?_, ?_, ?_, ?_, ?_, ?_, ?_, ?_, ?_, ?_, ?_, ?_, ?_, ?_, ?_, ?_, ?_, trivial⟩ <;> (intro us W h9 hW hE hd hs K hK; obtain ⟨u0, u1, u2, u3, u4, u5, u6, u7, u8, u9, u10, u11, u12, u13, u14, u15, u16, u17, u18, rfl⟩ := rog 19 h9 rfl; clear h9; try simp only [DepG, AtG, and_true, relG, eqG, eqG1, eqG2, eqG3, gdG, gdG1, gnG, gnG1, List.getD_cons_zero, List.getD_cons_succ, List.getElem?_cons_succ, List.getElem?_cons_zero, Option.map_some, Option.getD_some, valsG, List.map_cons, List.map_nil, List.length_cons, List.length_nil] at hd)
    · ((try clear hd); clear hs; simp only [fillG, List.set_cons_zero, List.set_cons_succ]; refine want_n rfl ?_; go_wp2_with (first | fail); simp only [DoneG, fillG, List.set_cons_zero, List.set_cons_succ, relG, eqG, eqG1, eqG2, eqG3, gdG, gdG1, gnG, gnG1, List.getD_cons_zero, List.getD_cons_succ, List.getElem?_cons_succ, List.getElem?_cons_zero, Option.map_some, Option.getD_some, valsG, List.map_cons, List.map_nil, List.length_cons, List.length_nil]; exact ⟨_, rfl, (by first | with_reducible assumption | exact krg _ | exact Keep.al (krg _) _), fun _ _ => rfl⟩)
    · (have d0 := hd; clear hd; subst d0; clear hs; simp only [fillG, List.set_cons_zero, List.set_cons_succ]; refine want_n rfl ?_; go_wp2_with (first | fail); simp only [DoneG, fillG, List.set_cons_zero, List.set_cons_succ, relG, eqG, eqG1, eqG2, eqG3, gdG, gdG1, gnG, gnG1, List.getD_cons_zero, List.getD_cons_succ, List.getElem?_cons_succ, List.getElem?_cons_zero, Option.map_some, Option.getD_some, valsG, List.map_cons, List.map_nil, List.length_cons, List.length_nil]; exact ⟨_, rfl, (by first | with_reducible assumption | exact krg _ | exact Keep.al (krg _) _), fun _ _ => rfl⟩)
    · (have d1 := hd; clear hd; subst d1; clear hs; simp only [fillG, List.set_cons_zero, List.set_cons_succ]; refine want_n rfl ?_; go_wp2_with (first | fail); simp only [DoneG, fillG, List.set_cons_zero, List.set_cons_succ, relG, eqG, eqG1, eqG2, eqG3, gdG, gdG1, gnG, gnG1, List.getD_cons_zero, List.getD_cons_succ, List.getElem?_cons_succ, List.getElem?_cons_zero, Option.map_some, Option.getD_some, valsG, List.map_cons, List.map_nil, List.length_cons, List.length_nil]; exact ⟨_, rfl, (by first | with_reducible assumption | exact krg _ | exact Keep.al (krg _) _), fun _ _ => rfl⟩)
    · (have d2 := hd; clear hd; subst d2; clear hs; simp only [fillG, List.set_cons_zero, List.set_cons_succ]; refine want_b rfl (by rfl) (fun hg => ?_) (fun hg => ?_); (focus (have hG := hide hg; (try simp only [gd, hg, cond_true, Bool.and_self, Bool.true_and, Bool.and_true, cond_false, Bool.not_true, Bool.not_false]); go_wp2_with (first | fail); simp only [DoneG, fillG, List.set_cons_zero, List.set_cons_succ, relG, eqG, eqG1, eqG2, eqG3, gdG, gdG1, gnG, gnG1, List.getD_cons_zero, List.getD_cons_succ, List.getElem?_cons_succ, List.getElem?_cons_zero, Option.map_some, Option.getD_some, valsG, List.map_cons, List.map_nil, List.length_cons, List.length_nil]; exact ⟨_, rfl, (by first | with_reducible assumption | exact krg _ | exact Keep.al (krg _) _), fun _ _ => gd_f hG.out _⟩)); (focus (refine hK _ _ ?_; simp only [DoneG, fillG, List.set_cons_zero, List.set_cons_succ, relG, eqG, eqG1, eqG2, eqG3, gdG, gdG1, gnG, gnG1, List.getD_cons_zero, List.getD_cons_succ, List.getElem?_cons_succ, List.getElem?_cons_zero, Option.map_some, Option.getD_some, valsG, List.map_cons, List.map_nil, List.length_cons, List.length_nil]; exact ⟨undef, rfl, krg _, fun _ _ => gd_fn hg _⟩)))
    · (obtain ⟨d2, d3⟩ := hd; subst d2; subst d3; clear hs; simp only [fillG, List.set_cons_zero, List.set_cons_succ]; refine want_b rfl (by rfl) (fun hg => ?_) (fun hg => ?_); (focus (have hG := hide hg; (try simp only [gd, hg, cond_true, Bool.and_self, Bool.true_and, Bool.and_true, cond_false, Bool.not_true, Bool.not_false]); go_wp2_with (first | fail); simp only [DoneG, fillG, List.set_cons_zero, List.set_cons_succ, relG, eqG, eqG1, eqG2, eqG3, gdG, gdG1, gnG, gnG1, List.getD_cons_zero, List.getD_cons_succ, List.getElem?_cons_succ, List.getElem?_cons_zero, Option.map_some, Option.getD_some, valsG, List.map_cons, List.map_nil, List.length_cons, List.length_nil]; exact ⟨_, rfl, (by first | with_reducible assumption | exact krg _ | exact Keep.al (krg _) _), fun _ _ => gd_f hG.out _⟩)); (focus (refine hK _ _ ?_; simp only [DoneG, fillG, List.set_cons_zero, List.set_cons_succ, relG, eqG, eqG1, eqG2, eqG3, gdG, gdG1, gnG, gnG1, List.getD_cons_zero, List.getD_cons_succ, List.getElem?_cons_succ, List.getElem?_cons_zero, Option.map_some, Option.getD_some, valsG, List.map_cons, List.map_nil, List.length_cons, List.length_nil]; exact ⟨undef, rfl, krg _, fun _ _ => gd_fn hg _⟩)))
    · (obtain ⟨d2, d4⟩ := hd; subst d2; subst d4; clear hs; simp only [fillG, List.set_cons_zero, List.set_cons_succ]; refine want_n rfl ?_; refine wp_pick_or rfl rfl rfl ?_; refine hK _ _ ?_; simp only [DoneG, fillG, List.set_cons_zero, List.set_cons_succ, relG, eqG, eqG1, eqG2, eqG3, gdG, gdG1, gnG, gnG1, List.getD_cons_zero, List.getD_cons_succ, List.getElem?_cons_succ, List.getElem?_cons_zero, Option.map_some, Option.getD_some, valsG, List.map_cons, List.map_nil, List.length_cons, List.length_nil]; exact ⟨_, rfl, (by first | with_reducible assumption | exact krg _ | exact Keep.al (krg _) _), fun _ _ => rfl⟩)
    · (have d5 := hd; clear hd; subst d5; clear hs; simp only [fillG, List.set_cons_zero, List.set_cons_succ]; refine want_n rfl ?_; go_wp2_with (first | fail); simp only [DoneG, fillG, List.set_cons_zero, List.set_cons_succ, relG, eqG, eqG1, eqG2, eqG3, gdG, gdG1, gnG, gnG1, List.getD_cons_zero, List.getD_cons_succ, List.getElem?_cons_succ, List.getElem?_cons_zero, Option.map_some, Option.getD_some, valsG, List.map_cons, List.map_nil, List.length_cons, List.length_nil]; exact ⟨_, rfl, (by first | with_reducible assumption | exact krg _ | exact Keep.al (krg _) _), fun _ _ => rfl⟩)
    · (have d6 := hd; clear hd; subst d6; clear hs; simp only [fillG, List.set_cons_zero, List.set_cons_succ]; refine want_b rfl (by rfl) (fun hg => ?_) (fun hg => ?_); (focus (have hG := hide hg; (try simp only [gd, hg, cond_true, Bool.and_self, Bool.true_and, Bool.and_true, cond_false, Bool.not_true, Bool.not_false]); go_wp2_with (first | fail); simp only [DoneG, fillG, List.set_cons_zero, List.set_cons_succ, relG, eqG, eqG1, eqG2, eqG3, gdG, gdG1, gnG, gnG1, List.getD_cons_zero, List.getD_cons_succ, List.getElem?_cons_succ, List.getElem?_cons_zero, Option.map_some, Option.getD_some, valsG, List.map_cons, List.map_nil, List.length_cons, List.length_nil]; exact ⟨_, rfl, (by first | with_reducible assumption | exact krg _ | exact Keep.al (krg _) _), fun _ _ => gd_f hG.out _⟩)); (focus (refine hK _ _ ?_; simp only [DoneG, fillG, List.set_cons_zero, List.set_cons_succ, relG, eqG, eqG1, eqG2, eqG3, gdG, gdG1, gnG, gnG1, List.getD_cons_zero, List.getD_cons_succ, List.getElem?_cons_succ, List.getElem?_cons_zero, Option.map_some, Option.getD_some, valsG, List.map_cons, List.map_nil, List.length_cons, List.length_nil]; exact ⟨undef, rfl, krg _, fun _ _ => gd_fn hg _⟩)))
    · (obtain ⟨d6, d7⟩ := hd; subst d6; subst d7; clear hs; simp only [fillG, List.set_cons_zero, List.set_cons_succ]; have hKW := Keep.tr (Keep.dr (Keep.rf _)) (hE rfl); have c3 := Keep.cell hKW c3; refine want_b rfl (by rfl) (fun hg => ?_) (fun hg => ?_); (focus (have hG := hide hg; (try simp only [gd, hg, cond_true, Bool.and_self, Bool.true_and, Bool.and_true, cond_false, Bool.not_true, Bool.not_false]); go_wp2_with (first | (go_at_call 13; refine (HU0 _ hKW).mono ?_; rintro e w' ⟨rfl, rfl⟩) | fail); simp only [DoneG, fillG, List.set_cons_zero, List.set_cons_succ, gd, hG.out, cond_true, cond_false, Bool.not_true, Bool.not_false, relG, eqG, eqG1, eqG2, eqG3, gdG, gdG1, gnG, gnG1, List.getD_cons_zero, List.getD_cons_succ, List.getElem?_cons_succ, List.getElem?_cons_zero, Option.map_some, Option.getD_some, valsG, List.map_cons, List.map_nil, List.length_cons, List.length_nil]; exact ⟨_, rfl, (by first | with_reducible assumption | exact krg _ | exact Keep.al (krg _) _), fun _ _ => gd_f hG.out _⟩)); (focus (refine hK _ _ ?_; simp only [DoneG, fillG, List.set_cons_zero, List.set_cons_succ, relG, eqG, eqG1, eqG2, eqG3, gdG, gdG1, gnG, gnG1, List.getD_cons_zero, List.getD_cons_succ, List.getElem?_cons_succ, List.getElem?_cons_zero, Option.map_some, Option.getD_some, valsG, List.map_cons, List.map_nil, List.length_cons, List.length_nil]; exact ⟨undef, rfl, krg _, fun _ _ => gd_fn hg _⟩)))
    · (obtain ⟨d6, d8⟩ := hd; subst d6; subst d8; clear hs; simp only [fillG, List.set_cons_zero, List.set_cons_succ]; refine want_b rfl (by rfl) (fun hg => ?_) (fun hg => ?_); (focus (have hG := hide hg; (try simp only [gd, hg, cond_true, Bool.and_self, Bool.true_and, Bool.and_true, cond_false, Bool.not_true, Bool.not_false]); go_wp2_with (first | fail); simp only [DoneG, fillG, List.set_cons_zero, List.set_cons_succ, relG, eqG, eqG1, eqG2, eqG3, gdG, gdG1, gnG, gnG1, List.getD_cons_zero, List.getD_cons_succ, List.getElem?_cons_succ, List.getElem?_cons_zero, Option.map_some, Option.getD_some, valsG, List.map_cons, List.map_nil, List.length_cons, List.length_nil]; exact ⟨_, rfl, (by first | with_reducible assumption | exact krg _ | exact Keep.al (krg _) _), fun _ _ => gd_f hG.out _⟩)); (focus (refine hK _ _ ?_; simp only [DoneG, fillG, List.set_cons_zero, List.set_cons_succ, relG, eqG, eqG1, eqG2, eqG3, gdG, gdG1, gnG, gnG1, List.getD_cons_zero, List.getD_cons_succ, List.getElem?_cons_succ, List.getElem?_cons_zero, Option.map_some, Option.getD_some, valsG, List.map_cons, List.map_nil, List.length_cons, List.length_nil]; exact ⟨undef, rfl, krg _, fun _ _ => gd_fn hg _⟩)))
    · (have d6 := hd; clear hd; subst d6; clear hs; simp only [fillG, List.set_cons_zero, List.set_cons_succ]; refine want_b rfl (by rfl) (fun hg => ?_) (fun hg => ?_); (focus (have hG := hide hg; (try simp only [gd, hg, cond_true, Bool.and_self, Bool.true_and, Bool.and_true, cond_false, Bool.not_true, Bool.not_false]); go_wp2_with (first | fail); simp only [DoneG, fillG, List.set_cons_zero, List.set_cons_succ, relG, eqG, eqG1, eqG2, eqG3, gdG, gdG1, gnG, gnG1, List.getD_cons_zero, List.getD_cons_succ, List.getElem?_cons_succ, List.getElem?_cons_zero, Option.map_some, Option.getD_some, valsG, List.map_cons, List.map_nil, List.length_cons, List.length_nil]; exact ⟨_, rfl, (by first | with_reducible assumption | exact krg _ | exact Keep.al (krg _) _), fun _ _ => gd_f hG.out _⟩)); (focus (refine hK _ _ ?_; simp only [DoneG, fillG, List.set_cons_zero, List.set_cons_succ, relG, eqG, eqG1, eqG2, eqG3, gdG, gdG1, gnG, gnG1, List.getD_cons_zero, List.getD_cons_succ, List.getElem?_cons_succ, List.getElem?_cons_zero, Option.map_some, Option.getD_some, valsG, List.map_cons, List.map_nil, List.length_cons, List.length_nil]; exact ⟨undef, rfl, krg _, fun _ _ => gd_fn hg _⟩)))
    · (obtain ⟨d6, d10⟩ := hd; subst d6; subst d10; clear hs; simp only [fillG, List.set_cons_zero, List.set_cons_succ]; have hKW := Keep.tr (Keep.dr (Keep.rf _)) (hE rfl); have c3 := Keep.cell hKW c3; refine want_b rfl (by rfl) (fun hg => ?_) (fun hg => ?_); (focus (have hG := hide hg; (try simp only [gd, hg, cond_true, Bool.and_self, Bool.true_and, Bool.and_true, cond_false, Bool.not_true, Bool.not_false]); go_wp2_with (first | fail); simp only [DoneG, fillG, List.set_cons_zero, List.set_cons_succ, relG, eqG, eqG1, eqG2, eqG3, gdG, gdG1, gnG, gnG1, List.getD_cons_zero, List.getD_cons_succ, List.getElem?_cons_succ, List.getElem?_cons_zero, Option.map_some, Option.getD_some, valsG, List.map_cons, List.map_nil, List.length_cons, List.length_nil]; exact ⟨_, rfl, (by first | with_reducible assumption | exact krg _ | exact Keep.al (krg _) _), fun _ _ => gd_f hG.out _⟩)); (focus (refine hK _ _ ?_; simp only [DoneG, fillG, List.set_cons_zero, List.set_cons_succ, relG, eqG, eqG1, eqG2, eqG3, gdG, gdG1, gnG, gnG1, List.getD_cons_zero, List.getD_cons_succ, List.getElem?_cons_succ, List.getElem?_cons_zero, Option.map_some, Option.getD_some, valsG, List.map_cons, List.map_nil, List.length_cons, List.length_nil]; exact ⟨undef, rfl, krg _, fun _ _ => gd_fn hg _⟩)))
    · (obtain ⟨d6, d9, d11⟩ := hd; subst d6; subst d9; subst d11; clear hs; simp only [fillG, List.set_cons_zero, List.set_cons_succ]; refine want_b rfl (by rfl) (fun hg => ?_) (fun hg => ?_); (focus (have hG := hide hg; (try simp only [gd, hg, cond_true, Bool.and_self, Bool.true_and, Bool.and_true, cond_false, Bool.not_true, Bool.not_false]); go_wp2_with (first | fail); simp only [DoneG, fillG, List.set_cons_zero, List.set_cons_succ, relG, eqG, eqG1, eqG2, eqG3, gdG, gdG1, gnG, gnG1, List.getD_cons_zero, List.getD_cons_succ, List.getElem?_cons_succ, List.getElem?_cons_zero, Option.map_some, Option.getD_some, valsG, List.map_cons, List.map_nil, List.length_cons, List.length_nil]; exact ⟨_, rfl, (by first | with_reducible assumption | exact krg _ | exact Keep.al (krg _) _), fun _ _ => gd_f hG.out _⟩)); (focus (refine hK _ _ ?_; simp only [DoneG, fillG, List.set_cons_zero, List.set_cons_succ, relG, eqG, eqG1, eqG2, eqG3, gdG, gdG1, gnG, gnG1, List.getD_cons_zero, List.getD_cons_succ, List.getElem?_cons_succ, List.getElem?_cons_zero, Option.map_some, Option.getD_some, valsG, List.map_cons, List.map_nil, List.length_cons, List.length_nil]; exact ⟨undef, rfl, krg _, fun _ _ => gd_fn hg _⟩)))
    · (have d6 := hd; clear hd; subst d6; clear hs; simp only [fillG, List.set_cons_zero, List.set_cons_succ]; refine want_b rfl (by rfl) (fun hg => ?_) (fun hg => ?_); (focus (have hG := hide hg; (try simp only [gd, hg, cond_true, Bool.and_self, Bool.true_and, Bool.and_true, cond_false, Bool.not_true, Bool.not_false]); go_wp2_with (first | fail); simp only [DoneG, fillG, List.set_cons_zero, List.set_cons_succ, relG, eqG, eqG1, eqG2, eqG3, gdG, gdG1, gnG, gnG1, List.getD_cons_zero, List.getD_cons_succ, List.getElem?_cons_succ, List.getElem?_cons_zero, Option.map_some, Option.getD_some, valsG, List.map_cons, List.map_nil, List.length_cons, List.length_nil]; exact ⟨_, rfl, (by first | with_reducible assumption | exact krg _ | exact Keep.al (krg _) _), fun _ _ => gd_f hG.out _⟩)); (focus (refine hK _ _ ?_; simp only [DoneG, fillG, List.set_cons_zero, List.set_cons_succ, relG, eqG, eqG1, eqG2, eqG3, gdG, gdG1, gnG, gnG1, List.getD_cons_zero, List.getD_cons_succ, List.getElem?_cons_succ, List.getElem?_cons_zero, Option.map_some, Option.getD_some, valsG, List.map_cons, List.map_nil, List.length_cons, List.length_nil]; exact ⟨undef, rfl, krg _, fun _ _ => gd_fn hg _⟩)))
    · (obtain ⟨d6, d13⟩ := hd; subst d6; subst d13; clear hs; simp only [fillG, List.set_cons_zero, List.set_cons_succ]; refine want_b rfl (by rfl) (fun hg => ?_) (fun hg => ?_); (focus (have hG := hide hg; (try simp only [gd, hg, cond_true, Bool.and_self, Bool.true_and, Bool.and_true, cond_false, Bool.not_true, Bool.not_false]); go_wp2_with (first | fail); simp only [DoneG, fillG, List.set_cons_zero, List.set_cons_succ, relG, eqG, eqG1, eqG2, eqG3, gdG, gdG1, gnG, gnG1, List.getD_cons_zero, List.getD_cons_succ, List.getElem?_cons_succ, List.getElem?_cons_zero, Option.map_some, Option.getD_some, valsG, List.map_cons, List.map_nil, List.length_cons, List.length_nil]; exact ⟨_, rfl, (by first | with_reducible assumption | exact krg _ | exact Keep.al (krg _) _), fun _ _ => gd_f hG.out _⟩)); (focus (refine hK _ _ ?_; simp only [DoneG, fillG, List.set_cons_zero, List.set_cons_succ, relG, eqG, eqG1, eqG2, eqG3, gdG, gdG1, gnG, gnG1, List.getD_cons_zero, List.getD_cons_succ, List.getElem?_cons_succ, List.getElem?_cons_zero, Option.map_some, Option.getD_some, valsG, List.map_cons, List.map_nil, List.length_cons, List.length_nil]; exact ⟨undef, rfl, krg _, fun _ _ => gd_fn hg _⟩)))
    · (obtain ⟨d6, d14⟩ := hd; subst d6; subst d14; clear hs; simp only [fillG, List.set_cons_zero, List.set_cons_succ]; refine want_b rfl (by rfl) (fun hg => ?_) (fun hg => ?_); (focus (have hG := hide hg; (try simp only [gd, hg, cond_true, Bool.and_self, Bool.true_and, Bool.and_true, cond_false, Bool.not_true, Bool.not_false]); go_wp2_with (first | fail); simp only [DoneG, fillG, List.set_cons_zero, List.set_cons_succ, relG, eqG, eqG1, eqG2, eqG3, gdG, gdG1, gnG, gnG1, List.getD_cons_zero, List.getD_cons_succ, List.getElem?_cons_succ, List.getElem?_cons_zero, Option.map_some, Option.getD_some, valsG, List.map_cons, List.map_nil, List.length_cons, List.length_nil]; exact ⟨_, rfl, (by first | with_reducible assumption | exact krg _ | exact Keep.al (krg _) _), fun _ _ => gd_f hG.out _⟩)); (focus (refine hK _ _ ?_; simp only [DoneG, fillG, List.set_cons_zero, List.set_cons_succ, relG, eqG, eqG1, eqG2, eqG3, gdG, gdG1, gnG, gnG1, List.getD_cons_zero, List.getD_cons_succ, List.getElem?_cons_succ, List.getElem?_cons_zero, Option.map_some, Option.getD_some, valsG, List.map_cons, List.map_nil, List.length_cons, List.length_nil]; exact ⟨undef, rfl, krg _, fun _ _ => gd_fn hg _⟩)))
    · (obtain ⟨d6, d15⟩ := hd; subst d6; subst d15; clear hs; simp only [fillG, List.set_cons_zero, List.set_cons_succ]; have hKW := Keep.tr (Keep.dr (Keep.rf _)) (hE rfl); have c3 := Keep.cell hKW c3; refine want_b rfl (by rfl) (fun hg => ?_) (fun hg => ?_); (focus (have hG := hide hg; (try simp only [gd, hg, cond_true, Bool.and_self, Bool.true_and, Bool.and_true, cond_false, Bool.not_true, Bool.not_false]); go_wp2_with (first | fail); simp only [DoneG, fillG, List.set_cons_zero, List.set_cons_succ, relG, eqG, eqG1, eqG2, eqG3, gdG, gdG1, gnG, gnG1, List.getD_cons_zero, List.getD_cons_succ, List.getElem?_cons_succ, List.getElem?_cons_zero, Option.map_some, Option.getD_some, valsG, List.map_cons, List.map_nil, List.length_cons, List.length_nil]; exact ⟨_, rfl, (by first | with_reducible assumption | exact krg _ | exact Keep.al (krg _) _), fun _ _ => gd_f hG.out _⟩)); (focus (refine hK _ _ ?_; simp only [DoneG, fillG, List.set_cons_zero, List.set_cons_succ, relG, eqG, eqG1, eqG2, eqG3, gdG, gdG1, gnG, gnG1, List.getD_cons_zero, List.getD_cons_succ, List.getElem?_cons_succ, List.getElem?_cons_zero, Option.map_some, Option.getD_some, valsG, List.map_cons, List.map_nil, List.length_cons, List.length_nil]; exact ⟨undef, rfl, krg _, fun _ _ => gd_fn hg _⟩)))
    · (obtain ⟨d6, d12, d16⟩ := hd; subst d6; subst d12; subst d16; clear hs; simp only [fillG, List.set_cons_zero, List.set_cons_succ]; refine want_b rfl (by rfl) (fun hg => ?_) (fun hg => ?_); (focus (have hG := hide hg; (try simp only [gd, hg, cond_true, Bool.and_self, Bool.true_and, Bool.and_true, cond_false, Bool.not_true, Bool.not_false]); go_wp2_with (first | fail); simp only [DoneG, fillG, List.set_cons_zero, List.set_cons_succ, relG, eqG, eqG1, eqG2, eqG3, gdG, gdG1, gnG, gnG1, List.getD_cons_zero, List.getD_cons_succ, List.getElem?_cons_succ, List.getElem?_cons_zero, Option.map_some, Option.getD_some, valsG, List.map_cons, List.map_nil, List.length_cons, List.length_nil]; exact ⟨_, rfl, (by first | with_reducible assumption | exact krg _ | exact Keep.al (krg _) _), fun _ _ => gd_f hG.out _⟩)); (focus (refine hK _ _ ?_; simp only [DoneG, fillG, List.set_cons_zero, List.set_cons_succ, relG, eqG, eqG1, eqG2, eqG3, gdG, gdG1, gnG, gnG1, List.getD_cons_zero, List.getD_cons_succ, List.getElem?_cons_succ, List.getElem?_cons_zero, Option.map_some, Option.getD_some, valsG, List.map_cons, List.map_nil, List.length_cons, List.length_nil]; exact ⟨undef, rfl, krg _, fun _ _ => gd_fn hg _⟩)))
    · (obtain ⟨d6, d17⟩ := hd; subst d6; subst d17; clear hs; simp only [fillG, List.set_cons_zero, List.set_cons_succ]; refine want_n rfl ?_; refine wp_pick_or rfl rfl rfl ?_; refine hK _ _ ?_; simp only [DoneG, fillG, List.set_cons_zero, List.set_cons_succ, relG, eqG, eqG1, eqG2, eqG3, gdG, gdG1, gnG, gnG1, List.getD_cons_zero, List.getD_cons_succ, List.getElem?_cons_succ, List.getElem?_cons_zero, Option.map_some, Option.getD_some, valsG, List.map_cons, List.map_nil, List.length_cons, List.length_nil]; exact ⟨_, rfl, (by first | with_reducible assumption | exact krg _ | exact Keep.al (krg _) _), fun _ _ => rfl⟩)
  (intro us W1 h9 hW hE hA; obtain ⟨u0, u1, u2, u3, u4, u5, u6, u7, u8, u9, u10, u11, u12, u13, u14, u15, u16, u17, u18, rfl⟩ := rog 19 h9 rfl; clear h9; simp only [AllG, AtG, and_true, relG, eqG, eqG1, eqG2, eqG3, gdG, gdG1, gnG, gnG1, List.getD_cons_zero, List.getD_cons_succ, List.getElem?_cons_succ, List.getElem?_cons_zero, Option.map_some, Option.getD_some, valsG, List.map_cons, List.map_nil, List.length_cons, List.length_nil] at hA; have d18 := hA; clear hA; subst d18; simp only [fillG, List.set_cons_zero, List.set_cons_succ]; have k1 := Keep.tr (Keep.dr (Keep.rf _)) hW; clear hW hE)
  by_cases hC : tag < 1 ∨ 8 < tag ∨ (sz : Int) - (U : Int) < 1 + (fs.length : Int)
  · have f1 : ((tag < 1 ∨ 8 < tag) ∨ (sz : Int) < (U : Int) + 1 + (fs.length : Int)) := by omega
    have HC := hide hC
    clear hC
    go_wp2
    go_ret2
    unfold AllocR
    rw [HNO.out HC.out]
    exact ⟨rfl, k1⟩
  · have f1 : ¬ ((tag < 1 ∨ 8 < tag) ∨ (sz : Int) < (U : Int) + 1 + (fs.length : Int)) := by omega
    have HC := hide hC
    clear hC
    have c0 := top_cells (((k1.frm fun _ => False).heap (fun h => h) h.top)) 1
    simp only [List.getElem?_toArray, List.getElem?_cons_succ, List.getElem?_cons_zero] at c0
    obtain ⟨tA, tc, rfl⟩ := own_slice h.rt
    go_wp2_with fail
    refine (HU0 _ k1).mono ?_
    rintro e w' ⟨rfl, rfl⟩
    have hW1 := h.frm (k1.frm fun _ => False) fun _ _ h => h
    have X1 : Ext w W1 (footV p (a :: .slice tA T.length tc :: f :: fv)) (footV p (a :: .slice tA T.length tc :: f :: fv)) := (Ext.rf w _).keep k1
    clear h h0 HU0 c3
    go_wp2_with (first
      | (at_builtin; go_loud (refine appI T [tag] rfl (.tmp 36) (.tmp 38) _ _ _ _ Tryz.underlying48 infoI rfl (by omega) rfl 0 _ rfl (own_keep hW1.rt (by repeat (first | exact Keep.rf _ | assumption | apply Keep.al | apply Keep.dr | apply Keep.dn))) _ rfl (Cs.lit _ rfl rfl rfl (by simp) (by simp)) (Nat.zero_le _) (by simp; omega) ?_); intro v2 w2 ho2 hg2 hat2; have hWa := hW1.frm ((Keep.al (Keep.rf W1) (.cells #[.int .i64 tag] 3)).frm fun _ => False) (fun _ _ h => h); have tp := (Frm.of_grown (S := fun k => (Value.slice tA T.length tc).ownBlock = some k) hg2 fun _ e => e).heap (fun e => footV_p hWa.nodup (v := .slice tA T.length tc) (by simp) e rfl) hWa.top; have tpc := top_cells tp 1; have tpf := top_free tp 1; simp only [List.getElem?_toArray, List.getElem?_cons_succ, List.getElem?_cons_zero] at tpc; have HW := hide hWa; have ho2' := hide ho2; clear tp hWa ho2; obtain ⟨n2, A2, c2, e2⟩ : ∃ n A c, v2 = Value.slice A n c := (by obtain ⟨A, c, e⟩ := own_slice ho2'.out; exact ⟨_, A, c, e⟩); subst e2)
      | fail)
    have kA : Keep W1 (W1.alloc (.cells #[.int .i64 tag] 3)) := (by repeat (first | exact Keep.rf _ | assumption | apply Keep.al | apply Keep.dr | apply Keep.dn))
    have R2 := HW.out.pushT ho2'.out hg2 hat2
    have X2 : Ext w (w2.setCell ⟨p, 1, none⟩ (.slice A2 n2 c2)) _ _ := (X1.keep kA).tr (ext_push (p := p) (j := 1) (l1 := [a]) (l2 := f :: fv) hg2 hat2)
    have v2s : Is (w2.setCell ⟨p, 1, none⟩ (.slice A2 n2 c2)) (.slice A fs.length c) fs := HST.out _ X2.1
    clear hW1 X1 HW hg2 hat2 ho2' kA tpc tpf c0
    generalize hT2 : T ++ [tag] = T2 at *
    generalize w2.setCell _ _ = W2 at *
    have HT2 := hide hT2
    clear hT2
    obtain ⟨fA, fn, fc, rfl⟩ : ∃ fA fn fc, f = Value.slice fA fn fc := by
      obtain ⟨A, c, e⟩ := own_slice R2.rf
      exact ⟨_, _, _, e⟩
    have hff : ∀ q, (Value.slice fA fn fc).ownBlock = some q → q < W2.heap.size := fun q hq => (World.ownsRow.lt R2.rf q hq).2
    have g2 := top_cells R2.top 2
    simp only [List.getElem?_toArray, List.getElem?_cons_succ, List.getElem?_cons_zero] at g2
    have hfl : fv.length = F.length := R2.len
    have R2h := hide R2
    clear R2
    apply region_last 12 _ (by kernel_rfl) Keep AnyW krg ktg anyrf anytr anyk [some 42, some 43, some 44, some 45, some 46, some 47, some 48, some 49, some 50, some 51, some 52, some 53, none] [eqG _ , eqG _ , eqG _ , eqG _ , eqG _ , fun us W v => ∃ g, v = .slice (some ⟨g, 0, none⟩) 0 0 ∧ W.heap[g]? = some (.cells #[] 32) ∧ W2.heap.size ≤ g, eqG _ , fun us W v => ∃ A c, v = .slice A fs.length c ∧ W.ownsRow W2.heap.size 32 1 (.slice A fs.length c) fs.length (fs.map (Value.int .i64)), fun us W v => Cs W v [(us.getD 0 undef)], fun us W v => FPush W2 (.slice fA fn fc) fv fs (us.getD 1 undef) W v, eqG _ , eqG _ , fun _ _ _ => True] [⟨[], [], false, false, false⟩, ⟨[], [], true, false, false⟩, ⟨[1], [], true, false, false⟩, ⟨[2], [], true, false, false⟩, ⟨[3], [], true, false, false⟩, ⟨[], [], true, false, true⟩, ⟨[], [], true, false, false⟩, ⟨[5, 6], [], true, false, true⟩, ⟨[7], [], true, false, true⟩, ⟨[4, 7, 8], [], true, true, true⟩, ⟨[0], [], false, false, false⟩, ⟨[10], [], false, false, false⟩, ⟨[9, 11], [], false, false, false⟩] [9, 11] (by kernel_rfl) (by kernel_rfl) (by kernel_rfl) rfl (by kernel_rfl)
    · refine ⟨?_, ?_, ?_, ?_, ?_, ?_, ?_, ?_, ?_, ?_, ?_, ?_, trivial⟩ <;> (intro us W h9 hW hE hd hs K hK; obtain ⟨u0, u1, u2, u3, u4, u5, u6, u7, u8, u9, u10, u11, u12, rfl⟩ := rog 13 h9 rfl; clear h9; try simp only [DepG, AtG, and_true, relG, eqG, eqG1, eqG2, eqG3, gdG, gdG1, gnG, gnG1, List.getD_cons_zero, List.getD_cons_succ, List.getElem?_cons_succ, List.getElem?_cons_zero, Option.map_some, Option.getD_some, valsG, List.map_cons, List.map_nil, List.length_cons, List.length_nil] at hd)
      · ((try clear hd); clear hs; simp only [fillG, List.set_cons_zero, List.set_cons_succ]; refine want_n rfl ?_; go_wp2_with (first | fail); simp only [DoneG, fillG, List.set_cons_zero, List.set_cons_succ, relG, eqG, eqG1, eqG2, eqG3, gdG, gdG1, gnG, gnG1, List.getD_cons_zero, List.getD_cons_succ, List.getElem?_cons_succ, List.getElem?_cons_zero, Option.map_some, Option.getD_some, valsG, List.map_cons, List.map_nil, List.length_cons, List.length_nil]; exact ⟨_, rfl, (by first | with_reducible assumption | exact krg _ | exact Keep.al (krg _) _), fun _ _ => rfl⟩)
      · ((try clear hd); clear hs; simp only [fillG, List.set_cons_zero, List.set_cons_succ]; refine want_n rfl ?_; go_wp2_with (first | fail); simp only [DoneG, fillG, List.set_cons_zero, List.set_cons_succ, relG, eqG, eqG1, eqG2, eqG3, gdG, gdG1, gnG, gnG1, List.getD_cons_zero, List.getD_cons_succ, List.getElem?_cons_succ, List.getElem?_cons_zero, Option.map_some, Option.getD_some, valsG, List.map_cons, List.map_nil, List.length_cons, List.length_nil]; exact ⟨_, rfl, (by first | with_reducible assumption | exact krg _ | exact Keep.al (krg _) _), fun _ _ => rfl⟩)
      · (have d1 := hd; clear hd; subst d1; clear hs; simp only [fillG, List.set_cons_zero, List.set_cons_succ]; refine want_n rfl ?_; go_wp2_with (first | fail); simp only [DoneG, fillG, List.set_cons_zero, List.set_cons_succ, relG, eqG, eqG1, eqG2, eqG3, gdG, gdG1, gnG, gnG1, List.getD_cons_zero, List.getD_cons_succ, List.getElem?_cons_succ, List.getElem?_cons_zero, Option.map_some, Option.getD_some, valsG, List.map_cons, List.map_nil, List.length_cons, List.length_nil]; exact ⟨_, rfl, (by first | with_reducible assumption | exact krg _ | exact Keep.al (krg _) _), fun _ _ => rfl⟩)
      · (have d2 := hd; clear hd; subst d2; clear hs; simp only [fillG, List.set_cons_zero, List.set_cons_succ]; refine want_n rfl ?_; go_wp2_with (first | fail); simp only [DoneG, fillG, List.set_cons_zero, List.set_cons_succ, relG, eqG, eqG1, eqG2, eqG3, gdG, gdG1, gnG, gnG1, List.getD_cons_zero, List.getD_cons_succ, List.getElem?_cons_succ, List.getElem?_cons_zero, Option.map_some, Option.getD_some, valsG, List.map_cons, List.map_nil, List.length_cons, List.length_nil]; exact ⟨_, rfl, (by first | with_reducible assumption | exact krg _ | exact Keep.al (krg _) _), fun _ _ => rfl⟩)
      · (have d3 := hd; clear hd; subst d3; clear hs; simp only [fillG, List.set_cons_zero, List.set_cons_succ]; have hKW := Keep.tr (Keep.dr (Keep.rf _)) (hE rfl); have g2 := Keep.cell hKW g2; refine want_n rfl ?_; go_wp2_with (first | fail); simp only [DoneG, fillG, List.set_cons_zero, List.set_cons_succ, relG, eqG, eqG1, eqG2, eqG3, gdG, gdG1, gnG, gnG1, List.getD_cons_zero, List.getD_cons_succ, List.getElem?_cons_succ, List.getElem?_cons_zero, Option.map_some, Option.getD_some, valsG, List.map_cons, List.map_nil, List.length_cons, List.length_nil]; exact ⟨_, rfl, (by first | with_reducible assumption | exact krg _ | exact Keep.al (krg _) _), fun _ _ => rfl⟩)
      · ((try clear hd); clear hs; simp only [fillG, List.set_cons_zero, List.set_cons_succ]; have hKW := Keep.tr (Keep.dr (Keep.rf _)) (hE rfl); have g2 := Keep.cell hKW g2; refine want_n rfl ?_; go_wp2_with (first | fail); simp only [DoneG, fillG, List.set_cons_zero, List.set_cons_succ, relG, eqG, eqG1, eqG2, eqG3, gdG, gdG1, gnG, gnG1, List.getD_cons_zero, List.getD_cons_succ, List.getElem?_cons_succ, List.getElem?_cons_zero, Option.map_some, Option.getD_some, valsG, List.map_cons, List.map_nil, List.length_cons, List.length_nil]; exact ⟨_, rfl, (by first | with_reducible assumption | exact krg _ | exact Keep.al (krg _) _), fun W9 hk9 => ⟨_, rfl, (hk9.frm fun _ => False).heap (fun h => h) (heap_alloc_new _ _), Below.size hKW⟩⟩)
      · ((try clear hd); clear hs; simp only [fillG, List.set_cons_zero, List.set_cons_succ]; refine want_n rfl ?_; go_wp2_with (first | fail); simp only [DoneG, fillG, List.set_cons_zero, List.set_cons_succ, relG, eqG, eqG1, eqG2, eqG3, gdG, gdG1, gnG, gnG1, List.getD_cons_zero, List.getD_cons_succ, List.getElem?_cons_succ, List.getElem?_cons_zero, Option.map_some, Option.getD_some, valsG, List.map_cons, List.map_nil, List.length_cons, List.length_nil]; exact ⟨_, rfl, (by first | with_reducible assumption | exact krg _ | exact Keep.al (krg _) _), fun _ _ => rfl⟩)
      · (obtain ⟨d5, d6⟩ := hd; subst d6; clear hs; simp only [fillG, List.set_cons_zero, List.set_cons_succ]; have hKW := Keep.tr (Keep.dr (Keep.rf _)) (hE rfl); have g2 := Keep.cell hKW g2; refine want_n rfl ?_; obtain ⟨g5, rfl, hg5, hb5⟩ := d5; refine wp_app0 (.tmp 47) (.tmp 48) 31 rfl W2.heap.size 32 _ 1 8 Tryz.underlying31 infoW rfl (by omega) g5 rfl hg5 hb5 _ fs.length _ rfl (cells_src (v2s.keep hKW)) (by simp only [maxLen]; omega) (by omega) (Below.size hKW) ?_; intro A7 c7 w7 ho7 hk7; refine hK _ _ ?_; simp only [DoneG, fillG, List.set_cons_zero, List.set_cons_succ, relG, eqG, eqG1, eqG2, eqG3, gdG, gdG1, gnG, gnG1, List.getD_cons_zero, List.getD_cons_succ, List.getElem?_cons_succ, List.getElem?_cons_zero, Option.map_some, Option.getD_some, valsG, List.map_cons, List.map_nil, List.length_cons, List.length_nil]; exact ⟨_, rfl, (by first | with_reducible assumption | exact krg _ | exact Keep.al (krg _) _), fun W9 hk9 => ⟨A7, c7, rfl, own_keep ho7 hk9⟩⟩)
      · (have d7 := hd; clear hd; obtain ⟨A7, c7, rfl, o7⟩ := d7; clear hs; simp only [fillG, List.set_cons_zero, List.set_cons_succ]; have hKW := Keep.tr (Keep.dr (Keep.rf _)) (hE rfl); have g2 := Keep.cell hKW g2; refine want_n rfl ?_; go_wp2_with (first | fail); simp only [DoneG, fillG, List.set_cons_zero, List.set_cons_succ, relG, eqG, eqG1, eqG2, eqG3, gdG, gdG1, gnG, gnG1, List.getD_cons_zero, List.getD_cons_succ, List.getElem?_cons_succ, List.getElem?_cons_zero, Option.map_some, Option.getD_some, valsG, List.map_cons, List.map_nil, List.length_cons, List.length_nil]; exact ⟨_, rfl, (by first | with_reducible assumption | exact krg _ | exact Keep.al (krg _) _), fun W9 hk9 => Cs.keep (Cs.lit _ rfl rfl rfl (by simp) (by simp)) hk9⟩)
      · (obtain ⟨d4, d7, d8⟩ := hd; subst d4; obtain ⟨A7, c7, rfl, o7⟩ := d7; clear hs; simp only [fillG, List.set_cons_zero, List.set_cons_succ]; have hKW := Keep.tr (Keep.dr (Keep.rf _)) (hE rfl); have g2 := Keep.cell hKW g2; refine want_n rfl ?_; refine wp_app (.tmp 46) (.tmp 50) 49 rfl 0 31 _ 1 24 Tryz.underlying49 infoWs rfl (by omega) _ fv.length fv rfl (own_keep R2h.out.rf hKW) _ 1 _ rfl (Cs.src d8) (fun u hu => slice_one _ u hu (by simp at hu; subst hu; exact ⟨_, _, _, rfl⟩)) (by simp only [maxLen]; omega) (by omega) (Nat.zero_le _) ?_; intro v9 w9 ha9; refine hK _ _ ?_; simp only [DoneG, fillG, List.set_cons_zero, List.set_cons_succ, relG, eqG, eqG1, eqG2, eqG3, gdG, gdG1, gnG, gnG1, List.getD_cons_zero, List.getD_cons_succ, List.getElem?_cons_succ, List.getElem?_cons_zero, Option.map_some, Option.getD_some, valsG, List.map_cons, List.map_nil, List.length_cons, List.length_nil]; exact ⟨_, rfl, (by first | with_reducible assumption | exact trivial), fun W9 hk9 => (FPush.mk hKW hff o7 ha9).keep hk9⟩)
      · (have d0 := hd; clear hd; subst d0; clear hs; simp only [fillG, List.set_cons_zero, List.set_cons_succ]; refine want_n rfl ?_; go_wp2_with (first | fail); simp only [DoneG, fillG, List.set_cons_zero, List.set_cons_succ, relG, eqG, eqG1, eqG2, eqG3, gdG, gdG1, gnG, gnG1, List.getD_cons_zero, List.getD_cons_succ, List.getElem?_cons_succ, List.getElem?_cons_zero, Option.map_some, Option.getD_some, valsG, List.map_cons, List.map_nil, List.length_cons, List.length_nil]; exact ⟨_, rfl, (by first | with_reducible assumption | exact krg _ | exact Keep.al (krg _) _), fun _ _ => rfl⟩)
      · (have d10 := hd; clear hd; subst d10; clear hs; simp only [fillG, List.set_cons_zero, List.set_cons_succ]; refine want_n rfl ?_; go_wp2_with (first | fail); simp only [DoneG, fillG, List.set_cons_zero, List.set_cons_succ, relG, eqG, eqG1, eqG2, eqG3, gdG, gdG1, gnG, gnG1, List.getD_cons_zero, List.getD_cons_succ, List.getElem?_cons_succ, List.getElem?_cons_zero, Option.map_some, Option.getD_some, valsG, List.map_cons, List.map_nil, List.length_cons, List.length_nil]; exact ⟨_, rfl, (by first | with_reducible assumption | exact krg _ | exact Keep.al (krg _) _), fun _ _ => rfl⟩)
    (intro us W3 h9 hW hE hA hl9; obtain ⟨u0, u1, u2, u3, u4, u5, u6, u7, u8, u9, u10, u11, u12, rfl⟩ := rog 13 h9 rfl; clear h9; clear hl9; simp only [AllG, AtG, and_true, relG, eqG, eqG1, eqG2, eqG3, gdG, gdG1, gnG, gnG1, List.getD_cons_zero, List.getD_cons_succ, List.getElem?_cons_succ, List.getElem?_cons_zero, Option.map_some, Option.getD_some, valsG, List.map_cons, List.map_nil, List.length_cons, List.length_nil] at hA; obtain ⟨d9, d11⟩ := hA; subst d11; simp only [fillG, List.set_cons_zero, List.set_cons_succ]; refine want_n rfl ?_)
    obtain ⟨Wb, kb, hgb, hmb, hob, hou, hun⟩ := d9
    have Rb := R2h.out.frm (kb.frm fun _ => False) fun _ _ h => h
    have ltb := R2h.out.lt
    have tp := (Frm.of_grown (S := fun k => (Value.slice fA fn fc).ownBlock = some k) hgb fun _ e => e).heap (fun e => footV_p Rb.nodup (v := .slice fA fn fc) (by simp) e rfl) Rb.top
    have tpc := top_cells tp 2
    have tpf := top_free tp 2
    simp only [List.getElem?_toArray, List.getElem?_cons_succ, List.getElem?_cons_zero] at tpc
    obtain ⟨n9, A9, c9, e9⟩ : ∃ n A c, u9 = Value.slice A n c := by obtain ⟨A, c, e⟩ := own_slice hob; exact ⟨_, A, c, e⟩
    subst e9
    have R3 := hide (Rb.pushF hob hgb hmb hou fun k hk => ⟨(hun k hk).2, fun hm => by have := ltb k hm; have := (hun k hk).1; omega⟩)
    have X3 := hide ((X2.keep kb).tr (ext_push (p := p) (j := 2) (l1 := [a, .slice A2 n2 c2]) (l2 := fv) hgb hmb))
    have hunw : ∀ k, u7.ownBlock = some k → w.heap.size ≤ k := fun k hk => Nat.le_trans X2.1.size (hun k hk).1
    have HUN := hide hunw
    clear Rb R2h tp hgb hmb hob hou hun ltb hunw X2 kb g2 hff hW hE v2s
    go_wp2
    have R3 := R3.out
    have X3 := X3.out
    simp only [List.cons_append, List.nil_append] at X3
    clear tpc tpf
    generalize W3.setCell _ _ = W4 at *
    generalize u7 = uf at *
    have X4 : Ext w W4 (footV p (a :: .slice tA T.length tc :: .slice fA fn fc :: fv)) (footV p (a :: .slice A2 n2 c2 :: .slice A9 n9 c9 :: (fv ++ [uf]))) :=
      ⟨X3.1, footV_snoc (vs := a :: .slice A2 n2 c2 :: .slice A9 n9 c9 :: fv) X3.2 HUN.out⟩
    have hn2 : T2.length = n2 := by
      obtain ⟨_, ⟨e, h0⟩ | ⟨_, _, _, e, _⟩⟩ := R3.rt
      · injection e with _ e _
        omega
      · injection e with _ e _
        exact e.symm
    have HN2 := hide hn2
    have hn2b : n2 ≤ 30000 := by
      have h1 := HT2.out
      have h2 := hTl
      rw [← hn2, ← h1]
      simp
      omega
    have ha3 := R3.ra
    obtain ⟨aA, an, ac, rfl⟩ : ∃ n A c, a = Value.slice A n c := by
      obtain ⟨A, c, e⟩ := own_slice ha3
      exact ⟨_, A, c, e⟩
    have d0 := top_cells R3.top 0
    have d1 := top_cells R3.top 1
    simp only [List.getElem?_toArray, List.getElem?_cons_succ, List.getElem?_cons_zero] at d0 d1
    have hra := hide R3.ra
    have HX4 := hide X4
    have HR3 := hide R3
    clear X3 hn2 ha3 R3 X4
    apply region_last 14 _ (by kernel_rfl) Keep AnyW krg ktg anyrf anytr anyk [some 54, some 55, some 56, some 57, some 58, some 59, some 60, some 61, some 62, some 63, some 64, some 65, some 66, some 67, none] [eqG _ , eqG _ , eqG _ , eqG _ , eqG _ , eqG _ , eqG _ , eqG _ , eqG _ , eqG _ , fun us W v => Cs W v [.int .i64 (n2 : Int)], fun us W v => IPush W4 (.slice an aA ac) (A0 ++ [(n2 : Int)]) W v, eqG _ , eqG _ , fun _ _ _ => True] [⟨[], [], false, false, false⟩, ⟨[], [], true, false, false⟩, ⟨[1], [], true, false, false⟩, ⟨[2], [], true, false, false⟩, ⟨[3], [], true, false, false⟩, ⟨[], [], true, false, false⟩, ⟨[5], [], true, false, false⟩, ⟨[6], [], true, false, false⟩, ⟨[7], [], true, false, false⟩, ⟨[8], [], true, false, false⟩, ⟨[9], [], true, false, true⟩, ⟨[4, 10], [], true, true, true⟩, ⟨[0], [], false, false, false⟩, ⟨[12], [], false, false, false⟩, ⟨[11, 13], [], false, false, false⟩] [11, 13] (by kernel_rfl) (by kernel_rfl) (by kernel_rfl) rfl (by kernel_rfl)
    · refine ⟨?_, ?_, ?_, ?_, ?_, ?_, ?_, ?_, ?_, ?_, ?_, ?_, ?_, ?_, trivial⟩ <;> (intro us W h9 hW hE hd hs K hK; obtain ⟨u0, u1, u2, u3, u4, u5, u6, u7, u8, u9, u10, u11, u12, u13, u14, rfl⟩ := rog 15 h9 rfl; clear h9; try simp only [DepG, AtG, and_true, relG, eqG, eqG1, eqG2, eqG3, gdG, gdG1, gnG, gnG1, List.getD_cons_zero, List.getD_cons_succ, List.getElem?_cons_succ, List.getElem?_cons_zero, Option.map_some, Option.getD_some, valsG, List.map_cons, List.map_nil, List.length_cons, List.length_nil] at hd)
      · ((try clear hd); clear hs; simp only [fillG, List.set_cons_zero, List.set_cons_succ]; refine want_n rfl ?_; go_wp2_with (first | fail); simp only [DoneG, fillG, List.set_cons_zero, List.set_cons_succ, relG, eqG, eqG1, eqG2, eqG3, gdG, gdG1, gnG, gnG1, List.getD_cons_zero, List.getD_cons_succ, List.getElem?_cons_succ, List.getElem?_cons_zero, Option.map_some, Option.getD_some, valsG, List.map_cons, List.map_nil, List.length_cons, List.length_nil]; exact ⟨_, rfl, (by first | with_reducible assumption | exact krg _ | exact Keep.al (krg _) _), fun _ _ => rfl⟩)
      · ((try clear hd); clear hs; simp only [fillG, List.set_cons_zero, List.set_cons_succ]; refine want_n rfl ?_; go_wp2_with (first | fail); simp only [DoneG, fillG, List.set_cons_zero, List.set_cons_succ, relG, eqG, eqG1, eqG2, eqG3, gdG, gdG1, gnG, gnG1, List.getD_cons_zero, List.getD_cons_succ, List.getElem?_cons_succ, List.getElem?_cons_zero, Option.map_some, Option.getD_some, valsG, List.map_cons, List.map_nil, List.length_cons, List.length_nil]; exact ⟨_, rfl, (by first | with_reducible assumption | exact krg _ | exact Keep.al (krg _) _), fun _ _ => rfl⟩)
      · (have d1 := hd; clear hd; subst d1; clear hs; simp only [fillG, List.set_cons_zero, List.set_cons_succ]; refine want_n rfl ?_; go_wp2_with (first | fail); simp only [DoneG, fillG, List.set_cons_zero, List.set_cons_succ, relG, eqG, eqG1, eqG2, eqG3, gdG, gdG1, gnG, gnG1, List.getD_cons_zero, List.getD_cons_succ, List.getElem?_cons_succ, List.getElem?_cons_zero, Option.map_some, Option.getD_some, valsG, List.map_cons, List.map_nil, List.length_cons, List.length_nil]; exact ⟨_, rfl, (by first | with_reducible assumption | exact krg _ | exact Keep.al (krg _) _), fun _ _ => rfl⟩)
      · (have d2 := hd; clear hd; subst d2; clear hs; simp only [fillG, List.set_cons_zero, List.set_cons_succ]; refine want_n rfl ?_; go_wp2_with (first | fail); simp only [DoneG, fillG, List.set_cons_zero, List.set_cons_succ, relG, eqG, eqG1, eqG2, eqG3, gdG, gdG1, gnG, gnG1, List.getD_cons_zero, List.getD_cons_succ, List.getElem?_cons_succ, List.getElem?_cons_zero, Option.map_some, Option.getD_some, valsG, List.map_cons, List.map_nil, List.length_cons, List.length_nil]; exact ⟨_, rfl, (by first | with_reducible assumption | exact krg _ | exact Keep.al (krg _) _), fun _ _ => rfl⟩)
      · (have d3 := hd; clear hd; subst d3; clear hs; simp only [fillG, List.set_cons_zero, List.set_cons_succ]; have hKW := Keep.tr (Keep.dr (Keep.rf _)) (hE rfl); have d0 := Keep.cell hKW d0; have d1 := Keep.cell hKW d1; refine want_n rfl ?_; go_wp2_with (first | fail); simp only [DoneG, fillG, List.set_cons_zero, List.set_cons_succ, relG, eqG, eqG1, eqG2, eqG3, gdG, gdG1, gnG, gnG1, List.getD_cons_zero, List.getD_cons_succ, List.getElem?_cons_succ, List.getElem?_cons_zero, Option.map_some, Option.getD_some, valsG, List.map_cons, List.map_nil, List.length_cons, List.length_nil]; exact ⟨_, rfl, (by first | with_reducible assumption | exact krg _ | exact Keep.al (krg _) _), fun _ _ => rfl⟩)
      · ((try clear hd); clear hs; simp only [fillG, List.set_cons_zero, List.set_cons_succ]; refine want_n rfl ?_; go_wp2_with (first | fail); simp only [DoneG, fillG, List.set_cons_zero, List.set_cons_succ, relG, eqG, eqG1, eqG2, eqG3, gdG, gdG1, gnG, gnG1, List.getD_cons_zero, List.getD_cons_succ, List.getElem?_cons_succ, List.getElem?_cons_zero, Option.map_some, Option.getD_some, valsG, List.map_cons, List.map_nil, List.length_cons, List.length_nil]; exact ⟨_, rfl, (by first | with_reducible assumption | exact krg _ | exact Keep.al (krg _) _), fun _ _ => rfl⟩)
      · (have d5 := hd; clear hd; subst d5; clear hs; simp only [fillG, List.set_cons_zero, List.set_cons_succ]; refine want_n rfl ?_; go_wp2_with (first | fail); simp only [DoneG, fillG, List.set_cons_zero, List.set_cons_succ, relG, eqG, eqG1, eqG2, eqG3, gdG, gdG1, gnG, gnG1, List.getD_cons_zero, List.getD_cons_succ, List.getElem?_cons_succ, List.getElem?_cons_zero, Option.map_some, Option.getD_some, valsG, List.map_cons, List.map_nil, List.length_cons, List.length_nil]; exact ⟨_, rfl, (by first | with_reducible assumption | exact krg _ | exact Keep.al (krg _) _), fun _ _ => rfl⟩)
      · (have d6 := hd; clear hd; subst d6; clear hs; simp only [fillG, List.set_cons_zero, List.set_cons_succ]; refine want_n rfl ?_; go_wp2_with (first | fail); simp only [DoneG, fillG, List.set_cons_zero, List.set_cons_succ, relG, eqG, eqG1, eqG2, eqG3, gdG, gdG1, gnG, gnG1, List.getD_cons_zero, List.getD_cons_succ, List.getElem?_cons_succ, List.getElem?_cons_zero, Option.map_some, Option.getD_some, valsG, List.map_cons, List.map_nil, List.length_cons, List.length_nil]; exact ⟨_, rfl, (by first | with_reducible assumption | exact krg _ | exact Keep.al (krg _) _), fun _ _ => rfl⟩)
      · (have d7 := hd; clear hd; subst d7; clear hs; simp only [fillG, List.set_cons_zero, List.set_cons_succ]; have hKW := Keep.tr (Keep.dr (Keep.rf _)) (hE rfl); have d0 := Keep.cell hKW d0; have d1 := Keep.cell hKW d1; refine want_n rfl ?_; go_wp2_with (first | fail); simp only [DoneG, fillG, List.set_cons_zero, List.set_cons_succ, relG, eqG, eqG1, eqG2, eqG3, gdG, gdG1, gnG, gnG1, List.getD_cons_zero, List.getD_cons_succ, List.getElem?_cons_succ, List.getElem?_cons_zero, Option.map_some, Option.getD_some, valsG, List.map_cons, List.map_nil, List.length_cons, List.length_nil]; exact ⟨_, rfl, (by first | with_reducible assumption | exact krg _ | exact Keep.al (krg _) _), fun _ _ => rfl⟩)
      · (have d8 := hd; clear hd; subst d8; clear hs; simp only [fillG, List.set_cons_zero, List.set_cons_succ]; have hKW := Keep.tr (Keep.dr (Keep.rf _)) (hE rfl); have d0 := Keep.cell hKW d0; have d1 := Keep.cell hKW d1; refine want_n rfl ?_; go_wp2_with (first | fail); simp only [DoneG, fillG, List.set_cons_zero, List.set_cons_succ, relG, eqG, eqG1, eqG2, eqG3, gdG, gdG1, gnG, gnG1, List.getD_cons_zero, List.getD_cons_succ, List.getElem?_cons_succ, List.getElem?_cons_zero, Option.map_some, Option.getD_some, valsG, List.map_cons, List.map_nil, List.length_cons, List.length_nil]; exact ⟨_, rfl, (by first | with_reducible assumption | exact krg _ | exact Keep.al (krg _) _), fun _ _ => rfl⟩)
      · (have d9 := hd; clear hd; subst d9; clear hs; simp only [fillG, List.set_cons_zero, List.set_cons_succ]; have hKW := Keep.tr (Keep.dr (Keep.rf _)) (hE rfl); have d0 := Keep.cell hKW d0; have d1 := Keep.cell hKW d1; refine want_n rfl ?_; go_wp2_with (first | fail); simp only [DoneG, fillG, List.set_cons_zero, List.set_cons_succ, relG, eqG, eqG1, eqG2, eqG3, gdG, gdG1, gnG, gnG1, List.getD_cons_zero, List.getD_cons_succ, List.getElem?_cons_succ, List.getElem?_cons_zero, Option.map_some, Option.getD_some, valsG, List.map_cons, List.map_nil, List.length_cons, List.length_nil]; exact ⟨_, rfl, (by first | with_reducible assumption | exact krg _ | exact Keep.al (krg _) _), fun W9 hk9 => Cs.keep (Cs.lit _ rfl rfl rfl (by simp) (by simp)) hk9⟩)
      · (obtain ⟨d4, d10⟩ := hd; subst d4; clear hs; simp only [fillG, List.set_cons_zero, List.set_cons_succ]; have hKW := Keep.tr (Keep.dr (Keep.rf _)) (hE rfl); have d0 := Keep.cell hKW d0; have d1 := Keep.cell hKW d1; refine want_n rfl ?_; refine wp_app (.tmp 58) (.tmp 64) 48 rfl 0 3 _ 1 8 Tryz.underlying48 infoI rfl (by omega) _ A0.length _ rfl (own_keep hra.out hKW) _ 1 _ rfl (Cs.src d10) (by simp; rfl) (by simp only [maxLen]; omega) (by omega) (Nat.zero_le _) ?_; intro v11 w11 ha11; refine hK _ _ ?_; simp only [DoneG, fillG, List.set_cons_zero, List.set_cons_succ, relG, eqG, eqG1, eqG2, eqG3, gdG, gdG1, gnG, gnG1, List.getD_cons_zero, List.getD_cons_succ, List.getElem?_cons_succ, List.getElem?_cons_zero, Option.map_some, Option.getD_some, valsG, List.map_cons, List.map_nil, List.length_cons, List.length_nil]; exact ⟨_, rfl, (by first | with_reducible assumption | exact trivial), fun W9 hk9 => (IPush.mk hKW ha11).keep hk9⟩)
      · (have d0 := hd; clear hd; subst d0; clear hs; simp only [fillG, List.set_cons_zero, List.set_cons_succ]; refine want_n rfl ?_; go_wp2_with (first | fail); simp only [DoneG, fillG, List.set_cons_zero, List.set_cons_succ, relG, eqG, eqG1, eqG2, eqG3, gdG, gdG1, gnG, gnG1, List.getD_cons_zero, List.getD_cons_succ, List.getElem?_cons_succ, List.getElem?_cons_zero, Option.map_some, Option.getD_some, valsG, List.map_cons, List.map_nil, List.length_cons, List.length_nil]; exact ⟨_, rfl, (by first | with_reducible assumption | exact krg _ | exact Keep.al (krg _) _), fun _ _ => rfl⟩)
      · (have d12 := hd; clear hd; subst d12; clear hs; simp only [fillG, List.set_cons_zero, List.set_cons_succ]; refine want_n rfl ?_; go_wp2_with (first | fail); simp only [DoneG, fillG, List.set_cons_zero, List.set_cons_succ, relG, eqG, eqG1, eqG2, eqG3, gdG, gdG1, gnG, gnG1, List.getD_cons_zero, List.getD_cons_succ, List.getElem?_cons_succ, List.getElem?_cons_zero, Option.map_some, Option.getD_some, valsG, List.map_cons, List.map_nil, List.length_cons, List.length_nil]; exact ⟨_, rfl, (by first | with_reducible assumption | exact krg _ | exact Keep.al (krg _) _), fun _ _ => rfl⟩)
    (intro us W5 h9 hW hE hA hl9; obtain ⟨u0, u1, u2, u3, u4, u5, u6, u7, u8, u9, u10, u11, u12, u13, u14, rfl⟩ := rog 15 h9 rfl; clear h9; clear hl9; simp only [AllG, AtG, and_true, relG, eqG, eqG1, eqG2, eqG3, gdG, gdG1, gnG, gnG1, List.getD_cons_zero, List.getD_cons_succ, List.getElem?_cons_succ, List.getElem?_cons_zero, Option.map_some, Option.getD_some, valsG, List.map_cons, List.map_nil, List.length_cons, List.length_nil] at hA; obtain ⟨d11, d13⟩ := hA; subst d13; simp only [fillG, List.set_cons_zero, List.set_cons_succ]; refine want_n rfl ?_)
    obtain ⟨Wb, kb, hgb, hmb, hob⟩ := d11
    have Rb := HR3.out.frm (kb.frm fun _ => False) fun _ _ h => h
    have tp := (Frm.of_grown (S := fun k => (Value.slice an aA ac).ownBlock = some k) hgb fun _ e => e).heap (fun e => footV_p Rb.nodup (v := .slice an aA ac) (by simp) e rfl) Rb.top
    have tpc := top_cells tp 0
    have tpf := top_free tp 0
    simp only [List.getElem?_toArray, List.getElem?_cons_succ, List.getElem?_cons_zero] at tpc
    obtain ⟨n9', A9', c9', e9⟩ : ∃ n A c, u11 = Value.slice A n c := by obtain ⟨A, c, e⟩ := own_slice hob; exact ⟨_, A, c, e⟩
    subst e9
    have R5 := hide (Rb.pushA hob hgb hmb)
    have X5 := hide ((HX4.out.keep kb).tr (ext_push (p := p) (j := 0) (l1 := []) (l2 := .slice A2 n2 c2 :: .slice A9 n9 c9 :: (fv ++ [uf])) hgb hmb))
    clear Rb HR3 tp hgb hmb hob HX4 kb d0 d1 hW hE hra
    go_wp2
    clear tpc tpf
    have R6 := R5.out
    have X6 := X5.out
    simp only [List.nil_append] at X6
    generalize W5.setCell _ _ = W6 at *
    have HS0 := hide (show True from trivial)
    clear R5 X5
    go_loopw [9] (fun i W => ∃ (k n : Nat) (A' : Option Addr) (c' : Nat), k ≤ fs.length ∧ i = .int .i64 k ∧ RRaw W p sz (.slice A' n c') (.slice A2 n2 c2) (.slice A9 n9 c9) (fv ++ [uf]) (A0 ++ (n2 : Int) :: List.replicate k 0) T2 (F ++ [fs]) ∧ Ext w W (footV p (.slice an aA ac :: .slice tA T.length tc :: .slice fA fn fc :: fv)) (footV p (.slice A' n c' :: .slice A2 n2 c2 :: .slice A9 n9 c9 :: (fv ++ [uf])))) (fun i _ => fs.length - (intOf i).toNat)
    case atStart => exact ⟨0, _, _, _, by omega, rfl, R6, X6⟩
    case round =>
      clear R6 X6
      obtain ⟨k, n, A', c', hk, rfl, R, X⟩ := hrel
      have hra := hide R.ra
      have HX := hide X
      have d0 := top_cells R.top 0
      simp only [List.getElem?_toArray, List.getElem?_cons_succ, List.getElem?_cons_zero] at d0
      by_cases hlt : k < fs.length
      · have kA : Keep wr (wr.alloc (.cells #[.int .i64 0] 3)) := (by repeat (first | exact Keep.rf _ | assumption | apply Keep.al | apply Keep.dr | apply Keep.dn))
        have HRA := hide (R.frm (kA.frm fun _ => False) fun _ _ h => h)
        have hlen : (A0 ++ (n2 : Int) :: List.replicate k 0).length ≤ 2000000 := by simp; omega
        generalize hL : A0 ++ (n2 : Int) :: List.replicate k 0 = L at *
        have HL := hide hL
        clear hL R X
        go_wp2_with (first
          | (at_builtin; go_loud (refine appI L [0] rfl (.tmp 78) (.tmp 79) _ _ _ _ Tryz.underlying48 infoI rfl (by omega) rfl 0 _ rfl (own_keep hra.out kA) _ rfl (Cs.lit _ rfl rfl rfl (by simp) (by simp)) (Nat.zero_le _) (by simp; omega) ?_); intro v2 w3 ho2 hg2 hat2; have tp := (Frm.of_grown (S := fun k => (Value.slice A' n c').ownBlock = some k) hg2 fun _ e => e).heap (fun e => footV_p HRA.out.nodup (v := .slice A' n c') (by simp) e rfl) HRA.out.top; have tpc := top_cells tp 0; have tpf := top_free tp 0; simp only [List.getElem?_toArray, List.getElem?_cons_succ, List.getElem?_cons_zero] at tpc; have ho2' := hide ho2; clear tp ho2; obtain ⟨n3, A3, c3, e3⟩ : ∃ n A c, v2 = Value.slice A n c := (by obtain ⟨A, c, e⟩ := own_slice ho2'.out; exact ⟨_, A, c, e⟩); subst e3)
          | fail)
        have R7 := HRA.out.pushA ho2'.out hg2 hat2
        have X7 := (HX.out.keep kA).tr (ext_push (p := p) (j := 0) (l1 := []) (l2 := .slice A2 n2 c2 :: .slice A9 n9 c9 :: (fv ++ [uf])) hg2 hat2)
        rw [← HL.out] at R7
        have e : A0 ++ (n2 : Int) :: List.replicate k 0 ++ [0] = A0 ++ (n2 : Int) :: List.replicate (k + 1) 0 := by
          rw [List.replicate_succ', List.append_assoc, List.cons_append]
        rw [e] at R7
        have HR7 := hide R7
        have HX7 := hide X7
        clear R7 X7 e
        go_roundw
        case rel => exact ⟨k + 1, _, _, _, by omega, by go_num, HR7.out, HX7.out⟩
        case measure => simp [intOf]; omega
      · go_wp2
        go_ret2
        unfold AllocR
        rw [HYES.out HC.out]
        refine ⟨rfl, _, ⟨_, _, _, _, rfl, ?_, ?_, ?_⟩, HX.out⟩
        · rw [HE1.out, HE2.out, HA0.out]
          have e1 : (n2 : Int) = (H.length : Int) + 1 := by
            have h1 := HN2.out
            have h2 := HT2.out
            have h3 := HTe.out
            rw [← h2] at h1
            simp at h1
            omega
          have e2 : k = fs.length := by omega
          rw [e1, e2] at R
          exact R
        · intro b hb'
          rcases List.mem_append.1 hb' with hb' | hb'
          · exact hi b hb'
          · have : b = (tag, fs) := by simpa using hb'
            subst this
            exact ⟨ht, hfs⟩
        · have := HC.out
          rw [Em.used_append, HU.out]
          simp only [Em.used]
          omega
end Go.Proofs.YtoehaijmkmdggaaGreat
