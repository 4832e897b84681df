/- What a Heap is in memory. -/
import Derived.Test.YtoehaijmkmdggaaLib
import Derived.Test.YtoehaijmkmdggaaHeapPure
namespace Go.Proofs.Ytoehaijmkmdggaa
open Go.RowKit Go.Maps
set_option linter.unusedVariables false
theorem infoW : (Try.prog.info? 36).map (fun i => (i.zero, i.size, i.bytes)) = some (some (.int .i64 0), 1, 8) := by kernel_rfl
/-- make of words. -/
theorem run_makeW (w : World) (n : Nat) (hn : n ≤ 1000000) : ∃ w', (Instr.makeSlice 68 (.int .i64 (n : Int)) (.int .i64 (n : Int))).run Try.prog w = .ok (.slice (some ⟨w.heap.size, 0, none⟩) n n) w' ∧ w'.ownsRow w.heap.size 36 1 (.slice (some ⟨w.heap.size, 0, none⟩) n n) n ((List.replicate n (0 : Int)).map (Value.int .i64)) ∧ Keep w w' := by
  obtain ⟨i, hi, hz⟩ := Option.map_eq_some_iff.1 infoW
  simp only [Prod.mk.injEq] at hz
  obtain ⟨hz0, hz1, hz2⟩ := hz
  obtain ⟨w', h1, h2, h3⟩ := run_make_full (P := Try.prog) w w.heap.size 68 36 i _ 1 Try.underlying68 hi hz0 hz1 .i64 .i64 n (by rw [hz2]; omega) (by simp only [maxLen]; omega) (Nat.le_refl _)
  refine ⟨w', h1, ?_, (Keep.rf w).grown h3 (Nat.le_refl _) (fun k h => by cases h)⟩
  have e : (madeCells (Value.int .i64 0).cells (n * 1)).toList = (List.replicate n (0 : Int)).map (Value.int .i64) := by
    rw [show (Value.int IntKind.i64 0).cells = #[Value.int .i64 0] from rfl, toList_madeCells_one, List.map_replicate, Nat.mul_one]
  rw [e] at h2
  exact h2
/-- Where a block lies: its own cells, its fields. -/
def HPart (w : World) (x : Nat × Value) (b : Int × List Int) : Prop :=
  w.heap[x.1]? = some (.cells #[.int .i64 b.1, x.2] 121) ∧ w.ownsRow 0 36 1 x.2 b.2.length (b.2.map (Value.int .i64))
def foot (L : List (Nat × Value)) : List Nat := L.flatMap fun x => x.1 :: x.2.ownBlock.toList
def ptrAt (L : List (Nat × Value)) (H : Em.Hp) (n : Int) : Option Value := (Em.idx H n).bind fun i => L[i]?.map fun x => .pointer (some ⟨x.1, 0, none⟩)
/-- A Heap at p, of these parts. -/
structure HLies (w : World) (p mb : Nat) (L : List (Nat × Value)) (sz : Nat) (H : Em.Hp) : Prop where
  top : w.heap[p]? = some (.cells #[.int .i64 (sz : Int), .int .i64 (Em.used H : Int), .map (some mb)] 77)
  map : MapF w mb (ptrAt L H)
  len : L.length = H.length
  part : ∀ (i : Nat) (x : Nat × Value) (b : Int × List Int), L[i]? = some x → H[i]? = some b → HPart w x b
  nodup : (p :: mb :: foot L).Nodup
  ints : ∀ b ∈ H, (Lit.int .i64 b.1).wf = true ∧ ∀ f ∈ b.2, (Lit.int .i64 f).wf = true
  small : Em.used H ≤ sz ∧ sz ≤ 20000
/-- A Heap at p: S, the blocks that it has. -/
def HRep (w : World) (p : Nat) (S : List Nat) (sz : Nat) (H : Em.Hp) : Prop := ∃ mb L, S = p :: mb :: foot L ∧ HLies w p mb L sz H
theorem mem_foot {L : List (Nat × Value)} {i : Nat} {x : Nat × Value} (h : L[i]? = some x) : x.1 ∈ foot L ∧ ∀ k, x.2.ownBlock = some k → k ∈ foot L := by
  have hm := List.mem_of_getElem? h
  refine ⟨List.mem_flatMap.2 ⟨x, hm, List.mem_cons_self⟩, fun k hk => List.mem_flatMap.2 ⟨x, hm, List.mem_cons_of_mem _ (by rw [hk]; exact List.mem_singleton.2 rfl)⟩⟩
theorem HLies.frm {S : Nat → Prop} {w w' : World} {p mb sz : Nat} {L : List (Nat × Value)} {H : Em.Hp} (h : HLies w p mb L sz H) (k : Frm S w w') (hs : ∀ i ∈ p :: mb :: foot L, ¬ S i) : HLies w' p mb L sz H := by
  refine { h with top := k.heap (hs p (by simp)) h.top, map := h.map.frm k (hs mb (by simp)), part := fun i x b hx hb => ?_ }
  obtain ⟨h1, h2⟩ := h.part i x b hx hb
  obtain ⟨m1, m2⟩ := mem_foot hx
  exact ⟨k.heap (hs _ (by simp [m1])) h1, k.own h2 fun j hj => hs j (by simp [m2 j hj])⟩
theorem HRep.frm {S : Nat → Prop} {w w' : World} {p sz : Nat} {F : List Nat} {H : Em.Hp} (h : HRep w p F sz H) (k : Frm S w w') (hs : ∀ i ∈ F, ¬ S i) : HRep w' p F sz H := by
  obtain ⟨mb, L, rfl, h⟩ := h
  exact ⟨mb, L, rfl, h.frm k hs⟩
theorem HRep.keep {w w' : World} {p sz : Nat} {F : List Nat} {H : Em.Hp} (h : HRep w p F sz H) (k : Keep w w') : HRep w' p F sz H := h.frm (k.frm fun _ => False) fun _ _ h => h
theorem HLies.lt {w : World} {p mb sz : Nat} {L : List (Nat × Value)} {H : Em.Hp} (h : HLies w p mb L sz H) : ∀ k ∈ p :: mb :: foot L, k < w.heap.size := by
  intro k hk
  simp only [List.mem_cons] at hk
  rcases hk with rfl | rfl | hk
  · exact (Array.getElem?_eq_some_iff.1 h.top).1
  · obtain ⟨es, clock, h1, _⟩ := h.map
    exact (Array.getElem?_eq_some_iff.1 h1).1
  · obtain ⟨x, hx, hk⟩ := List.mem_flatMap.1 hk
    obtain ⟨i, hi, rfl⟩ := List.getElem_of_mem hx
    obtain ⟨h1, h2⟩ := h.part i L[i] (H[i]'(by have := h.len; omega)) (List.getElem?_eq_getElem hi) (List.getElem?_eq_getElem (by have := h.len; omega))
    rcases List.mem_cons.1 hk with rfl | hk
    · exact (Array.getElem?_eq_some_iff.1 h1).1
    · exact (World.ownsRow.lt h2 k (by simpa using hk)).2
theorem HRep.lt {w : World} {p sz : Nat} {F : List Nat} {H : Em.Hp} (h : HRep w p F sz H) : ∀ k ∈ F, k < w.heap.size := by
  obtain ⟨mb, L, rfl, h⟩ := h
  exact h.lt
theorem ptrAt_some {L : List (Nat × Value)} {H : Em.Hp} (hl : L.length = H.length) {n : Int} {i : Nat} (h : Em.idx H n = some i) : ∃ x b, L[i]? = some x ∧ H[i]? = some b ∧ ptrAt L H n = some (.pointer (some ⟨x.1, 0, none⟩)) ∧ Em.blk H n = b := by
  have hi := Em.idx_lt h
  refine ⟨L[i]'(by omega), H[i], by simp, by simp, ?_, ?_⟩
  · simp [ptrAt, h, hl, hi]
  · simp [Em.blk, h, hi]
theorem ptrAt_none {L : List (Nat × Value)} {H : Em.Hp} {n : Int} (h : Em.idx H n = none) : ptrAt L H n = none ∧ Em.blk H n = (0, []) := by
  simp [ptrAt, Em.blk, h]
theorem ptrAt_append {L : List (Nat × Value)} {H : Em.Hp} (hl : L.length = H.length) (x : Nat × Value) (b : Int × List Int) (n : Int) :
    ptrAt (L ++ [x]) (H ++ [b]) n = if n = 2 * (Em.used H : Int) then some (.pointer (some ⟨x.1, 0, none⟩)) else ptrAt L H n := by
  unfold ptrAt
  rw [Em.idx_append]
  by_cases h : n = 2 * (Em.used H : Int)
  · rw [if_pos h, if_pos h, ← hl]
    simp
  · rw [if_neg h, if_neg h]
    cases hi : Em.idx H n with
    | none => rfl
    | some i =>
      have := Em.idx_lt hi
      simp only [Option.bind_some]
      rw [List.getElem?_append_left (by omega)]
def blks (x : Nat × Value) : List Nat := x.1 :: x.2.ownBlock.toList
theorem foot_cons (x : Nat × Value) (L : List (Nat × Value)) : foot (x :: L) = blks x ++ foot L := by simp [foot, blks]
theorem foot_append (L M : List (Nat × Value)) : foot (L ++ M) = foot L ++ foot M := by simp [foot]
theorem foot_mem {L : List (Nat × Value)} {i : Nat} {x : Nat × Value} (h : L[i]? = some x) {k : Nat} (hk : k ∈ blks x) : k ∈ foot L := List.mem_flatMap.2 ⟨x, List.mem_of_getElem? h, hk⟩
theorem foot_ne {L : List (Nat × Value)} (h : (foot L).Nodup) {i j : Nat} {x y : Nat × Value} (hi : L[i]? = some x) (hj : L[j]? = some y) (hij : i ≠ j) {a b : Nat} (ha : a ∈ blks x) (hb : b ∈ blks y) : a ≠ b := by
  induction L generalizing i j with
  | nil => simp at hi
  | cons z L ih =>
    rw [foot_cons, List.nodup_append] at h
    obtain ⟨_, h2, h3⟩ := h
    cases i with
    | zero =>
      cases j with
      | zero => exact absurd rfl hij
      | succ j =>
        have : z = x := by simpa using hi
        subst this
        exact h3 a ha b (foot_mem (by simpa using hj) hb)
    | succ i =>
      cases j with
      | zero =>
        have : z = y := by simpa using hj
        subst this
        exact fun e => h3 b hb a (foot_mem (by simpa using hi) ha) e.symm
      | succ j => exact ih h2 (by simpa using hi) (by simpa using hj) (fun e => hij (by rw [e]))
theorem foot_own {L : List (Nat × Value)} (h : (foot L).Nodup) {i : Nat} {x : Nat × Value} (hi : L[i]? = some x) {g : Nat} (hg : x.2.ownBlock = some g) : x.1 ≠ g := by
  induction L generalizing i with
  | nil => simp at hi
  | cons z L ih =>
    rw [foot_cons, List.nodup_append] at h
    obtain ⟨h1, h2, _⟩ := h
    cases i with
    | zero =>
      have : z = x := by simpa using hi
      subst this
      simp [blks, hg] at h1
      exact h1
    | succ i => exact ih h2 (by simpa using hi)
theorem ptrAt_setF (L : List (Nat × Value)) (H : Em.Hp) (i k : Nat) (v : Int) : ptrAt L (Em.setF H i k v) = ptrAt L H := by
  funext n
  unfold ptrAt Em.idx
  rw [Em.idxF_shape (Em.setF_shape H i k v)]
theorem HLies.set {w : World} {p mb sz : Nat} {L : List (Nat × Value)} {H : Em.Hp} (h : HLies w p mb L sz H) {i : Nat} {x1 g m cap : Nat} {b : Int × List Int} (hx : L[i]? = some (x1, .slice (some ⟨g, 0, none⟩) m cap)) (hb : H[i]? = some b) (k : Nat) (v : Int) (hv : (Lit.int .i64 v).wf = true) (hk : k < b.2.length) :
    HLies (w.setCell ⟨g, k, none⟩ (.int .i64 v)) p mb L sz (Em.setF H i k v) ∧ Frm (· ∈ p :: mb :: foot L) w (w.setCell ⟨g, k, none⟩ (.int .i64 v)) := by
  have hg : g ∈ blks (x1, .slice (some ⟨g, 0, none⟩) m cap) := by simp [blks, Value.ownBlock]
  have hgf := foot_mem hx hg
  have hf : Frm (· = g) w (w.setCell ⟨g, k, none⟩ (.int .i64 v)) := (Frm.rf (· = g) w).st (p := ⟨g, k, none⟩) (.inl rfl) _
  have hnd := h.nodup
  simp only [List.nodup_cons, List.mem_cons, not_or] at hnd
  obtain ⟨⟨n1, n2⟩, n3, n4⟩ := hnd
  refine ⟨{ top := ?_, map := ?_, len := ?_, part := ?_, nodup := h.nodup, ints := ?_, small := ?_ }, hf.mono fun j _ e => by subst e; simp [hgf]⟩
  · rw [Em.used_shape (Em.setF_shape H i k v)]
    exact hf.heap (fun e => n2 (by rw [e]; exact hgf)) h.top
  · rw [ptrAt_setF]
    exact h.map.frm hf fun e => n3 (by rw [e]; exact hgf)
  · rw [h.len]; simp [Em.setF]
  · intro j y c hy hc
    simp only [Em.setF, List.getElem?_modify] at hc
    by_cases hij : i = j
    · subst hij
      rw [hx] at hy
      injection hy with hy
      subst hy
      rw [hb] at hc
      simp at hc
      subst hc
      obtain ⟨g1, g2⟩ := h.part i _ b hx hb
      refine ⟨hf.heap (fun e => foot_own n4 hx (g := g) rfl e) g1, ?_⟩
      simp only [List.length_set, List.map_set]
      have hm : m = b.2.length := by
        obtain ⟨_, ⟨e, _⟩ | ⟨_, _, _, e, _⟩⟩ := g2
        · cases e
        · injection e
      subst hm
      exact (World.ownsRow.stored g2 k (.int .i64 v)).1
    · simp only [hij, if_false, Option.map_id'] at hc
      rw [show (fun a => a) <$> H[j]? = H[j]? from by cases H[j]? <;> rfl] at hc
      obtain ⟨g1, g2⟩ := h.part j y c hy hc
      exact ⟨hf.heap (fun e => foot_ne n4 hx hy hij hg (by simp [blks] : y.1 ∈ blks y) e.symm) g1, hf.own g2 fun q hq e => foot_ne n4 hx hy hij hg (by simp [blks, hq] : q ∈ blks y) e.symm⟩
  · intro c hc
    obtain ⟨j, hj⟩ := List.mem_iff_getElem?.1 hc
    simp only [Em.setF, List.getElem?_modify] at hj
    cases hq : H[j]? with
    | none => rw [hq] at hj; simp at hj
    | some d =>
      rw [hq] at hj
      have hd := h.ints d (List.mem_of_getElem? hq)
      by_cases hij : i = j
      · simp [hij] at hj
        subst hj
        refine ⟨hd.1, fun f hf => ?_⟩
        rcases List.mem_or_eq_of_mem_set hf with hf | rfl
        · exact hd.2 f hf
        · exact hv
      · simp [hij] at hj
        subst hj
        exact hd
  · rw [Em.used_shape (Em.setF_shape H i k v)]
    exact h.small
theorem HLies.idx_none {H : Em.Hp} : Em.idx H (2 * (Em.used H : Int)) = none := Em.idx_new H
/-- A block more. -/
theorem HLies.more {w w' : World} {p mb sz : Nat} {L : List (Nat × Value)} {H : Em.Hp} (h : HLies w p mb L sz H) {g : Nat} {u : Value} {tag : Int} {fs : List Int} (ht : (Lit.int .i64 tag).wf = true) (hfs : ∀ f ∈ fs, (Lit.int .i64 f).wf = true) (hsm : Em.used H + (1 + fs.length) ≤ sz)
    (hF : Frm (fun k => k = p ∨ k = mb) w w') (top : w'.heap[p]? = some (.cells #[.int .i64 (sz : Int), .int .i64 (Em.used (H ++ [(tag, fs)]) : Int), .map (some mb)] 77))
    (map : MapF w' mb (fun m => if m = 2 * (Em.used H : Int) then some (.pointer (some ⟨g, 0, none⟩)) else ptrAt L H m))
    (part : HPart w' (g, u) (tag, fs)) (hg : w.heap.size ≤ g) (hu : ∀ k, u.ownBlock = some k → w.heap.size ≤ k ∧ k ≠ g) :
    HLies w' p mb (L ++ [(g, u)]) sz (H ++ [(tag, fs)]) := by
  have hlt := h.lt
  refine { top := top, map := ?_, len := ?_, part := ?_, nodup := ?_, ints := ?_, small := ?_ }
  · rw [show ptrAt (L ++ [(g, u)]) (H ++ [(tag, fs)]) = _ from funext fun n => ptrAt_append h.len (g, u) (tag, fs) n]
    exact map
  · simp [h.len]
  · intro i x b hx hb
    have hl := h.len
    rcases Nat.lt_or_ge i L.length with hi | hi
    · rw [List.getElem?_append_left hi] at hx
      rw [List.getElem?_append_left (by omega)] at hb
      obtain ⟨g1, g2⟩ := h.part i x b hx hb
      have hnd := h.nodup
      simp only [List.nodup_cons, List.mem_cons, not_or] at hnd
      obtain ⟨⟨n1, n2⟩, n3, n4⟩ := hnd
      have ha : ∀ k ∈ blks x, ¬ (k = p ∨ k = mb) := by
        intro k hk e
        have := foot_mem hx hk
        rcases e with rfl | rfl
        · exact n2 this
        · exact n3 this
      exact ⟨hF.heap (ha x.1 (by simp [blks])) g1, hF.own g2 fun q hq => ha q (by simp [blks, hq])⟩
    · rw [List.getElem?_append_right hi] at hx
      rw [List.getElem?_append_right (by omega)] at hb
      have : i = L.length := by
        have := (List.getElem?_eq_some_iff.1 hx).1
        simp at this
        omega
      subst this
      simp at hx
      rw [hl] at hb
      simp at hb
      subst hx hb
      exact part
  · have e : p :: mb :: foot (L ++ [(g, u)]) = (p :: mb :: foot L) ++ blks (g, u) := by simp [foot_append, foot, blks]
    rw [e, List.nodup_append]
    refine ⟨h.nodup, ?_, fun a ha b hb e => ?_⟩
    · cases ho : u.ownBlock with
      | none => simp [blks, ho]
      | some q => simp [blks, ho]; exact fun e => (hu q ho).2 e.symm
    · have := hlt a ha
      simp only [blks, List.mem_cons] at hb
      rcases hb with rfl | hb
      · omega
      · have := (hu b (by simpa using hb)).1
        omega
  · intro b hb
    rcases List.mem_append.1 hb with hb | hb
    · exact h.ints b hb
    · have : b = (tag, fs) := by simpa using hb
      subst this
      exact ⟨ht, hfs⟩
  · rw [Em.used_append]
    simp only [Em.used]
    have := h.small
    omega
end Go.Proofs.Ytoehaijmkmdggaa
