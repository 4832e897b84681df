/- What a Heap is in memory. Walks: the functions of package heap. Walk: Alloc of package heap. Walks: the laws of heap return true. -/
import Derived.Test.YtoehaijmkmdggaaGreatGLib
import Derived.Test.YtoehaijmkmdggaaGreatGHeapPure
import Derived.Test.YtoehaijmkmdggaaGreatGRegRel
import Derived.Test.YtoehaijmkmdggaaGreatGReg
import Derived.Lib.SliceRun
set_option linter.unusedSimpArgs false
set_option linter.unusedVariables false
set_option linter.unusedSimpArgs false
namespace Go.Proofs.YtoehaijmkmdggaaGreat
open Go.RowKit Go.Maps
set_option linter.unusedVariables false
theorem infoW : (Tryz.prog.info? 32).map (fun i => (i.zero, i.size, i.bytes)) = some (some (.int .i64 0), 1, 8) := by kernel_rfl
/-- make of words. -/
theorem run_makeW (w : World) (n : Nat) (hn : n ≤ 1000000) : ∃ w', (Instr.makeSlice 31 (.int .i64 (n : Int)) (.int .i64 (n : Int))).run Tryz.prog w = .ok (.slice (some ⟨w.heap.size, 0, none⟩) n n) w' ∧ w'.ownsRow w.heap.size 32 1 (.slice (some ⟨w.heap.size, 0, none⟩) n n) n ((List.replicate n (0 : Int)).map (Value.int .i64)) ∧ Keep w w' := by
  obtain ⟨i, hi, hz⟩ := Option.map_eq_some_iff.1 infoW
  simp only [Prod.mk.injEq] at hz
  obtain ⟨hz0, hz1, hz2⟩ := hz
  obtain ⟨w', h1, h2, h3⟩ := run_make_full (P := Tryz.prog) w w.heap.size 31 32 i _ 1 Tryz.underlying31 hi hz0 hz1 .i64 .i64 n (by rw [hz2]; omega) (by simp only [maxLen]; omega) (Nat.le_refl _)
  refine ⟨w', h1, ?_, (Keep.rf w).grown h3 (Nat.le_refl _) (fun k h => by cases h)⟩
  have e : (madeCells (Value.int .i64 0).cells (n * 1)).toList = (List.replicate n (0 : Int)).map (Value.int .i64) := by
    rw [show (Value.int IntKind.i64 0).cells = #[Value.int .i64 0] from rfl, toList_madeCells_one, List.map_replicate, Nat.mul_one]
  rw [e] at h2
  exact h2
/-- Where a block lies: its own cells, its fields. -/
def HPart (w : World) (x : Nat × Value) (b : Int × List Int) : Prop :=
  w.heap[x.1]? = some (.cells #[.int .i64 b.1, x.2] 57) ∧ w.ownsRow 0 32 1 x.2 b.2.length (b.2.map (Value.int .i64))
def foot (L : List (Nat × Value)) : List Nat := L.flatMap fun x => x.1 :: x.2.ownBlock.toList
def ptrAt (L : List (Nat × Value)) (H : Em.Hp) (n : Int) : Option Value := (Em.idx H n).bind fun i => L[i]?.map fun x => .pointer (some ⟨x.1, 0, none⟩)
/-- A Heap at p, of these parts. -/
structure HLies (w : World) (p mb : Nat) (L : List (Nat × Value)) (sz : Nat) (H : Em.Hp) : Prop where
  top : w.heap[p]? = some (.cells #[.int .i64 (sz : Int), .int .i64 (Em.used H : Int), .map (some mb)] 47)
  map : MapF w mb (ptrAt L H)
  len : L.length = H.length
  part : ∀ (i : Nat) (x : Nat × Value) (b : Int × List Int), L[i]? = some x → H[i]? = some b → HPart w x b
  nodup : (p :: mb :: foot L).Nodup
  ints : ∀ b ∈ H, (Lit.int .i64 b.1).wf = true ∧ ∀ f ∈ b.2, (Lit.int .i64 f).wf = true
  small : Em.used H ≤ sz ∧ sz ≤ 20000
/-- A Heap at p: S, the blocks that it has. -/
def HRep (w : World) (p : Nat) (S : List Nat) (sz : Nat) (H : Em.Hp) : Prop := ∃ mb L, S = p :: mb :: foot L ∧ HLies w p mb L sz H
theorem mem_foot {L : List (Nat × Value)} {i : Nat} {x : Nat × Value} (h : L[i]? = some x) : x.1 ∈ foot L ∧ ∀ k, x.2.ownBlock = some k → k ∈ foot L := by
  have hm := List.mem_of_getElem? h
  refine ⟨List.mem_flatMap.2 ⟨x, hm, List.mem_cons_self⟩, fun k hk => List.mem_flatMap.2 ⟨x, hm, List.mem_cons_of_mem _ (by rw [hk]; exact List.mem_singleton.2 rfl)⟩⟩
theorem HLies.frm {S : Nat → Prop} {w w' : World} {p mb sz : Nat} {L : List (Nat × Value)} {H : Em.Hp} (h : HLies w p mb L sz H) (k : Frm S w w') (hs : ∀ i ∈ p :: mb :: foot L, ¬ S i) : HLies w' p mb L sz H := by
  refine { h with top := k.heap (hs p (by simp)) h.top, map := h.map.frm k (hs mb (by simp)), part := fun i x b hx hb => ?_ }
  obtain ⟨h1, h2⟩ := h.part i x b hx hb
  obtain ⟨m1, m2⟩ := mem_foot hx
  exact ⟨k.heap (hs _ (by simp [m1])) h1, k.own h2 fun j hj => hs j (by simp [m2 j hj])⟩
theorem HRep.frm {S : Nat → Prop} {w w' : World} {p sz : Nat} {F : List Nat} {H : Em.Hp} (h : HRep w p F sz H) (k : Frm S w w') (hs : ∀ i ∈ F, ¬ S i) : HRep w' p F sz H := by
  obtain ⟨mb, L, rfl, h⟩ := h
  exact ⟨mb, L, rfl, h.frm k hs⟩
theorem HRep.keep {w w' : World} {p sz : Nat} {F : List Nat} {H : Em.Hp} (h : HRep w p F sz H) (k : Keep w w') : HRep w' p F sz H := h.frm (k.frm fun _ => False) fun _ _ h => h
theorem HLies.lt {w : World} {p mb sz : Nat} {L : List (Nat × Value)} {H : Em.Hp} (h : HLies w p mb L sz H) : ∀ k ∈ p :: mb :: foot L, k < w.heap.size := by
  intro k hk
  simp only [List.mem_cons] at hk
  rcases hk with rfl | rfl | hk
  · exact (Array.getElem?_eq_some_iff.1 h.top).1
  · obtain ⟨es, clock, h1, _⟩ := h.map
    exact (Array.getElem?_eq_some_iff.1 h1).1
  · obtain ⟨x, hx, hk⟩ := List.mem_flatMap.1 hk
    obtain ⟨i, hi, rfl⟩ := List.getElem_of_mem hx
    obtain ⟨h1, h2⟩ := h.part i L[i] (H[i]'(by have := h.len; omega)) (List.getElem?_eq_getElem hi) (List.getElem?_eq_getElem (by have := h.len; omega))
    rcases List.mem_cons.1 hk with rfl | hk
    · exact (Array.getElem?_eq_some_iff.1 h1).1
    · exact (World.ownsRow.lt h2 k (by simpa using hk)).2
theorem HRep.lt {w : World} {p sz : Nat} {F : List Nat} {H : Em.Hp} (h : HRep w p F sz H) : ∀ k ∈ F, k < w.heap.size := by
  obtain ⟨mb, L, rfl, h⟩ := h
  exact h.lt
theorem ptrAt_some {L : List (Nat × Value)} {H : Em.Hp} (hl : L.length = H.length) {n : Int} {i : Nat} (h : Em.idx H n = some i) : ∃ x b, L[i]? = some x ∧ H[i]? = some b ∧ ptrAt L H n = some (.pointer (some ⟨x.1, 0, none⟩)) ∧ Em.blk H n = b := by
  have hi := Em.idx_lt h
  refine ⟨L[i]'(by omega), H[i], by simp, by simp, ?_, ?_⟩
  · simp [ptrAt, h, hl, hi]
  · simp [Em.blk, h, hi]
theorem ptrAt_none {L : List (Nat × Value)} {H : Em.Hp} {n : Int} (h : Em.idx H n = none) : ptrAt L H n = none ∧ Em.blk H n = (0, []) := by
  simp [ptrAt, Em.blk, h]
theorem ptrAt_append {L : List (Nat × Value)} {H : Em.Hp} (hl : L.length = H.length) (x : Nat × Value) (b : Int × List Int) (n : Int) :
    ptrAt (L ++ [x]) (H ++ [b]) n = if n = 2 * (Em.used H : Int) then some (.pointer (some ⟨x.1, 0, none⟩)) else ptrAt L H n := by
  unfold ptrAt
  rw [Em.idx_append]
  by_cases h : n = 2 * (Em.used H : Int)
  · rw [if_pos h, if_pos h, ← hl]
    simp
  · rw [if_neg h, if_neg h]
    cases hi : Em.idx H n with
    | none => rfl
    | some i =>
      have := Em.idx_lt hi
      simp only [Option.bind_some]
      rw [List.getElem?_append_left (by omega)]
def blks (x : Nat × Value) : List Nat := x.1 :: x.2.ownBlock.toList
theorem foot_cons (x : Nat × Value) (L : List (Nat × Value)) : foot (x :: L) = blks x ++ foot L := by simp [foot, blks]
theorem foot_append (L M : List (Nat × Value)) : foot (L ++ M) = foot L ++ foot M := by simp [foot]
theorem foot_mem {L : List (Nat × Value)} {i : Nat} {x : Nat × Value} (h : L[i]? = some x) {k : Nat} (hk : k ∈ blks x) : k ∈ foot L := List.mem_flatMap.2 ⟨x, List.mem_of_getElem? h, hk⟩
theorem foot_ne {L : List (Nat × Value)} (h : (foot L).Nodup) {i j : Nat} {x y : Nat × Value} (hi : L[i]? = some x) (hj : L[j]? = some y) (hij : i ≠ j) {a b : Nat} (ha : a ∈ blks x) (hb : b ∈ blks y) : a ≠ b := by
  induction L generalizing i j with
  | nil => simp at hi
  | cons z L ih =>
    rw [foot_cons, List.nodup_append] at h
    obtain ⟨_, h2, h3⟩ := h
    cases i with
    | zero =>
      cases j with
      | zero => exact absurd rfl hij
      | succ j =>
        have : z = x := by simpa using hi
        subst this
        exact h3 a ha b (foot_mem (by simpa using hj) hb)
    | succ i =>
      cases j with
      | zero =>
        have : z = y := by simpa using hj
        subst this
        exact fun e => h3 b hb a (foot_mem (by simpa using hi) ha) e.symm
      | succ j => exact ih h2 (by simpa using hi) (by simpa using hj) (fun e => hij (by rw [e]))
theorem foot_own {L : List (Nat × Value)} (h : (foot L).Nodup) {i : Nat} {x : Nat × Value} (hi : L[i]? = some x) {g : Nat} (hg : x.2.ownBlock = some g) : x.1 ≠ g := by
  induction L generalizing i with
  | nil => simp at hi
  | cons z L ih =>
    rw [foot_cons, List.nodup_append] at h
    obtain ⟨h1, h2, _⟩ := h
    cases i with
    | zero =>
      have : z = x := by simpa using hi
      subst this
      simp [blks, hg] at h1
      exact h1
    | succ i => exact ih h2 (by simpa using hi)
theorem ptrAt_setF (L : List (Nat × Value)) (H : Em.Hp) (i k : Nat) (v : Int) : ptrAt L (Em.setF H i k v) = ptrAt L H := by
  funext n
  unfold ptrAt Em.idx
  rw [Em.idxF_shape (Em.setF_shape H i k v)]
theorem HLies.set {w : World} {p mb sz : Nat} {L : List (Nat × Value)} {H : Em.Hp} (h : HLies w p mb L sz H) {i : Nat} {x1 g m cap : Nat} {b : Int × List Int} (hx : L[i]? = some (x1, .slice (some ⟨g, 0, none⟩) m cap)) (hb : H[i]? = some b) (k : Nat) (v : Int) (hv : (Lit.int .i64 v).wf = true) (hk : k < b.2.length) :
    HLies (w.setCell ⟨g, k, none⟩ (.int .i64 v)) p mb L sz (Em.setF H i k v) ∧ Frm (· ∈ p :: mb :: foot L) w (w.setCell ⟨g, k, none⟩ (.int .i64 v)) := by
  have hg : g ∈ blks (x1, .slice (some ⟨g, 0, none⟩) m cap) := by simp [blks, Value.ownBlock]
  have hgf := foot_mem hx hg
  have hf : Frm (· = g) w (w.setCell ⟨g, k, none⟩ (.int .i64 v)) := (Frm.rf (· = g) w).st (p := ⟨g, k, none⟩) (.inl rfl) _
  have hnd := h.nodup
  simp only [List.nodup_cons, List.mem_cons, not_or] at hnd
  obtain ⟨⟨n1, n2⟩, n3, n4⟩ := hnd
  refine ⟨{ top := ?_, map := ?_, len := ?_, part := ?_, nodup := h.nodup, ints := ?_, small := ?_ }, hf.mono fun j _ e => by subst e; simp [hgf]⟩
  · rw [Em.used_shape (Em.setF_shape H i k v)]
    exact hf.heap (fun e => n2 (by rw [e]; exact hgf)) h.top
  · rw [ptrAt_setF]
    exact h.map.frm hf fun e => n3 (by rw [e]; exact hgf)
  · rw [h.len]; simp [Em.setF]
  · intro j y c hy hc
    simp only [Em.setF, List.getElem?_modify] at hc
    by_cases hij : i = j
    · subst hij
      rw [hx] at hy
      injection hy with hy
      subst hy
      rw [hb] at hc
      simp at hc
      subst hc
      obtain ⟨g1, g2⟩ := h.part i _ b hx hb
      refine ⟨hf.heap (fun e => foot_own n4 hx (g := g) rfl e) g1, ?_⟩
      simp only [List.length_set, List.map_set]
      have hm : m = b.2.length := by
        obtain ⟨_, ⟨e, _⟩ | ⟨_, _, _, e, _⟩⟩ := g2
        · cases e
        · injection e
      subst hm
      exact (World.ownsRow.stored g2 k (.int .i64 v)).1
    · simp only [hij, if_false, Option.map_id'] at hc
      rw [show (fun a => a) <$> H[j]? = H[j]? from by cases H[j]? <;> rfl] at hc
      obtain ⟨g1, g2⟩ := h.part j y c hy hc
      exact ⟨hf.heap (fun e => foot_ne n4 hx hy hij hg (by simp [blks] : y.1 ∈ blks y) e.symm) g1, hf.own g2 fun q hq e => foot_ne n4 hx hy hij hg (by simp [blks, hq] : q ∈ blks y) e.symm⟩
  · intro c hc
    obtain ⟨j, hj⟩ := List.mem_iff_getElem?.1 hc
    simp only [Em.setF, List.getElem?_modify] at hj
    cases hq : H[j]? with
    | none => rw [hq] at hj; simp at hj
    | some d =>
      rw [hq] at hj
      have hd := h.ints d (List.mem_of_getElem? hq)
      by_cases hij : i = j
      · simp [hij] at hj
        subst hj
        refine ⟨hd.1, fun f hf => ?_⟩
        rcases List.mem_or_eq_of_mem_set hf with hf | rfl
        · exact hd.2 f hf
        · exact hv
      · simp [hij] at hj
        subst hj
        exact hd
  · rw [Em.used_shape (Em.setF_shape H i k v)]
    exact h.small
/-- A block more. -/
theorem HLies.more {w w' : World} {p mb sz : Nat} {L : List (Nat × Value)} {H : Em.Hp} (h : HLies w p mb L sz H) {g : Nat} {u : Value} {tag : Int} {fs : List Int} (ht : (Lit.int .i64 tag).wf = true) (hfs : ∀ f ∈ fs, (Lit.int .i64 f).wf = true) (hsm : Em.used H + (1 + fs.length) ≤ sz)
    (hF : Frm (fun k => k = p ∨ k = mb) w w') (top : w'.heap[p]? = some (.cells #[.int .i64 (sz : Int), .int .i64 (Em.used (H ++ [(tag, fs)]) : Int), .map (some mb)] 47))
    (map : MapF w' mb (fun m => if m = 2 * (Em.used H : Int) then some (.pointer (some ⟨g, 0, none⟩)) else ptrAt L H m))
    (part : HPart w' (g, u) (tag, fs)) (hg : w.heap.size ≤ g) (hu : ∀ k, u.ownBlock = some k → w.heap.size ≤ k ∧ k ≠ g) :
    HLies w' p mb (L ++ [(g, u)]) sz (H ++ [(tag, fs)]) := by
  have hlt := h.lt
  refine { top := top, map := ?_, len := ?_, part := ?_, nodup := ?_, ints := ?_, small := ?_ }
  · rw [show ptrAt (L ++ [(g, u)]) (H ++ [(tag, fs)]) = _ from funext fun n => ptrAt_append h.len (g, u) (tag, fs) n]
    exact map
  · simp [h.len]
  · intro i x b hx hb
    have hl := h.len
    rcases Nat.lt_or_ge i L.length with hi | hi
    · rw [List.getElem?_append_left hi] at hx
      rw [List.getElem?_append_left (by omega)] at hb
      obtain ⟨g1, g2⟩ := h.part i x b hx hb
      have hnd := h.nodup
      simp only [List.nodup_cons, List.mem_cons, not_or] at hnd
      obtain ⟨⟨n1, n2⟩, n3, n4⟩ := hnd
      have ha : ∀ k ∈ blks x, ¬ (k = p ∨ k = mb) := by
        intro k hk e
        have := foot_mem hx hk
        rcases e with rfl | rfl
        · exact n2 this
        · exact n3 this
      exact ⟨hF.heap (ha x.1 (by simp [blks])) g1, hF.own g2 fun q hq => ha q (by simp [blks, hq])⟩
    · rw [List.getElem?_append_right hi] at hx
      rw [List.getElem?_append_right (by omega)] at hb
      have : i = L.length := by
        have := (List.getElem?_eq_some_iff.1 hx).1
        simp at this
        omega
      subst this
      simp at hx
      rw [hl] at hb
      simp at hb
      subst hx hb
      exact part
  · have e : p :: mb :: foot (L ++ [(g, u)]) = (p :: mb :: foot L) ++ blks (g, u) := by simp [foot_append, foot, blks]
    rw [e, List.nodup_append]
    refine ⟨h.nodup, ?_, fun a ha b hb e => ?_⟩
    · cases ho : u.ownBlock with
      | none => simp [blks, ho]
      | some q => simp [blks, ho]; exact fun e => (hu q ho).2 e.symm
    · have := hlt a ha
      simp only [blks, List.mem_cons] at hb
      rcases hb with rfl | hb
      · omega
      · have := (hu b (by simpa using hb)).1
        omega
  · intro b hb
    rcases List.mem_append.1 hb with hb | hb
    · exact h.ints b hb
    · have : b = (tag, fs) := by simpa using hb
      subst this
      exact ⟨ht, hfs⟩
  · rw [Em.used_append]
    simp only [Em.used]
    have := h.small
    omega
end Go.Proofs.YtoehaijmkmdggaaGreat
namespace Go.Proofs.YtoehaijmkmdggaaGreat
open Go.RowKit Go.Maps
set_option linter.unusedVariables false
set_option maxRecDepth 100000
theorem Cs.none {w : World} {A : Option Addr} {n c : Nat} {l : List Value} (h : Cs w (.slice A n c) l) (hA : A = none) : l = [] := by
  obtain ⟨A', c', e, h1, h2, h3⟩ := h
  injection e with e1 e2 e3
  rcases Nat.eq_zero_or_pos l.length with h0 | h0
  · exact List.eq_nil_of_length_eq_zero h0
  · obtain ⟨ad, e, _⟩ := h3 h0
    rw [e1.symm.trans hA] at e
    cases e
set_option maxHeartbeats 1000000 in
theorem cloneW (v : Value) (l : List Int) (w : World) (h : Is w v l) (hl : l.length ≤ 1000000) : Calls Tryz.prog 15 #[v] w fun e w' => ∃ A c, e = .returned (.slice A l.length c) ∧ w'.ownsRow w.heap.size 32 1 (.slice A l.length c) l.length (l.map (Value.int .i64)) ∧ Keep w w' := by
  have h0 := h
  obtain ⟨A, c, rfl, hlc, hcm, hr⟩ := h
  have kn := fun W A n c => Lib.run_eql_slice_nil (P := Tryz.prog) W 31 32 A n c 0 0 Tryz.underlying31
  clear hr
  rcases A with _ | ad
  · have h00 := h0.none rfl
    have : l = [] := by simpa using h00
    subst this
    go_enter Tryz.func15, Tryz.ntmps15
    go_wp2
    go_ret
    exact ⟨_, _, rfl, ⟨by simp, .inl ⟨rfl, rfl⟩⟩, Keep.rf _⟩
  · have HL := hide (show (l.map (Value.int .i64)).length = l.length from by simp)
    go_enter Tryz.func15, Tryz.ntmps15
    go_wp2_with (at_builtin; go_loud (refine app1 rfl (.tmp 5) (.tmp 6) _ _ _ _ Tryz.underlying31 infoW rfl (by omega) rfl w.heap.size _ [] rfl (own_new [] rfl rfl rfl (Nat.le_refl _) (by simp)) _ _ rfl (h0.keep (by repeat (first | exact Keep.rf _ | assumption | apply Keep.al | apply Keep.dr | apply Keep.dn))) (int_one l) (Below.size (show Keep w _ from (by repeat (first | exact Keep.rf _ | assumption | apply Keep.al | apply Keep.dr | apply Keep.dn)))) (by simp; omega) ?_); intro v2 w2 ho2 hg2 hat2)
    go_ret
    obtain ⟨A9, c9, e9⟩ := own_slice ho2
    subst e9
    simp only [List.nil_append, HL.out] at ho2 ⊢
    refine ⟨_, _, rfl, ?_, (show Keep w _ from (by repeat (first | exact Keep.rf _ | assumption | apply Keep.al | apply Keep.dr | apply Keep.dn))).grown hg2 (Below.size (show Keep w _ from (by repeat (first | exact Keep.rf _ | assumption | apply Keep.al | apply Keep.dr | apply Keep.dn)))) (fun k h => by cases h; exact Nat.le_refl _)⟩
    simpa [HL.out] using ho2
/-- A number as a word. -/
def intW (n : Int) : Int := IntKind.i64.wrap (2 * n) + 1
theorem or_nat1 (m : Nat) (h : m % 2 = 0) : m ||| 1 = m + 1 := by
  have : m = (m / 2) <<< 1 := by rw [Nat.shiftLeft_eq]; omega
  rw [this, ← Nat.shiftLeft_add_eq_or_of_lt (by omega)]
theorem or_i64 (x : Int) (h1 : -9223372036854775808 ≤ x) (h2 : x ≤ 9223372036854775807) (h : x % 2 = 0) : bits .or .i64 x 1 = x + 1 := by
  show IntKind.i64.wrap ((BitVec.ofInt 64 x ||| BitVec.ofInt 64 1).toNat : Int) = _
  have e : (BitVec.ofInt 64 x ||| BitVec.ofInt 64 1).toNat = (x % 18446744073709551616).toNat + 1 := by
    rw [BitVec.toNat_or, BitVec.toNat_ofInt, show (BitVec.ofInt 64 1).toNat = 1 from by decide]
    exact or_nat1 _ (by omega)
  rw [e, IntKind.wrap_i64]
  omega
theorem and_i64 (x : Int) : bits .and .i64 x 1 = x % 2 := by
  show IntKind.i64.wrap ((BitVec.ofInt 64 x &&& BitVec.ofInt 64 1).toNat : Int) = _
  have e : (BitVec.ofInt 64 x &&& BitVec.ofInt 64 1).toNat = (x % 18446744073709551616).toNat % 2 := by
    rw [BitVec.toNat_and, BitVec.toNat_ofInt, show (BitVec.ofInt 64 1).toNat = 2 ^ 1 - 1 from by decide, Nat.and_two_pow_sub_one_eq_mod]
    rfl
  rw [e, IntKind.wrap_i64]
  omega
theorem intW_go (n : Int) : bits .or .i64 (wrap64 (n * 2)) 1 = intW n := by
  rw [show wrap64 (n * 2) = IntKind.i64.wrap (n * 2) from by rw [IntKind.wrap_i64]; unfold wrap64; omega]
  unfold intW
  rw [Int.mul_comm 2 n]
  have := IntKind.wrap_i64 (n * 2)
  exact or_i64 _ (by rw [this]; omega) (by rw [this]; omega) (by rw [this]; omega)
theorem intW_ref (n : Int) : IntKind.i64.wrap (bits .or .u64 (IntKind.u64.wrap (IntKind.u64.wrap n * 2)) 1) = intW n := by
  have h1 := IntKind.wrap_u64 n
  have h2 := IntKind.wrap_u64 (IntKind.u64.wrap n * 2)
  obtain ⟨m, hm⟩ : ∃ m : Nat, IntKind.u64.wrap (IntKind.u64.wrap n * 2) = (m : Int) := ⟨(IntKind.u64.wrap (IntKind.u64.wrap n * 2)).toNat, by rw [h2]; omega⟩
  rw [hm, show (1 : Int) = ((1 : Nat) : Int) from rfl, u64_or_nat _ _ (by omega) (by omega), or_nat1 _ (by omega)]
  unfold intW
  rw [IntKind.wrap_i64, IntKind.wrap_i64]
  omega
theorem intW_back (n : Int) (h1 : -4611686018427387904 ≤ n) (h2 : n < 4611686018427387904) : intW n / 2 = n := by
  unfold intW
  rw [IntKind.wrap_i64]
  omega
theorem heapInt (n : Int) (w : World) : Calls Tryz.prog 32 #[.int .i64 n] w fun e w' => e = .returned (.int .i64 (intW n)) ∧ w = w' := by
  have h := intW_go n
  go_enter Tryz.func32, Tryz.ntmps32
  go_wp2
  go_ret
  exact ⟨by rw [← h]; rfl, rfl⟩
theorem refInt (n : Int) (w : World) : Calls Tryz.prog 7 #[.int .i64 n] w fun e w' => e = .returned (.int .i64 (intW n)) ∧ w = w' := by
  have h := intW_ref n
  go_enter Tryz.func7, Tryz.ntmps7
  go_wp2
  go_ret
  exact ⟨by rw [← h]; rfl, rfl⟩
theorem refIsInt (n : Int) (w : World) : Calls Tryz.prog 89 #[.int .i64 n] w fun e w' => e = .returned (.bool (n % 2 == 1)) ∧ w = w' := by
  have h := and_i64 n
  go_enter Tryz.func89, Tryz.ntmps89
  go_wp2
  go_ret
  exact ⟨rfl, rfl⟩
theorem refNum (n : Int) (w : World) : Calls Tryz.prog 87 #[.int .i64 n] w fun e w' => e = .returned (.int .i64 (n / 2)) ∧ w = w' := by
  go_enter Tryz.func87, Tryz.ntmps87
  go_wp2
  go_ret
  exact ⟨rfl, rfl⟩
theorem HLies.new {w : World} {mb p sz : Nat} (hmb : w.heap.size = mb) (hp : w.heap.size + 1 = p) (h : sz ≤ 20000) : HLies ((w.alloc (.map #[] 0)).alloc (.cells #[.int .i64 (sz : Int), .int .i64 0, .map (some mb)] 47)) p mb [] sz [] := by
  subst hmb hp
  refine { top := ?_, map := ?_, len := rfl, part := fun i x b h => by simp at h, nodup := by simp [foot], ints := by simp, small := ⟨by simp [Em.used], h⟩ }
  · have := heap_alloc_new (w.alloc (.map #[] 0)) (.cells #[.int .i64 (sz : Int), .int .i64 0, .map (some w.heap.size)] 47)
    rw [show (w.alloc (.map #[] 0)).heap.size = w.heap.size + 1 from by simp] at this
    exact this
  · have h1 := (MapF.new w rfl).frm (S := fun _ => False) ((Keep.rf (w.alloc (.map #[] 0))).al (.cells #[.int .i64 (sz : Int), .int .i64 0, .map (some w.heap.size)] 47) |>.frm _) (fun h => h)
    have : ptrAt [] [] = fun _ => none := by
      funext n
      simp [ptrAt, Em.idx, Em.idxF]
    rw [this]
    exact h1
/-- A Heap that was made. -/
def NewH (w : World) (sz : Nat) (e : Ending) (w' : World) : Prop := ∃ p S, e = .returned (.pointer (some ⟨p, 0, none⟩)) ∧ HRep w' p S sz [] ∧ (∀ k ∈ S, w.heap.size ≤ k) ∧ Keep w w'
theorem heapNew (n : Nat) (w : World) (h : n ≤ 20000) : Calls Tryz.prog 5 #[.int .i64 (n : Int)] w (NewH w n) := by
  have hmm := @run_makeMap Tryz.prog
  go_enter Tryz.func5, Tryz.ntmps5
  go_wp2
  go_ret
  refine ⟨w.heap.size + 1, [w.heap.size + 1, w.heap.size], by simp, ⟨w.heap.size, [], rfl, HLies.new rfl rfl h⟩, by simp, (by repeat (first | exact Keep.rf _ | assumption | apply Keep.al | apply Keep.dr | apply Keep.dn))⟩
theorem heapUsed {p sz : Nat} {S : List Nat} {H : Em.Hp} (w : World) (h : HRep w p S sz H) : Calls Tryz.prog 12 #[.pointer (some ⟨p, 0, none⟩)] w fun e w' => e = .returned (.int .i64 (Em.used H : Int)) ∧ w = w' := by
  obtain ⟨mb, L, rfl, h⟩ := h
  have c0 := top_cells h.top 1
  simp only [List.getElem?_toArray, List.getElem?_cons_succ, List.getElem?_cons_zero] at c0
  clear h
  go_enter Tryz.func12, Tryz.ntmps12
  go_wp2
  go_ret
  exact ⟨rfl, rfl⟩
theorem heapSize {p sz : Nat} {S : List Nat} {H : Em.Hp} (w : World) (h : HRep w p S sz H) : Calls Tryz.prog 27 #[.pointer (some ⟨p, 0, none⟩)] w fun e w' => e = .returned (.int .i64 (sz : Int)) ∧ w = w' := by
  obtain ⟨mb, L, rfl, h⟩ := h
  have c0 := top_cells h.top 0
  simp only [List.getElem?_toArray, List.getElem?_cons_succ, List.getElem?_cons_zero] at c0
  clear h
  go_enter Tryz.func27, Tryz.ntmps27
  go_wp2
  go_ret
  exact ⟨rfl, rfl⟩
theorem zeroBlk (w : World) : (zeroValue 54).run Tryz.prog w = .ok (.pointer none) w := by kernel_rfl
theorem heapAt {p mb sz : Nat} {L : List (Nat × Value)} {H : Em.Hp} (w : World) (h : HLies w p mb L sz H) (n : Int) (hn : (Lit.int .i64 n).wf = true) : Calls Tryz.prog 55 #[.pointer (some ⟨p, 0, none⟩), .int .i64 n] w fun e w' => e = .returned ((ptrAt L H n).getD (.pointer none)) ∧ w = w' := by
  have c0 := top_cells h.top 2
  simp only [List.getElem?_toArray, List.getElem?_cons_succ, List.getElem?_cons_zero] at c0
  have hlk := h.map.look (P := Tryz.prog) Tryz.underlying45 Tryz.underlying32 (zeroBlk w) n hn
  clear h hn
  go_enter Tryz.func55, Tryz.ntmps55
  go_wp2
  go_ret
  exact ⟨rfl, rfl⟩
theorem heapLen {p sz : Nat} {S : List Nat} {H : Em.Hp} (w : World) (h : HRep w p S sz H) (n : Int) (hn : (Lit.int .i64 n).wf = true) : Calls Tryz.prog 54 #[.pointer (some ⟨p, 0, none⟩), .int .i64 n] w fun e w' => e = .returned (.int .i64 ((Em.blk H n).2.length : Int)) ∧ w = w' := by
  obtain ⟨mb, L, rfl, h⟩ := h
  cases hi : Em.idx H n with
  | none =>
    obtain ⟨h1, h2⟩ := ptrAt_none (L := L) hi
    have H2 := hide h2
    clear h2
    go_enter Tryz.func54, Tryz.ntmps54
    go_wp2_with fail
    refine (heapAt w h n hn).mono ?_
    rintro e w' ⟨rfl, rfl⟩
    rw [h1, Option.getD_none]
    go_wp2
    go_ret
    exact ⟨by rw [H2.out]; rfl, rfl⟩
  | some i =>
    obtain ⟨x, b, hx, hb, h1, h2⟩ := ptrAt_some h.len hi
    have H2 := hide h2
    obtain ⟨g1, g2⟩ := h.part i x b hx hb
    obtain ⟨x1, x2⟩ := x
    obtain ⟨A, c, rfl⟩ := own_slice g2
    have c0 := top_cells g1 1
    simp only [List.getElem?_toArray, List.getElem?_cons_succ, List.getElem?_cons_zero] at c0
    clear h2 g1 g2
    go_enter Tryz.func54, Tryz.ntmps54
    go_wp2_with fail
    refine (heapAt w h n hn).mono ?_
    rintro e w' ⟨rfl, rfl⟩
    rw [h1, Option.getD_some]
    go_wp2
    go_ret
    exact ⟨by rw [H2.out]; rfl, rfl⟩
/-- What Set does. -/
def SetH (w : World) (p : Nat) (S : List Nat) (sz : Nat) (H : Em.Hp) (n k v : Int) (e : Ending) (w' : World) : Prop := match Em.put H n k v with
  | none => e = .returned (.bool false) ∧ w = w'
  | some H' => e = .returned (.bool true) ∧ HRep w' p S sz H' ∧ Frm (· ∈ S) w w'
theorem put_no {H : Em.Hp} {n k v : Int} (h : k < 0 ∨ ((Em.blk H n).2.length : Int) ≤ k) : Em.put H n k v = none := by
  unfold Em.put
  cases Em.idx H n with
  | none => rfl
  | some b => simp only; rw [if_pos h]
set_option maxHeartbeats 1000000 in
theorem heapSet {p sz : Nat} {S : List Nat} {H : Em.Hp} (w : World) (h : HRep w p S sz H) (n : Int) (hn : (Lit.int .i64 n).wf = true) (k v : Int) (hv : (Lit.int .i64 v).wf = true) : Calls Tryz.prog 33 #[.pointer (some ⟨p, 0, none⟩), .int .i64 n, .int .i64 k, .int .i64 v] w (SetH w p S sz H n k v) := by
  have h0 := h
  by_cases hk : k < 0
  · have hf := hide (put_no (H := H) (n := n) (v := v) (.inl hk))
    go_enter Tryz.func33, Tryz.ntmps33
    go_wp2
    go_ret
    unfold SetH
    rw [hf.out]
    exact ⟨rfl, rfl⟩
  · by_cases hk2 : ((Em.blk H n).2.length : Int) ≤ k
    · have hf := hide (put_no (H := H) (n := n) (v := v) (.inr hk2))
      go_enter Tryz.func33, Tryz.ntmps33
      go_wp2_with fail
      refine (heapLen w h n hn).mono ?_
      rintro e w' ⟨rfl, rfl⟩
      go_wp2
      go_ret
      unfold SetH
      rw [hf.out]
      exact ⟨rfl, rfl⟩
    · obtain ⟨j, rfl⟩ := Int.eq_ofNat_of_zero_le (show 0 ≤ k by omega)
      cases hi : Em.idx H n with
      | none =>
        obtain ⟨_, h2⟩ := ptrAt_none (L := []) hi
        rw [h2] at hk2
        simp at hk2
      | some i =>
        obtain ⟨mb, L, rfl, h⟩ := h
        obtain ⟨x, b, hx, hb, h1, h2⟩ := ptrAt_some h.len hi
        have hjl : j < b.2.length := by rw [h2] at hk2; omega
        have hf := hide (show Em.put H n (j : Int) v = some (Em.setF H i j v) from by
          unfold Em.put
          rw [hi]
          simp only
          rw [if_neg (by omega), Int.toNat_natCast])
        have HL := heapLen w h0 n hn
        rw [h2] at HL
        obtain ⟨g1, g2⟩ := h.part i x b hx hb
        obtain ⟨x1, x2⟩ := x
        have g20 := g2
        obtain ⟨_, ⟨_, h00⟩ | ⟨g, c, cur, rfl, _, gh, _, _, _, _⟩⟩ := g2
        · omega
        · have hfz := top_free gh j
          obtain ⟨hcs, -⟩ := Cs.of_own g20
          obtain ⟨A, c', e2, q1, q2, q3⟩ := hcs
          simp only [List.length_map] at e2 q1 q3
          injection e2 with e21 e22 e23
          subst e21 e23
          obtain ⟨ad, ead, hc⟩ := q3 (by omega)
          injection ead with ead
          subst ead
          have hcj := hc j (by omega)
          rw [add_pl] at hcj
          simp only [List.getElem_map] at hcj
          have c0 := top_cells g1 1
          simp only [List.getElem?_toArray, List.getElem?_cons_succ, List.getElem?_cons_zero] at c0
          have hset := h.set hx hb j v hv hjl
          have H1 := hide h1
          clear h2 g1 g20 hc q3 hk2 h1 hi hx hb e22 gh
          go_enter Tryz.func33, Tryz.ntmps33
          go_wp2_with fail
          refine HL.mono ?_
          rintro e w' ⟨rfl, rfl⟩
          go_wp2_with fail
          refine (heapAt w h n hn).mono ?_
          rintro e w' ⟨rfl, rfl⟩
          rw [H1.out, Option.getD_some]
          go_wp2
          go_ret
          unfold SetH
          rw [hf.out]
          exact ⟨rfl, ⟨mb, L, rfl, hset.1⟩, hset.2⟩
end Go.Proofs.YtoehaijmkmdggaaGreat
namespace Go.Proofs.YtoehaijmkmdggaaGreat
open Go.RowKit Go.Maps
set_option linter.unusedVariables false
set_option maxRecDepth 100000
/-- A block's parts, in new memory. -/
def NewPart (w : World) (B g : Nat) (b : Int × List Int) : Prop := ∃ u, HPart w (g, u) b ∧ B ≤ g ∧ ∀ k, u.ownBlock = some k → B ≤ k ∧ k ≠ g
theorem NewPart.box {w w' : World} {B g : Nat} {tag : Int} {fs : List Int} {u : Value} (h : w.ownsRow B 32 1 u fs.length (fs.map (Value.int .i64))) (hB : B ≤ w.heap.size) (hg : w.heap.size = g) (k : Keep (w.alloc (.cells #[.int .i64 tag, u] 57)) w') : NewPart w' B g (tag, fs) := by
  subst hg
  have hl := World.ownsRow.lt h
  refine ⟨u, ⟨(k.frm fun _ => False).heap (fun h => h) (heap_alloc_new w _), own_lower (own_keep (own_keep h ((Keep.rf w).al _)) k) (Nat.zero_le _)⟩, hB, fun q hq => ?_⟩
  have := hl q hq
  omega
theorem NewPart.frm {S : Nat → Prop} {w w' : World} {B g : Nat} {b : Int × List Int} (h : NewPart w B g b) (k : Frm S w w') (hs : ∀ q, B ≤ q → ¬ S q) : NewPart w' B g b := by
  obtain ⟨u, ⟨h1, h2⟩, h3, h4⟩ := h
  exact ⟨u, ⟨k.heap (hs g h3) h1, k.own h2 fun q hq => hs q (h4 q hq).1⟩, h3, h4⟩
theorem heap_setCell {w : World} {p j : Nat} {cs : Array Value} {t : TypeId} (h : w.heap[p]? = some (.cells cs t)) (u : Value) : (w.setCell ⟨p, j, none⟩ u).heap[p]? = some (.cells (cs.setIfInBounds j u) t) := by
  simp [World.setCell, Array.getElem?_modify, h]
/-- What Alloc does. -/
def AllocH (w : World) (p : Nat) (S : List Nat) (sz : Nat) (H : Em.Hp) (tag : Int) (fs : List Int) (e : Ending) (w' : World) : Prop := match Em.alloc sz H tag fs with
  | none => e = .returned (.tuple #[.int .i64 0, .bool false]) ∧ Keep w w'
  | some (n, H') => e = .returned (.tuple #[.int .i64 n, .bool true]) ∧ ∃ S', HRep w' p S' sz H' ∧ Frm (· ∈ S) w w' ∧ ∀ k ∈ S', k ∈ S ∨ w.heap.size ≤ k
theorem alloc_no {sz : Nat} {H : Em.Hp} {tag : Int} {fs : List Int} (h : tag < 1 ∨ 8 < tag ∨ (sz : Int) - Em.used H < 1 + fs.length) : Em.alloc sz H tag fs = none := if_pos h
theorem alloc_yes {sz : Nat} {H : Em.Hp} {tag : Int} {fs : List Int} (h : ¬ (tag < 1 ∨ 8 < tag ∨ (sz : Int) - Em.used H < 1 + fs.length)) : Em.alloc sz H tag fs = some (2 * (Em.used H : Int), H ++ [(tag, fs)]) := if_neg h
set_option maxHeartbeats 4000000 in
theorem heapAlloc {p sz : Nat} {S : List Nat} {H : Em.Hp} (w : World) (h : HRep w p S sz H) (tag : Int) (ht : (Lit.int .i64 tag).wf = true) (v : Value) (fs : List Int) (hv : Is w v fs) (hfs : ∀ f ∈ fs, (Lit.int .i64 f).wf = true) (hl : fs.length ≤ 1000000) : Calls Tryz.prog 8 #[.pointer (some ⟨p, 0, none⟩), .int .i64 tag, v] w (AllocH w p S sz H tag fs) := by
  have hv0 := hv
  obtain ⟨A, c, rfl, q1, q2, -⟩ := hv
  simp only [List.length_map] at q1 hv0 ⊢
  have h0 := h
  obtain ⟨mb, L, rfl, h⟩ := h
  have hsm := h.small
  have c0 := top_cells h.top 0
  have c1 := top_cells h.top 1
  simp only [List.getElem?_toArray, List.getElem?_cons_succ, List.getElem?_cons_zero] at c0 c1
  have hus : Em.used (H ++ [(tag, fs)]) = Em.used H + (1 + fs.length) := by rw [Em.used_append]; simp [Em.used]
  have HUS := hide hus
  clear hus
  have hwf : (Lit.int .i64 (2 * (Em.used H : Int))).wf = true := by
    simp [Lit.wf, IntKind.min, IntKind.max, IntKind.bits, IntKind.signed]
    omega
  have HNO := hide (alloc_no (sz := sz) (H := H) (tag := tag) (fs := fs))
  have HYES := hide (alloc_yes (sz := sz) (H := H) (tag := tag) (fs := fs))
  generalize hU : Em.used H = U at *
  have HU := hide hU
  clear hU
  go_enter Tryz.func8, Tryz.ntmps8
  go_wp2
  apply region_all (by kernel_rfl) Keep Keep krg ktg krg ktg (fun _ _ h => h) [some 9, some 10, some 11, some 12, some 13, some 14, some 15, some 16, some 17, some 18, some 19, some 20, some 21, some 22, some 23, some 24, some 25, some 26, some 27, some 28, some 29, some 30, some 31, some 32, some 33] [eqG _ , eqG _ , eqG _ , eqG _ , eqG _ , eqG _ , eqG _ , gnG _ _ , gnG _ _ , eqG _ , eqG _ , gnG _ _ , gnG _ _ , gnG _ _ , gnG _ _ , gnG _ _ , gnG _ _ , gnG _ _ , gnG _ _ , gnG _ _ , gnG _ _ , gnG _ _ , gnG _ _ , gnG _ _ , eqG _ ] [⟨[], [], true, false, false⟩, ⟨[0], [], true, false, false⟩, ⟨[1], [], true, false, false⟩, ⟨[2], [], true, false, false⟩, ⟨[2, 3], [], true, false, false⟩, ⟨[2, 4], [], true, false, false⟩, ⟨[5], [], true, false, false⟩, ⟨[6], [], true, false, false⟩, ⟨[6, 7], [], true, false, false⟩, ⟨[6, 8], [], true, false, false⟩, ⟨[9], [], true, false, false⟩, ⟨[10], [], true, false, false⟩, ⟨[10, 11], [], true, false, false⟩, ⟨[10, 12], [], true, false, false⟩, ⟨[10, 13], [], true, false, false⟩, ⟨[10], [], true, false, false⟩, ⟨[10, 15], [], true, false, false⟩, ⟨[10, 16], [], true, false, false⟩, ⟨[10, 17], [], true, false, false⟩, ⟨[10, 14, 18], [], true, false, false⟩, ⟨[10], [], true, false, false⟩, ⟨[10, 20], [], true, false, false⟩, ⟨[10, 21], [], true, false, false⟩, ⟨[10, 19, 22], [], true, false, false⟩, ⟨[10, 23], [], true, false, false⟩] [24] (by kernel_rfl) (by kernel_rfl) 
  · refine ⟨?_, ?_, ?_, ?_, ?_, ?_, ?_, ?_, ?_, ?_, ?_, ?_, ?_, ?_, ?_, ?_, ?_, ?_, ?_, ?_, ?_, ?_, ?_, ?_, ?_, trivial⟩ <;> (intro us W h9 hW hE hd hs K hK; obtain ⟨u0, u1, u2, u3, u4, u5, u6, u7, u8, u9, u10, u11, u12, u13, u14, u15, u16, u17, u18, u19, u20, u21, u22, u23, u24, rfl⟩ := rog 25 h9 rfl; clear h9; try simp only [DepG, AtG, and_true, relG, eqG, eqG1, eqG2, eqG3, gdG, gdG1, gnG, gnG1, List.getD_cons_zero, List.getD_cons_succ, List.getElem?_cons_succ, List.getElem?_cons_zero, Option.map_some, Option.getD_some, valsG, List.map_cons, List.map_nil, List.length_cons, List.length_nil] at hd)
    · ((try clear hd); clear hs; simp only [fillG, List.set_cons_zero, List.set_cons_succ]; refine want_n rfl ?_; go_wp2_with (first | fail); simp only [DoneG, fillG, List.set_cons_zero, List.set_cons_succ, relG, eqG, eqG1, eqG2, eqG3, gdG, gdG1, gnG, gnG1, List.getD_cons_zero, List.getD_cons_succ, List.getElem?_cons_succ, List.getElem?_cons_zero, Option.map_some, Option.getD_some, valsG, List.map_cons, List.map_nil, List.length_cons, List.length_nil]; exact ⟨_, rfl, (by first | with_reducible assumption | exact krg _ | exact Keep.al (krg _) _), fun _ _ => rfl⟩)
    · (have d0 := hd; clear hd; subst d0; clear hs; simp only [fillG, List.set_cons_zero, List.set_cons_succ]; refine want_n rfl ?_; go_wp2_with (first | fail); simp only [DoneG, fillG, List.set_cons_zero, List.set_cons_succ, relG, eqG, eqG1, eqG2, eqG3, gdG, gdG1, gnG, gnG1, List.getD_cons_zero, List.getD_cons_succ, List.getElem?_cons_succ, List.getElem?_cons_zero, Option.map_some, Option.getD_some, valsG, List.map_cons, List.map_nil, List.length_cons, List.length_nil]; exact ⟨_, rfl, (by first | with_reducible assumption | exact krg _ | exact Keep.al (krg _) _), fun _ _ => rfl⟩)
    · (have d1 := hd; clear hd; subst d1; clear hs; simp only [fillG, List.set_cons_zero, List.set_cons_succ]; refine want_n rfl ?_; go_wp2_with (first | fail); simp only [DoneG, fillG, List.set_cons_zero, List.set_cons_succ, relG, eqG, eqG1, eqG2, eqG3, gdG, gdG1, gnG, gnG1, List.getD_cons_zero, List.getD_cons_succ, List.getElem?_cons_succ, List.getElem?_cons_zero, Option.map_some, Option.getD_some, valsG, List.map_cons, List.map_nil, List.length_cons, List.length_nil]; exact ⟨_, rfl, (by first | with_reducible assumption | exact krg _ | exact Keep.al (krg _) _), fun _ _ => rfl⟩)
    · (have d2 := hd; clear hd; subst d2; clear hs; simp only [fillG, List.set_cons_zero, List.set_cons_succ]; refine want_y rfl ?_; go_wp2_with (first | fail); simp only [DoneG, fillG, List.set_cons_zero, List.set_cons_succ, relG, eqG, eqG1, eqG2, eqG3, gdG, gdG1, gnG, gnG1, List.getD_cons_zero, List.getD_cons_succ, List.getElem?_cons_succ, List.getElem?_cons_zero, Option.map_some, Option.getD_some, valsG, List.map_cons, List.map_nil, List.length_cons, List.length_nil]; exact ⟨_, rfl, (by first | with_reducible assumption | exact krg _ | exact Keep.al (krg _) _), fun _ _ => rfl⟩)
    · (obtain ⟨d2, d3⟩ := hd; subst d2; subst d3; clear hs; simp only [fillG, List.set_cons_zero, List.set_cons_succ]; refine want_y rfl ?_; go_wp2_with (first | fail); simp only [DoneG, fillG, List.set_cons_zero, List.set_cons_succ, relG, eqG, eqG1, eqG2, eqG3, gdG, gdG1, gnG, gnG1, List.getD_cons_zero, List.getD_cons_succ, List.getElem?_cons_succ, List.getElem?_cons_zero, Option.map_some, Option.getD_some, valsG, List.map_cons, List.map_nil, List.length_cons, List.length_nil]; exact ⟨_, rfl, (by first | with_reducible assumption | exact krg _ | exact Keep.al (krg _) _), fun _ _ => rfl⟩)
    · (obtain ⟨d2, d4⟩ := hd; subst d2; subst d4; clear hs; simp only [fillG, List.set_cons_zero, List.set_cons_succ]; refine want_n rfl ?_; go_wp2_with (first | fail); simp only [DoneG, fillG, List.set_cons_zero, List.set_cons_succ, relG, eqG, eqG1, eqG2, eqG3, gdG, gdG1, gnG, gnG1, List.getD_cons_zero, List.getD_cons_succ, List.getElem?_cons_succ, List.getElem?_cons_zero, Option.map_some, Option.getD_some, valsG, List.map_cons, List.map_nil, List.length_cons, List.length_nil]; exact ⟨_, rfl, (by first | with_reducible assumption | exact krg _ | exact Keep.al (krg _) _), fun _ _ => rfl⟩)
    · (have d5 := hd; clear hd; subst d5; clear hs; simp only [fillG, List.set_cons_zero, List.set_cons_succ]; refine want_n rfl ?_; go_wp2_with (first | fail); simp only [DoneG, fillG, List.set_cons_zero, List.set_cons_succ, relG, eqG, eqG1, eqG2, eqG3, gdG, gdG1, gnG, gnG1, List.getD_cons_zero, List.getD_cons_succ, List.getElem?_cons_succ, List.getElem?_cons_zero, Option.map_some, Option.getD_some, valsG, List.map_cons, List.map_nil, List.length_cons, List.length_nil]; exact ⟨_, rfl, (by first | with_reducible assumption | exact krg _ | exact Keep.al (krg _) _), fun _ _ => rfl⟩)
    · (have d6 := hd; clear hd; subst d6; clear hs; simp only [fillG, List.set_cons_zero, List.set_cons_succ]; refine want_b rfl (by rfl) (fun hg => ?_) (fun hg => ?_); (focus (have hG := hide hg; (try simp only [gd, hg, cond_true, Bool.and_self, Bool.true_and, Bool.and_true, cond_false, Bool.not_true, Bool.not_false]); go_wp2_with (first | fail); simp only [DoneG, fillG, List.set_cons_zero, List.set_cons_succ, relG, eqG, eqG1, eqG2, eqG3, gdG, gdG1, gnG, gnG1, List.getD_cons_zero, List.getD_cons_succ, List.getElem?_cons_succ, List.getElem?_cons_zero, Option.map_some, Option.getD_some, valsG, List.map_cons, List.map_nil, List.length_cons, List.length_nil]; exact ⟨_, rfl, (by first | with_reducible assumption | exact krg _ | exact Keep.al (krg _) _), fun _ _ => gd_f hG.out _⟩)); (focus (refine hK _ _ ?_; simp only [DoneG, fillG, List.set_cons_zero, List.set_cons_succ, relG, eqG, eqG1, eqG2, eqG3, gdG, gdG1, gnG, gnG1, List.getD_cons_zero, List.getD_cons_succ, List.getElem?_cons_succ, List.getElem?_cons_zero, Option.map_some, Option.getD_some, valsG, List.map_cons, List.map_nil, List.length_cons, List.length_nil]; exact ⟨undef, rfl, krg _, fun _ _ => gd_fn hg _⟩)))
    · (obtain ⟨d6, d7⟩ := hd; subst d6; subst d7; clear hs; simp only [fillG, List.set_cons_zero, List.set_cons_succ]; refine want_b rfl (by rfl) (fun hg => ?_) (fun hg => ?_); (focus (have hG := hide hg; (try simp only [gd, hg, cond_true, Bool.and_self, Bool.true_and, Bool.and_true, cond_false, Bool.not_true, Bool.not_false]); go_wp2_with (first | fail); simp only [DoneG, fillG, List.set_cons_zero, List.set_cons_succ, relG, eqG, eqG1, eqG2, eqG3, gdG, gdG1, gnG, gnG1, List.getD_cons_zero, List.getD_cons_succ, List.getElem?_cons_succ, List.getElem?_cons_zero, Option.map_some, Option.getD_some, valsG, List.map_cons, List.map_nil, List.length_cons, List.length_nil]; exact ⟨_, rfl, (by first | with_reducible assumption | exact krg _ | exact Keep.al (krg _) _), fun _ _ => gd_f hG.out _⟩)); (focus (refine hK _ _ ?_; simp only [DoneG, fillG, List.set_cons_zero, List.set_cons_succ, relG, eqG, eqG1, eqG2, eqG3, gdG, gdG1, gnG, gnG1, List.getD_cons_zero, List.getD_cons_succ, List.getElem?_cons_succ, List.getElem?_cons_zero, Option.map_some, Option.getD_some, valsG, List.map_cons, List.map_nil, List.length_cons, List.length_nil]; exact ⟨undef, rfl, krg _, fun _ _ => gd_fn hg _⟩)))
    · (obtain ⟨d6, d8⟩ := hd; subst d6; subst d8; clear hs; simp only [fillG, List.set_cons_zero, List.set_cons_succ]; refine want_n rfl ?_; refine wp_pick_or rfl rfl rfl ?_; refine hK _ _ ?_; simp only [DoneG, fillG, List.set_cons_zero, List.set_cons_succ, relG, eqG, eqG1, eqG2, eqG3, gdG, gdG1, gnG, gnG1, List.getD_cons_zero, List.getD_cons_succ, List.getElem?_cons_succ, List.getElem?_cons_zero, Option.map_some, Option.getD_some, valsG, List.map_cons, List.map_nil, List.length_cons, List.length_nil]; exact ⟨_, rfl, (by first | with_reducible assumption | exact krg _ | exact Keep.al (krg _) _), fun _ _ => rfl⟩)
    · (have d9 := hd; clear hd; subst d9; clear hs; simp only [fillG, List.set_cons_zero, List.set_cons_succ]; refine want_n rfl ?_; go_wp2_with (first | fail); simp only [DoneG, fillG, List.set_cons_zero, List.set_cons_succ, relG, eqG, eqG1, eqG2, eqG3, gdG, gdG1, gnG, gnG1, List.getD_cons_zero, List.getD_cons_succ, List.getElem?_cons_succ, List.getElem?_cons_zero, Option.map_some, Option.getD_some, valsG, List.map_cons, List.map_nil, List.length_cons, List.length_nil]; exact ⟨_, rfl, (by first | with_reducible assumption | exact krg _ | exact Keep.al (krg _) _), fun _ _ => rfl⟩)
    · (have d10 := hd; clear hd; subst d10; clear hs; simp only [fillG, List.set_cons_zero, List.set_cons_succ]; refine want_b rfl (by rfl) (fun hg => ?_) (fun hg => ?_); (focus (have hG := hide hg; (try simp only [gd, hg, cond_true, Bool.and_self, Bool.true_and, Bool.and_true, cond_false, Bool.not_true, Bool.not_false]); go_wp2_with (first | fail); simp only [DoneG, fillG, List.set_cons_zero, List.set_cons_succ, relG, eqG, eqG1, eqG2, eqG3, gdG, gdG1, gnG, gnG1, List.getD_cons_zero, List.getD_cons_succ, List.getElem?_cons_succ, List.getElem?_cons_zero, Option.map_some, Option.getD_some, valsG, List.map_cons, List.map_nil, List.length_cons, List.length_nil]; exact ⟨_, rfl, (by first | with_reducible assumption | exact krg _ | exact Keep.al (krg _) _), fun _ _ => gd_f hG.out _⟩)); (focus (refine hK _ _ ?_; simp only [DoneG, fillG, List.set_cons_zero, List.set_cons_succ, relG, eqG, eqG1, eqG2, eqG3, gdG, gdG1, gnG, gnG1, List.getD_cons_zero, List.getD_cons_succ, List.getElem?_cons_succ, List.getElem?_cons_zero, Option.map_some, Option.getD_some, valsG, List.map_cons, List.map_nil, List.length_cons, List.length_nil]; exact ⟨undef, rfl, krg _, fun _ _ => gd_fn hg _⟩)))
    · (obtain ⟨d10, d11⟩ := hd; subst d10; subst d11; clear hs; simp only [fillG, List.set_cons_zero, List.set_cons_succ]; refine want_b rfl (by rfl) (fun hg => ?_) (fun hg => ?_); (focus (have hG := hide hg; (try simp only [gd, hg, cond_true, Bool.and_self, Bool.true_and, Bool.and_true, cond_false, Bool.not_true, Bool.not_false]); go_wp2_with (first | fail); simp only [DoneG, fillG, List.set_cons_zero, List.set_cons_succ, relG, eqG, eqG1, eqG2, eqG3, gdG, gdG1, gnG, gnG1, List.getD_cons_zero, List.getD_cons_succ, List.getElem?_cons_succ, List.getElem?_cons_zero, Option.map_some, Option.getD_some, valsG, List.map_cons, List.map_nil, List.length_cons, List.length_nil]; exact ⟨_, rfl, (by first | with_reducible assumption | exact krg _ | exact Keep.al (krg _) _), fun _ _ => gd_f hG.out _⟩)); (focus (refine hK _ _ ?_; simp only [DoneG, fillG, List.set_cons_zero, List.set_cons_succ, relG, eqG, eqG1, eqG2, eqG3, gdG, gdG1, gnG, gnG1, List.getD_cons_zero, List.getD_cons_succ, List.getElem?_cons_succ, List.getElem?_cons_zero, Option.map_some, Option.getD_some, valsG, List.map_cons, List.map_nil, List.length_cons, List.length_nil]; exact ⟨undef, rfl, krg _, fun _ _ => gd_fn hg _⟩)))
    · (obtain ⟨d10, d12⟩ := hd; subst d10; subst d12; clear hs; simp only [fillG, List.set_cons_zero, List.set_cons_succ]; refine want_b rfl (by rfl) (fun hg => ?_) (fun hg => ?_); (focus (have hG := hide hg; (try simp only [gd, hg, cond_true, Bool.and_self, Bool.true_and, Bool.and_true, cond_false, Bool.not_true, Bool.not_false]); go_wp2_with (first | fail); simp only [DoneG, fillG, List.set_cons_zero, List.set_cons_succ, relG, eqG, eqG1, eqG2, eqG3, gdG, gdG1, gnG, gnG1, List.getD_cons_zero, List.getD_cons_succ, List.getElem?_cons_succ, List.getElem?_cons_zero, Option.map_some, Option.getD_some, valsG, List.map_cons, List.map_nil, List.length_cons, List.length_nil]; exact ⟨_, rfl, (by first | with_reducible assumption | exact krg _ | exact Keep.al (krg _) _), fun _ _ => gd_f hG.out _⟩)); (focus (refine hK _ _ ?_; simp only [DoneG, fillG, List.set_cons_zero, List.set_cons_succ, relG, eqG, eqG1, eqG2, eqG3, gdG, gdG1, gnG, gnG1, List.getD_cons_zero, List.getD_cons_succ, List.getElem?_cons_succ, List.getElem?_cons_zero, Option.map_some, Option.getD_some, valsG, List.map_cons, List.map_nil, List.length_cons, List.length_nil]; exact ⟨undef, rfl, krg _, fun _ _ => gd_fn hg _⟩)))
    · (obtain ⟨d10, d13⟩ := hd; subst d10; subst d13; clear hs; simp only [fillG, List.set_cons_zero, List.set_cons_succ]; have hKW := Keep.tr (Keep.dr (Keep.rf _)) (hE rfl); have c0 := Keep.cell hKW c0; have c1 := Keep.cell hKW c1; refine want_b rfl (by rfl) (fun hg => ?_) (fun hg => ?_); (focus (have hG := hide hg; (try simp only [gd, hg, cond_true, Bool.and_self, Bool.true_and, Bool.and_true, cond_false, Bool.not_true, Bool.not_false]); go_wp2_with (first | fail); simp only [DoneG, fillG, List.set_cons_zero, List.set_cons_succ, relG, eqG, eqG1, eqG2, eqG3, gdG, gdG1, gnG, gnG1, List.getD_cons_zero, List.getD_cons_succ, List.getElem?_cons_succ, List.getElem?_cons_zero, Option.map_some, Option.getD_some, valsG, List.map_cons, List.map_nil, List.length_cons, List.length_nil]; exact ⟨_, rfl, (by first | with_reducible assumption | exact krg _ | exact Keep.al (krg _) _), fun _ _ => gd_f hG.out _⟩)); (focus (refine hK _ _ ?_; simp only [DoneG, fillG, List.set_cons_zero, List.set_cons_succ, relG, eqG, eqG1, eqG2, eqG3, gdG, gdG1, gnG, gnG1, List.getD_cons_zero, List.getD_cons_succ, List.getElem?_cons_succ, List.getElem?_cons_zero, Option.map_some, Option.getD_some, valsG, List.map_cons, List.map_nil, List.length_cons, List.length_nil]; exact ⟨undef, rfl, krg _, fun _ _ => gd_fn hg _⟩)))
    · (have d10 := hd; clear hd; subst d10; clear hs; simp only [fillG, List.set_cons_zero, List.set_cons_succ]; refine want_b rfl (by rfl) (fun hg => ?_) (fun hg => ?_); (focus (have hG := hide hg; (try simp only [gd, hg, cond_true, Bool.and_self, Bool.true_and, Bool.and_true, cond_false, Bool.not_true, Bool.not_false]); go_wp2_with (first | fail); simp only [DoneG, fillG, List.set_cons_zero, List.set_cons_succ, relG, eqG, eqG1, eqG2, eqG3, gdG, gdG1, gnG, gnG1, List.getD_cons_zero, List.getD_cons_succ, List.getElem?_cons_succ, List.getElem?_cons_zero, Option.map_some, Option.getD_some, valsG, List.map_cons, List.map_nil, List.length_cons, List.length_nil]; exact ⟨_, rfl, (by first | with_reducible assumption | exact krg _ | exact Keep.al (krg _) _), fun _ _ => gd_f hG.out _⟩)); (focus (refine hK _ _ ?_; simp only [DoneG, fillG, List.set_cons_zero, List.set_cons_succ, relG, eqG, eqG1, eqG2, eqG3, gdG, gdG1, gnG, gnG1, List.getD_cons_zero, List.getD_cons_succ, List.getElem?_cons_succ, List.getElem?_cons_zero, Option.map_some, Option.getD_some, valsG, List.map_cons, List.map_nil, List.length_cons, List.length_nil]; exact ⟨undef, rfl, krg _, fun _ _ => gd_fn hg _⟩)))
    · (obtain ⟨d10, d15⟩ := hd; subst d10; subst d15; clear hs; simp only [fillG, List.set_cons_zero, List.set_cons_succ]; refine want_b rfl (by rfl) (fun hg => ?_) (fun hg => ?_); (focus (have hG := hide hg; (try simp only [gd, hg, cond_true, Bool.and_self, Bool.true_and, Bool.and_true, cond_false, Bool.not_true, Bool.not_false]); go_wp2_with (first | fail); simp only [DoneG, fillG, List.set_cons_zero, List.set_cons_succ, relG, eqG, eqG1, eqG2, eqG3, gdG, gdG1, gnG, gnG1, List.getD_cons_zero, List.getD_cons_succ, List.getElem?_cons_succ, List.getElem?_cons_zero, Option.map_some, Option.getD_some, valsG, List.map_cons, List.map_nil, List.length_cons, List.length_nil]; exact ⟨_, rfl, (by first | with_reducible assumption | exact krg _ | exact Keep.al (krg _) _), fun _ _ => gd_f hG.out _⟩)); (focus (refine hK _ _ ?_; simp only [DoneG, fillG, List.set_cons_zero, List.set_cons_succ, relG, eqG, eqG1, eqG2, eqG3, gdG, gdG1, gnG, gnG1, List.getD_cons_zero, List.getD_cons_succ, List.getElem?_cons_succ, List.getElem?_cons_zero, Option.map_some, Option.getD_some, valsG, List.map_cons, List.map_nil, List.length_cons, List.length_nil]; exact ⟨undef, rfl, krg _, fun _ _ => gd_fn hg _⟩)))
    · (obtain ⟨d10, d16⟩ := hd; subst d10; subst d16; clear hs; simp only [fillG, List.set_cons_zero, List.set_cons_succ]; refine want_b rfl (by rfl) (fun hg => ?_) (fun hg => ?_); (focus (have hG := hide hg; (try simp only [gd, hg, cond_true, Bool.and_self, Bool.true_and, Bool.and_true, cond_false, Bool.not_true, Bool.not_false]); go_wp2_with (first | fail); simp only [DoneG, fillG, List.set_cons_zero, List.set_cons_succ, relG, eqG, eqG1, eqG2, eqG3, gdG, gdG1, gnG, gnG1, List.getD_cons_zero, List.getD_cons_succ, List.getElem?_cons_succ, List.getElem?_cons_zero, Option.map_some, Option.getD_some, valsG, List.map_cons, List.map_nil, List.length_cons, List.length_nil]; exact ⟨_, rfl, (by first | with_reducible assumption | exact krg _ | exact Keep.al (krg _) _), fun _ _ => gd_f hG.out _⟩)); (focus (refine hK _ _ ?_; simp only [DoneG, fillG, List.set_cons_zero, List.set_cons_succ, relG, eqG, eqG1, eqG2, eqG3, gdG, gdG1, gnG, gnG1, List.getD_cons_zero, List.getD_cons_succ, List.getElem?_cons_succ, List.getElem?_cons_zero, Option.map_some, Option.getD_some, valsG, List.map_cons, List.map_nil, List.length_cons, List.length_nil]; exact ⟨undef, rfl, krg _, fun _ _ => gd_fn hg _⟩)))
    · (obtain ⟨d10, d17⟩ := hd; subst d10; subst d17; clear hs; simp only [fillG, List.set_cons_zero, List.set_cons_succ]; have hKW := Keep.tr (Keep.dr (Keep.rf _)) (hE rfl); have c0 := Keep.cell hKW c0; have c1 := Keep.cell hKW c1; refine want_b rfl (by rfl) (fun hg => ?_) (fun hg => ?_); (focus (have hG := hide hg; (try simp only [gd, hg, cond_true, Bool.and_self, Bool.true_and, Bool.and_true, cond_false, Bool.not_true, Bool.not_false]); go_wp2_with (first | fail); simp only [DoneG, fillG, List.set_cons_zero, List.set_cons_succ, relG, eqG, eqG1, eqG2, eqG3, gdG, gdG1, gnG, gnG1, List.getD_cons_zero, List.getD_cons_succ, List.getElem?_cons_succ, List.getElem?_cons_zero, Option.map_some, Option.getD_some, valsG, List.map_cons, List.map_nil, List.length_cons, List.length_nil]; exact ⟨_, rfl, (by first | with_reducible assumption | exact krg _ | exact Keep.al (krg _) _), fun _ _ => gd_f hG.out _⟩)); (focus (refine hK _ _ ?_; simp only [DoneG, fillG, List.set_cons_zero, List.set_cons_succ, relG, eqG, eqG1, eqG2, eqG3, gdG, gdG1, gnG, gnG1, List.getD_cons_zero, List.getD_cons_succ, List.getElem?_cons_succ, List.getElem?_cons_zero, Option.map_some, Option.getD_some, valsG, List.map_cons, List.map_nil, List.length_cons, List.length_nil]; exact ⟨undef, rfl, krg _, fun _ _ => gd_fn hg _⟩)))
    · (obtain ⟨d10, d14, d18⟩ := hd; subst d10; subst d14; subst d18; clear hs; simp only [fillG, List.set_cons_zero, List.set_cons_succ]; refine want_b rfl (by rfl) (fun hg => ?_) (fun hg => ?_); (focus (have hG := hide hg; (try simp only [gd, hg, cond_true, Bool.and_self, Bool.true_and, Bool.and_true, cond_false, Bool.not_true, Bool.not_false]); go_wp2_with (first | fail); simp only [DoneG, fillG, List.set_cons_zero, List.set_cons_succ, relG, eqG, eqG1, eqG2, eqG3, gdG, gdG1, gnG, gnG1, List.getD_cons_zero, List.getD_cons_succ, List.getElem?_cons_succ, List.getElem?_cons_zero, Option.map_some, Option.getD_some, valsG, List.map_cons, List.map_nil, List.length_cons, List.length_nil]; exact ⟨_, rfl, (by first | with_reducible assumption | exact krg _ | exact Keep.al (krg _) _), fun _ _ => gd_f hG.out _⟩)); (focus (refine hK _ _ ?_; simp only [DoneG, fillG, List.set_cons_zero, List.set_cons_succ, relG, eqG, eqG1, eqG2, eqG3, gdG, gdG1, gnG, gnG1, List.getD_cons_zero, List.getD_cons_succ, List.getElem?_cons_succ, List.getElem?_cons_zero, Option.map_some, Option.getD_some, valsG, List.map_cons, List.map_nil, List.length_cons, List.length_nil]; exact ⟨undef, rfl, krg _, fun _ _ => gd_fn hg _⟩)))
    · (have d10 := hd; clear hd; subst d10; clear hs; simp only [fillG, List.set_cons_zero, List.set_cons_succ]; refine want_b rfl (by rfl) (fun hg => ?_) (fun hg => ?_); (focus (have hG := hide hg; (try simp only [gd, hg, cond_true, Bool.and_self, Bool.true_and, Bool.and_true, cond_false, Bool.not_true, Bool.not_false]); go_wp2_with (first | fail); simp only [DoneG, fillG, List.set_cons_zero, List.set_cons_succ, relG, eqG, eqG1, eqG2, eqG3, gdG, gdG1, gnG, gnG1, List.getD_cons_zero, List.getD_cons_succ, List.getElem?_cons_succ, List.getElem?_cons_zero, Option.map_some, Option.getD_some, valsG, List.map_cons, List.map_nil, List.length_cons, List.length_nil]; exact ⟨_, rfl, (by first | with_reducible assumption | exact krg _ | exact Keep.al (krg _) _), fun _ _ => gd_f hG.out _⟩)); (focus (refine hK _ _ ?_; simp only [DoneG, fillG, List.set_cons_zero, List.set_cons_succ, relG, eqG, eqG1, eqG2, eqG3, gdG, gdG1, gnG, gnG1, List.getD_cons_zero, List.getD_cons_succ, List.getElem?_cons_succ, List.getElem?_cons_zero, Option.map_some, Option.getD_some, valsG, List.map_cons, List.map_nil, List.length_cons, List.length_nil]; exact ⟨undef, rfl, krg _, fun _ _ => gd_fn hg _⟩)))
    · (obtain ⟨d10, d20⟩ := hd; subst d10; subst d20; clear hs; simp only [fillG, List.set_cons_zero, List.set_cons_succ]; have hKW := Keep.tr (Keep.dr (Keep.rf _)) (hE rfl); have c0 := Keep.cell hKW c0; have c1 := Keep.cell hKW c1; refine want_b rfl (by rfl) (fun hg => ?_) (fun hg => ?_); (focus (have hG := hide hg; (try simp only [gd, hg, cond_true, Bool.and_self, Bool.true_and, Bool.and_true, cond_false, Bool.not_true, Bool.not_false]); go_wp2_with (first | fail); simp only [DoneG, fillG, List.set_cons_zero, List.set_cons_succ, relG, eqG, eqG1, eqG2, eqG3, gdG, gdG1, gnG, gnG1, List.getD_cons_zero, List.getD_cons_succ, List.getElem?_cons_succ, List.getElem?_cons_zero, Option.map_some, Option.getD_some, valsG, List.map_cons, List.map_nil, List.length_cons, List.length_nil]; exact ⟨_, rfl, (by first | with_reducible assumption | exact krg _ | exact Keep.al (krg _) _), fun _ _ => gd_f hG.out _⟩)); (focus (refine hK _ _ ?_; simp only [DoneG, fillG, List.set_cons_zero, List.set_cons_succ, relG, eqG, eqG1, eqG2, eqG3, gdG, gdG1, gnG, gnG1, List.getD_cons_zero, List.getD_cons_succ, List.getElem?_cons_succ, List.getElem?_cons_zero, Option.map_some, Option.getD_some, valsG, List.map_cons, List.map_nil, List.length_cons, List.length_nil]; exact ⟨undef, rfl, krg _, fun _ _ => gd_fn hg _⟩)))
    · (obtain ⟨d10, d21⟩ := hd; subst d10; subst d21; clear hs; simp only [fillG, List.set_cons_zero, List.set_cons_succ]; refine want_b rfl (by rfl) (fun hg => ?_) (fun hg => ?_); (focus (have hG := hide hg; (try simp only [gd, hg, cond_true, Bool.and_self, Bool.true_and, Bool.and_true, cond_false, Bool.not_true, Bool.not_false]); go_wp2_with (first | fail); simp only [DoneG, fillG, List.set_cons_zero, List.set_cons_succ, relG, eqG, eqG1, eqG2, eqG3, gdG, gdG1, gnG, gnG1, List.getD_cons_zero, List.getD_cons_succ, List.getElem?_cons_succ, List.getElem?_cons_zero, Option.map_some, Option.getD_some, valsG, List.map_cons, List.map_nil, List.length_cons, List.length_nil]; exact ⟨_, rfl, (by first | with_reducible assumption | exact krg _ | exact Keep.al (krg _) _), fun _ _ => gd_f hG.out _⟩)); (focus (refine hK _ _ ?_; simp only [DoneG, fillG, List.set_cons_zero, List.set_cons_succ, relG, eqG, eqG1, eqG2, eqG3, gdG, gdG1, gnG, gnG1, List.getD_cons_zero, List.getD_cons_succ, List.getElem?_cons_succ, List.getElem?_cons_zero, Option.map_some, Option.getD_some, valsG, List.map_cons, List.map_nil, List.length_cons, List.length_nil]; exact ⟨undef, rfl, krg _, fun _ _ => gd_fn hg _⟩)))
    · (obtain ⟨d10, d19, d22⟩ := hd; subst d10; subst d19; subst d22; clear hs; simp only [fillG, List.set_cons_zero, List.set_cons_succ]; refine want_b rfl (by rfl) (fun hg => ?_) (fun hg => ?_); (focus (have hG := hide hg; (try simp only [gd, hg, cond_true, Bool.and_self, Bool.true_and, Bool.and_true, cond_false, Bool.not_true, Bool.not_false]); go_wp2_with (first | fail); simp only [DoneG, fillG, List.set_cons_zero, List.set_cons_succ, relG, eqG, eqG1, eqG2, eqG3, gdG, gdG1, gnG, gnG1, List.getD_cons_zero, List.getD_cons_succ, List.getElem?_cons_succ, List.getElem?_cons_zero, Option.map_some, Option.getD_some, valsG, List.map_cons, List.map_nil, List.length_cons, List.length_nil]; exact ⟨_, rfl, (by first | with_reducible assumption | exact krg _ | exact Keep.al (krg _) _), fun _ _ => gd_f hG.out _⟩)); (focus (refine hK _ _ ?_; simp only [DoneG, fillG, List.set_cons_zero, List.set_cons_succ, relG, eqG, eqG1, eqG2, eqG3, gdG, gdG1, gnG, gnG1, List.getD_cons_zero, List.getD_cons_succ, List.getElem?_cons_succ, List.getElem?_cons_zero, Option.map_some, Option.getD_some, valsG, List.map_cons, List.map_nil, List.length_cons, List.length_nil]; exact ⟨undef, rfl, krg _, fun _ _ => gd_fn hg _⟩)))
    · (obtain ⟨d10, d23⟩ := hd; subst d10; subst d23; clear hs; simp only [fillG, List.set_cons_zero, List.set_cons_succ]; refine want_n rfl ?_; refine wp_pick_or rfl rfl rfl ?_; refine hK _ _ ?_; simp only [DoneG, fillG, List.set_cons_zero, List.set_cons_succ, relG, eqG, eqG1, eqG2, eqG3, gdG, gdG1, gnG, gnG1, List.getD_cons_zero, List.getD_cons_succ, List.getElem?_cons_succ, List.getElem?_cons_zero, Option.map_some, Option.getD_some, valsG, List.map_cons, List.map_nil, List.length_cons, List.length_nil]; exact ⟨_, rfl, (by first | with_reducible assumption | exact krg _ | exact Keep.al (krg _) _), fun _ _ => rfl⟩)
  (intro us W1 h9 hW hE hA; obtain ⟨u0, u1, u2, u3, u4, u5, u6, u7, u8, u9, u10, u11, u12, u13, u14, u15, u16, u17, u18, u19, u20, u21, u22, u23, u24, rfl⟩ := rog 25 h9 rfl; clear h9; simp only [AllG, AtG, and_true, relG, eqG, eqG1, eqG2, eqG3, gdG, gdG1, gnG, gnG1, List.getD_cons_zero, List.getD_cons_succ, List.getElem?_cons_succ, List.getElem?_cons_zero, Option.map_some, Option.getD_some, valsG, List.map_cons, List.map_nil, List.length_cons, List.length_nil] at hA; have d24 := hA; clear hA; subst d24; simp only [fillG, List.set_cons_zero, List.set_cons_succ]; have k1 := Keep.tr (Keep.dr (Keep.rf _)) hW; clear hW hE)
  have c11 := Keep.cell k1 c1
  have c22 : W1.cell? ⟨p, 2, none⟩ = some (.map (some mb)) := Keep.cell k1 (top_cells h.top 2)
  have hv1 := hv0.keep k1
  clear c0 c1
  by_cases hC : tag < 1 ∨ 8 < tag ∨ (sz : Int) - (U : Int) < 1 + (fs.length : Int)
  · have f1 : ((tag < 1 ∨ 8 < tag) ∨ (sz : Int) - (U : Int) < 1 + (fs.length : Int)) := by omega
    clear hC
    go_wp2
    go_ret2
    unfold AllocH
    rw [HNO.out (by omega)]
    exact ⟨rfl, k1⟩
  · have f1 : ¬ ((tag < 1 ∨ 8 < tag) ∨ (sz : Int) - (U : Int) < 1 + (fs.length : Int)) := by omega
    have HC := hide hC
    clear hC
    go_wp2
    apply region_last 10 _ (by kernel_rfl) Keep Keep krg ktg krg ktg (fun _ _ h => h) [some 39, some 40, some 41, some 42, some 43, some 44, some 45, some 46, some 47, some 48, none] [eqG _ , eqG _ , eqG _ , eqG _ , eqG _ , eqG _ , eqG _ , fun us W v => ∃ A c, v = .slice A fs.length c ∧ W.ownsRow w.heap.size 32 1 (.slice A fs.length c) fs.length (fs.map (Value.int .i64)), fun us _ v => v = .agg #[.int .i64 tag, (us.getD 1 undef)], fun us W v => ∃ r, v = .pointer (some ⟨r, 0, none⟩) ∧ NewPart W w.heap.size r (tag, fs), fun _ _ _ => True] [⟨[], [], true, false, false⟩, ⟨[0], [], true, false, false⟩, ⟨[1], [], true, false, false⟩, ⟨[2], [], true, false, false⟩, ⟨[], [], true, false, false⟩, ⟨[], [], true, false, false⟩, ⟨[], [], true, false, false⟩, ⟨[6], [], true, false, false⟩, ⟨[5, 7], [], true, false, false⟩, ⟨[7, 8], [], true, false, false⟩, ⟨[3, 4, 9], [], true, false, false⟩] [3, 4, 7, 9] (by kernel_rfl) (by kernel_rfl) (by kernel_rfl) rfl (by kernel_rfl)
    · refine ⟨?_, ?_, ?_, ?_, ?_, ?_, ?_, ?_, ?_, ?_, trivial⟩ <;> (intro us W h9 hW hE hd hs K hK; obtain ⟨u0, u1, u2, u3, u4, u5, u6, u7, u8, u9, u10, rfl⟩ := rog 11 h9 rfl; clear h9; try simp only [DepG, AtG, and_true, relG, eqG, eqG1, eqG2, eqG3, gdG, gdG1, gnG, gnG1, List.getD_cons_zero, List.getD_cons_succ, List.getElem?_cons_succ, List.getElem?_cons_zero, Option.map_some, Option.getD_some, valsG, List.map_cons, List.map_nil, List.length_cons, List.length_nil] at hd)
      · ((try clear hd); clear hs; simp only [fillG, List.set_cons_zero, List.set_cons_succ]; refine want_n rfl ?_; go_wp2_with (first | fail); simp only [DoneG, fillG, List.set_cons_zero, List.set_cons_succ, relG, eqG, eqG1, eqG2, eqG3, gdG, gdG1, gnG, gnG1, List.getD_cons_zero, List.getD_cons_succ, List.getElem?_cons_succ, List.getElem?_cons_zero, Option.map_some, Option.getD_some, valsG, List.map_cons, List.map_nil, List.length_cons, List.length_nil]; exact ⟨_, rfl, (by first | with_reducible assumption | exact krg _ | exact Keep.al (krg _) _), fun _ _ => rfl⟩)
      · (have d0 := hd; clear hd; subst d0; clear hs; simp only [fillG, List.set_cons_zero, List.set_cons_succ]; refine want_n rfl ?_; go_wp2_with (first | fail); simp only [DoneG, fillG, List.set_cons_zero, List.set_cons_succ, relG, eqG, eqG1, eqG2, eqG3, gdG, gdG1, gnG, gnG1, List.getD_cons_zero, List.getD_cons_succ, List.getElem?_cons_succ, List.getElem?_cons_zero, Option.map_some, Option.getD_some, valsG, List.map_cons, List.map_nil, List.length_cons, List.length_nil]; exact ⟨_, rfl, (by first | with_reducible assumption | exact krg _ | exact Keep.al (krg _) _), fun _ _ => rfl⟩)
      · (have d1 := hd; clear hd; subst d1; clear hs; simp only [fillG, List.set_cons_zero, List.set_cons_succ]; refine want_n rfl ?_; go_wp2_with (first | fail); simp only [DoneG, fillG, List.set_cons_zero, List.set_cons_succ, relG, eqG, eqG1, eqG2, eqG3, gdG, gdG1, gnG, gnG1, List.getD_cons_zero, List.getD_cons_succ, List.getElem?_cons_succ, List.getElem?_cons_zero, Option.map_some, Option.getD_some, valsG, List.map_cons, List.map_nil, List.length_cons, List.length_nil]; exact ⟨_, rfl, (by first | with_reducible assumption | exact krg _ | exact Keep.al (krg _) _), fun _ _ => rfl⟩)
      · (have d2 := hd; clear hd; subst d2; clear hs; simp only [fillG, List.set_cons_zero, List.set_cons_succ]; have hKW := Keep.tr (Keep.dr (Keep.rf _)) (hE rfl); have c11 := Keep.cell hKW c11; have c22 := Keep.cell hKW c22; refine want_n rfl ?_; go_wp2_with (first | fail); simp only [DoneG, fillG, List.set_cons_zero, List.set_cons_succ, relG, eqG, eqG1, eqG2, eqG3, gdG, gdG1, gnG, gnG1, List.getD_cons_zero, List.getD_cons_succ, List.getElem?_cons_succ, List.getElem?_cons_zero, Option.map_some, Option.getD_some, valsG, List.map_cons, List.map_nil, List.length_cons, List.length_nil]; exact ⟨_, rfl, (by first | with_reducible assumption | exact krg _ | exact Keep.al (krg _) _), fun _ _ => rfl⟩)
      · ((try clear hd); clear hs; simp only [fillG, List.set_cons_zero, List.set_cons_succ]; refine want_n rfl ?_; go_wp2_with (first | fail); simp only [DoneG, fillG, List.set_cons_zero, List.set_cons_succ, relG, eqG, eqG1, eqG2, eqG3, gdG, gdG1, gnG, gnG1, List.getD_cons_zero, List.getD_cons_succ, List.getElem?_cons_succ, List.getElem?_cons_zero, Option.map_some, Option.getD_some, valsG, List.map_cons, List.map_nil, List.length_cons, List.length_nil]; exact ⟨_, rfl, (by first | with_reducible assumption | exact krg _ | exact Keep.al (krg _) _), fun _ _ => rfl⟩)
      · ((try clear hd); clear hs; simp only [fillG, List.set_cons_zero, List.set_cons_succ]; refine want_n rfl ?_; go_wp2_with (first | fail); simp only [DoneG, fillG, List.set_cons_zero, List.set_cons_succ, relG, eqG, eqG1, eqG2, eqG3, gdG, gdG1, gnG, gnG1, List.getD_cons_zero, List.getD_cons_succ, List.getElem?_cons_succ, List.getElem?_cons_zero, Option.map_some, Option.getD_some, valsG, List.map_cons, List.map_nil, List.length_cons, List.length_nil]; exact ⟨_, rfl, (by first | with_reducible assumption | exact krg _ | exact Keep.al (krg _) _), fun _ _ => rfl⟩)
      · ((try clear hd); clear hs; simp only [fillG, List.set_cons_zero, List.set_cons_succ]; refine want_n rfl ?_; go_wp2_with (first | fail); simp only [DoneG, fillG, List.set_cons_zero, List.set_cons_succ, relG, eqG, eqG1, eqG2, eqG3, gdG, gdG1, gnG, gnG1, List.getD_cons_zero, List.getD_cons_succ, List.getElem?_cons_succ, List.getElem?_cons_zero, Option.map_some, Option.getD_some, valsG, List.map_cons, List.map_nil, List.length_cons, List.length_nil]; exact ⟨_, rfl, (by first | with_reducible assumption | exact krg _ | exact Keep.al (krg _) _), fun _ _ => rfl⟩)
      · (have d6 := hd; clear hd; subst d6; clear hs; simp only [fillG, List.set_cons_zero, List.set_cons_succ]; have hKW := Keep.tr (Keep.dr (Keep.rf _)) (hE rfl); have c11 := Keep.cell hKW c11; have c22 := Keep.cell hKW c22; refine want_n rfl ?_; go_wp2_with (first | (go_at_call 15; refine (cloneW _ fs _ (hv1.keep hKW) hl).mono ?_; rintro e w9 ⟨A9, c9, rfl, ho9, hk9⟩) | fail); simp only [DoneG, fillG, List.set_cons_zero, List.set_cons_succ, relG, eqG, eqG1, eqG2, eqG3, gdG, gdG1, gnG, gnG1, List.getD_cons_zero, List.getD_cons_succ, List.getElem?_cons_succ, List.getElem?_cons_zero, Option.map_some, Option.getD_some, valsG, List.map_cons, List.map_nil, List.length_cons, List.length_nil]; exact ⟨_, rfl, (by first | with_reducible assumption | exact krg _ | exact Keep.al (krg _) _), fun W9 hk9 => ⟨A9, c9, rfl, own_keep (own_lower ho9 (Below.size (Keep.tr k1 hKW))) hk9⟩⟩)
      · (obtain ⟨d5, d7⟩ := hd; subst d5; obtain ⟨A7, c7, rfl, o7⟩ := d7; clear hs; simp only [fillG, List.set_cons_zero, List.set_cons_succ]; have hKW := Keep.tr (Keep.dr (Keep.rf _)) (hE rfl); have c11 := Keep.cell hKW c11; have c22 := Keep.cell hKW c22; refine want_n rfl ?_; go_wp2_with (first | fail); simp only [DoneG, fillG, List.set_cons_zero, List.set_cons_succ, relG, eqG, eqG1, eqG2, eqG3, gdG, gdG1, gnG, gnG1, List.getD_cons_zero, List.getD_cons_succ, List.getElem?_cons_succ, List.getElem?_cons_zero, Option.map_some, Option.getD_some, valsG, List.map_cons, List.map_nil, List.length_cons, List.length_nil]; exact ⟨_, rfl, (by first | with_reducible assumption | exact krg _ | exact Keep.al (krg _) _), fun _ _ => rfl⟩)
      · (obtain ⟨d7, d8⟩ := hd; obtain ⟨A7, c7, rfl, o7⟩ := d7; subst d8; clear hs; simp only [fillG, List.set_cons_zero, List.set_cons_succ]; have hKW := Keep.tr (Keep.dr (Keep.rf _)) (hE rfl); have c11 := Keep.cell hKW c11; have c22 := Keep.cell hKW c22; refine want_n rfl ?_; go_wp2_with (first | fail); simp only [DoneG, fillG, List.set_cons_zero, List.set_cons_succ, relG, eqG, eqG1, eqG2, eqG3, gdG, gdG1, gnG, gnG1, List.getD_cons_zero, List.getD_cons_succ, List.getElem?_cons_succ, List.getElem?_cons_zero, Option.map_some, Option.getD_some, valsG, List.map_cons, List.map_nil, List.length_cons, List.length_nil]; exact ⟨_, rfl, (by first | with_reducible assumption | exact krg _ | exact Keep.al (krg _) _), fun W9 hk9 => ⟨_, rfl, NewPart.box o7 (Below.size (Keep.tr k1 hKW)) rfl hk9⟩⟩)
    (intro us W2 h9 hW hE hA hl9; obtain ⟨u0, u1, u2, u3, u4, u5, u6, u7, u8, u9, u10, rfl⟩ := rog 11 h9 rfl; clear h9; clear hl9; simp only [AllG, AtG, and_true, relG, eqG, eqG1, eqG2, eqG3, gdG, gdG1, gnG, gnG1, List.getD_cons_zero, List.getD_cons_succ, List.getElem?_cons_succ, List.getElem?_cons_zero, Option.map_some, Option.getD_some, valsG, List.map_cons, List.map_nil, List.length_cons, List.length_nil] at hA; obtain ⟨d3, d4, d7, d9⟩ := hA; subst d3; subst d4; obtain ⟨A7, c7, rfl, o7⟩ := d7; obtain ⟨r9, rfl, d9⟩ := d9; simp only [fillG, List.set_cons_zero, List.set_cons_succ]; have k2 := Keep.tr (Keep.dr (Keep.rf _)) hW; clear hW hE; refine want_n rfl ?_)
    have hKW2 := Keep.tr k1 k2
    have hmap : MapF _ mb (ptrAt L H) := h.map.frm (hKW2.frm fun _ => False) fun h => h
    obtain ⟨w3, hu, hm3, hf3⟩ := hmap.put (P := Tryz.prog) Tryz.underlying45 Tryz.underlying32 (2 * (U : Int)) hwf (by rw [← HU.out]; exact (ptrAt_none (Em.idx_new H)).1) (.pointer (some ⟨r9, 0, none⟩))
    clear hmap
    have hnd := h.nodup
    simp only [List.nodup_cons, List.mem_cons, not_or] at hnd
    have hpm : ¬ p = mb := hnd.1.1
    have top3 := hf3.heap (S := (· = mb)) hpm ((hKW2.frm fun _ => False).heap (fun h => h) h.top)
    have c33 : w3.cell? ⟨p, 1, none⟩ = some (.int .i64 (U : Int)) := by
      rw [← HU.out]
      exact top_cells top3 1
    have hfz := top_free top3 1
    have T4 := hide (heap_setCell top3 (j := 1) (.int .i64 ((U : Int) + (1 + (fs.length : Int)))))
    clear hnd top3
    go_wp2
    go_ret2
    unfold AllocH
    rw [HYES.out HC.out]
    have hF4 : Frm (fun k => k = p ∨ k = mb) w (w3.setCell ⟨p, 1, none⟩ (.int .i64 ((U : Int) + (1 + (fs.length : Int))))) := Frm.st ((hKW2.frm _).tr (hf3.mono fun _ _ e => .inr e)) (.inl (.inl rfl)) _
    have hg4 : Frm (· = p) w3 (w3.setCell ⟨p, 1, none⟩ (.int .i64 ((U : Int) + (1 + (fs.length : Int))))) := Frm.st (p := ⟨p, 1, none⟩) (Frm.rf (· = p) _) (.inl rfl) _
    have hlt := h.lt
    have hpl := hlt p (by simp)
    have hml := hlt mb (by simp)
    have d10 := (d9.frm hf3 (fun q hq e => by omega)).frm hg4 (fun q hq e => by omega)
    obtain ⟨u, hp1, hp2, hp3⟩ := d10
    refine ⟨rfl, p :: mb :: foot (L ++ [(r9, u)]), ⟨mb, L ++ [(r9, u)], rfl, ?_⟩, ?_, ?_⟩
    · refine h.more ht hfs (by rw [HU.out]; have := HC.out; omega) hF4 ?_ ?_ hp1 hp2 hp3
      · rw [T4.out, HUS.out]
        simp
      · rw [HU.out]
        exact hm3.frm hg4 (fun e => hpm e.symm)
    · exact hF4.mono fun k _ e => by rcases e with rfl | rfl <;> simp
    · intro k hk
      simp only [foot_append, List.mem_cons, List.mem_append] at hk ⊢
      rcases hk with rfl | rfl | hk | hk
      · exact .inl (.inl rfl)
      · exact .inl (.inr (.inl rfl))
      · exact .inl (.inr (.inr hk))
      · right
        simp only [foot, List.flatMap_cons, List.flatMap_nil, List.append_nil, List.mem_cons] at hk
        rcases hk with rfl | hk
        · exact hp2
        · exact (hp3 k (by simpa using hk)).1
end Go.Proofs.YtoehaijmkmdggaaGreat
namespace Go.Proofs.YtoehaijmkmdggaaGreat
open Go.RowKit Go.Maps
set_option linter.unusedVariables false
set_option maxRecDepth 100000
theorem AllocH.yes {w w' : World} {p sz : Nat} {S : List Nat} {H : Em.Hp} {tag : Int} {fs : List Int} {e : Ending} {n : Int} {H' : Em.Hp} (h : AllocH w p S sz H tag fs e w') (ha : Em.alloc sz H tag fs = some (n, H')) :
    e = .returned (.tuple #[.int .i64 n, .bool true]) ∧ ∃ S', HRep w' p S' sz H' ∧ Frm (· ∈ S) w w' ∧ ∀ k ∈ S', k ∈ S ∨ w.heap.size ≤ k := by
  unfold AllocH at h
  rw [ha] at h
  exact h
theorem AllocH.no {w w' : World} {p sz : Nat} {S : List Nat} {H : Em.Hp} {tag : Int} {fs : List Int} {e : Ending} (h : AllocH w p S sz H tag fs e w') (ha : Em.alloc sz H tag fs = none) :
    e = .returned (.tuple #[.int .i64 0, .bool false]) ∧ Keep w w' := by
  unfold AllocH at h
  rw [ha] at h
  exact h
theorem heap_set {w : World} {p j : Nat} {cs : Array Value} {t : TypeId} (h : w.heap[p]? = some (.cells cs t)) (u : Value) : (w.setCell ⟨p, j, none⟩ u).heap[p]? = some (.cells (cs.setIfInBounds j u) t) := by
  simp [World.setCell, Array.getElem?_modify, h]
end Go.Proofs.YtoehaijmkmdggaaGreat
