/- A drawing in memory. -/
import Derived.Test.YtilhglnfjaablaaDrawQ
import Derived.Test.YtilhglnfjaablaaRefR
import Derived.Test.YtilhglnfjaablaaLibR
namespace Go.Proofs.Ytilhglnfjaablaa
open Go.RowKit Go.Maps
set_option linter.unusedVariables false
def refCells (r : Bool × Int) : List Value := [.bool r.1, .int .i64 r.2]
def blkCells (it : Em.Blk × Value) : List Value := [.int .i64 it.1.tag, .string (str it.1.str), it.2]
theorem flat_set {its : List (Em.Blk × Value)} {i j : Nat} {it it' : Em.Blk × Value} {u : Value} (hi : its[i]? = some it) (he : blkCells it' = (blkCells it).set j u) (hj : j < 3) : (its.map blkCells).flatten.set (i * 3 + j) u = ((its.set i it').map blkCells).flatten := by
  induction its generalizing i with
  | nil => cases hi
  | cons a t ih =>
    cases i with
    | zero =>
      injection hi with hi
      subst hi
      rw [List.map_cons, List.flatten_cons, List.set_append_left _ _ (by simp [blkCells]; omega), List.set_cons_zero, List.map_cons, List.flatten_cons, he, Nat.zero_mul, Nat.zero_add]
    | succ i =>
      rw [List.map_cons, List.flatten_cons, List.set_append_right _ _ (by simp [blkCells]; omega), List.set_cons_succ, List.map_cons, List.flatten_cons, show (i + 1) * 3 + j - (blkCells a).length = i * 3 + j by simp [blkCells]; omega, ih hi]
/-- The blocks of memory in which a drawing lies. -/
def HasD (dp mb : Nat) (l : Value) (its : List (Em.Blk × Value)) (k : Nat) : Prop := k = dp ∨ k = mb ∨ l.ownBlock = some k ∨ ∃ it ∈ its, it.2.ownBlock = some k
structure DRaw (tt B : Nat) (w : World) (dp mb : Nat) (hv l : Value) (bad : Bool) (f : Int → Option Value) (its : List (Em.Blk × Value)) : Prop where
  top : w.heap[dp]? = some (.cells #[hv, .map (some mb), l, .bool bad] tt)
  map : MapF w mb f
  row : w.ownsRow B 53 3 l its.length (its.map blkCells).flatten
  kid : ∀ it ∈ its, w.ownsRow B 31 2 it.2 it.1.kids.length (it.1.kids.map refCells).flatten
  wf : ∀ it ∈ its, (Lit.int .i64 it.1.tag).wf = true ∧ ∀ k ∈ it.1.kids, (Lit.int .i64 k.2).wf = true
  d1 : B ≤ dp ∧ B ≤ mb ∧ dp ≠ mb
  d2 : ∀ k, l.ownBlock = some k → k ≠ dp ∧ k ≠ mb
  d3 : ∀ it ∈ its, ∀ k, it.2.ownBlock = some k → k ≠ dp ∧ k ≠ mb ∧ l.ownBlock ≠ some k
section
variable {tt B : Nat} {w w' : World} {dp mb : Nat} {hv l : Value} {bad : Bool} {f : Int → Option Value} {its : List (Em.Blk × Value)}
theorem DRaw.lt (h : DRaw tt B w dp mb hv l bad f its) : ∀ k, HasD dp mb l its k → B ≤ k ∧ k < w.heap.size := by
  rintro k (rfl | rfl | e | ⟨it, hit, e⟩)
  · exact ⟨h.d1.1, (Array.getElem?_eq_some_iff.1 h.top).1⟩
  · obtain ⟨es, clock, h1, _⟩ := h.map
    exact ⟨h.d1.2.1, (Array.getElem?_eq_some_iff.1 h1).1⟩
  · exact World.ownsRow.lt h.row k e
  · exact World.ownsRow.lt (h.kid it hit) k e
theorem DRaw.frm {S : Nat → Prop} (h : DRaw tt B w dp mb hv l bad f its) (F : Frm S w w') (hs : ∀ k, HasD dp mb l its k → ¬ S k) : DRaw tt B w' dp mb hv l bad f its :=
  { h with top := F.heap (hs _ (.inl rfl)) h.top, map := h.map.frm F (hs _ (.inr (.inl rfl))), row := F.own h.row fun k e => hs k (.inr (.inr (.inl e))), kid := fun it hit => F.own (h.kid it hit) fun k e => hs k (.inr (.inr (.inr ⟨it, hit, e⟩))) }
theorem DRaw.keep (h : DRaw tt B w dp mb hv l bad f its) (k : Keep w w') : DRaw tt B w' dp mb hv l bad f its := h.frm (k.frm fun _ => False) fun _ _ h => h
theorem DRaw.mapped {f' : Int → Option Value} (h : DRaw tt B w dp mb hv l bad f its) (hm : MapF w' mb f') (F : Frm (· = mb) w w') : DRaw tt B w' dp mb hv l bad f' its :=
  { h with top := F.heap h.d1.2.2 h.top, map := hm, row := F.own h.row fun k e => (h.d2 k e).2, kid := fun it hit => F.own (h.kid it hit) fun k e => (h.d3 it hit k e).2.1 }
theorem DRaw.setBad (h : DRaw tt B w dp mb hv l bad f its) (b : Bool) : DRaw tt B (w.setCell ⟨dp, 3, none⟩ (.bool b)) dp mb hv l b f its := by
  have F : Frm (· = dp) w (w.setCell ⟨dp, 3, none⟩ (.bool b)) := (Frm.rf (· = dp) w).st (p := ⟨dp, 3, none⟩) (.inl rfl) _
  exact { h with top := heap_set h.top _, map := h.map.frm F fun e => h.d1.2.2 e.symm, row := F.own h.row fun k e => (h.d2 k e).1, kid := fun it hit => F.own (h.kid it hit) fun k e => (h.d3 it hit k e).1 }
/-- A block was pushed, and the row is put back. -/
theorem DRaw.pushed (h : DRaw tt B w dp mb hv l bad f its) {tag : Int} (ht : (Lit.int .i64 tag).wf = true) {v' : Value} (ho : w'.ownsRow B 53 3 v' (its.length + 1) ((its.map blkCells).flatten ++ blkCells (⟨tag, [], []⟩, .slice none 0 0))) (hg : w.grownBy w' l.ownBlock) (hm : v'.ownBlock = l.ownBlock ∨ v'.ownBlock = some w.heap.size) :
    DRaw tt B (w'.setCell ⟨dp, 2, none⟩ v') dp mb hv v' bad f (its ++ [(⟨tag, [], []⟩, .slice none 0 0)]) := by
  have F : Frm (fun k => l.ownBlock = some k) w w' := Frm.of_grown hg fun _ e => e
  have F2 : Frm (· = dp) w' (w'.setCell ⟨dp, 2, none⟩ v') := (Frm.rf (· = dp) w').st (p := ⟨dp, 2, none⟩) (.inl rfl) _
  have hlt := h.lt
  have hv2 : ∀ k, v'.ownBlock = some k → k ≠ dp ∧ k ≠ mb := by
    intro k hk
    rcases hm with e | e
    · exact h.d2 k (by rw [← e, hk])
    · rw [e] at hk
      injection hk with hk
      have := (hlt dp (.inl rfl)).2
      have := (hlt mb (.inr (.inl rfl))).2
      omega
  refine { top := heap_set (F.heap (fun e => (h.d2 dp e).1 rfl) h.top) _, map := (h.map.frm F fun e => (h.d2 mb e).2 rfl).frm F2 fun e => h.d1.2.2 e.symm, row := ?_, kid := ?_, wf := ?_, d1 := h.d1, d2 := hv2, d3 := ?_ }
  · have := F2.own ho fun k hk => (hv2 k hk).1
    simpa using this
  · intro it hit
    rcases List.mem_append.1 hit with hit | hit
    · exact F2.own (F.own (h.kid it hit) fun k e => (h.d3 it hit k e).2.2) fun k e => (h.d3 it hit k e).1
    · obtain rfl := List.mem_singleton.1 hit
      exact ⟨by simp, .inl ⟨rfl, rfl⟩⟩
  · intro it hit
    rcases List.mem_append.1 hit with hit | hit
    · exact h.wf it hit
    · obtain rfl := List.mem_singleton.1 hit
      exact ⟨ht, by simp⟩
  · intro it hit k hk
    rcases List.mem_append.1 hit with hit | hit
    · obtain ⟨a, b, c⟩ := h.d3 it hit k hk
      refine ⟨a, b, ?_⟩
      rcases hm with e | e
      · rw [e]; exact c
      · rw [e]
        have := (hlt k (.inr (.inr (.inr ⟨it, hit, hk⟩)))).2
        simp; omega
    · obtain rfl := List.mem_singleton.1 hit
      simp [Value.ownBlock] at hk
theorem mem_set_or {α : Type} {l : List α} {i : Nat} {a b : α} (h : a ∈ l.set i b) : a ∈ l ∨ a = b := by
  rcases List.mem_or_eq_of_mem_set h with h | h
  · exact .inl h
  · exact .inr h
theorem DRaw.setStr {g n c i : Nat} {b : Em.Blk} {v : Value} (h : DRaw tt B w dp mb hv (.slice (some ⟨g, 0, none⟩) n c) bad f its) (hi : its[i]? = some (b, v)) (s : List UInt8) :
    DRaw tt B (w.setCell ⟨g, i * 3 + 1, none⟩ (.string (str s))) dp mb hv (.slice (some ⟨g, 0, none⟩) n c) bad f (its.set i (b.str! s, v)) := by
  have F : Frm (· = g) w (w.setCell ⟨g, i * 3 + 1, none⟩ (.string (str s))) := (Frm.rf (· = g) w).st (p := ⟨g, i * 3 + 1, none⟩) (.inl rfl) _
  have hn : n = its.length := by
    obtain ⟨_, ⟨e, _⟩ | ⟨_, _, _, e, _⟩⟩ := h.row
    · cases e
    · injection e
  subst hn
  have hmem := List.mem_of_getElem? hi
  have hx : ∀ it, it ∈ its.set i (b.str! s, v) → ∃ it' ∈ its, it'.2 = it.2 ∧ it'.1.kids = it.1.kids ∧ it'.1.tag = it.1.tag := by
    intro it hit
    rcases mem_set_or hit with hit | rfl
    · exact ⟨it, hit, rfl, rfl, rfl⟩
    · exact ⟨_, hmem, rfl, rfl, rfl⟩
  refine { top := F.heap (fun e => (h.d2 g rfl).1 e.symm) h.top, map := h.map.frm F (fun e => (h.d2 g rfl).2 e.symm), row := ?_, kid := ?_, wf := ?_, d1 := h.d1, d2 := h.d2, d3 := ?_ }
  · have := (World.ownsRow.stored h.row (i * 3 + 1) (.string (str s))).1
    rw [flat_set (it' := (b.str! s, v)) hi rfl (by omega)] at this
    simpa using this
  · intro it hit
    obtain ⟨it', h1, h2, h3, _⟩ := hx it hit
    rw [← h2, ← h3]
    exact F.own (h.kid it' h1) fun k e e2 => (h.d3 it' h1 k e).2.2 (by rw [e2]; rfl)
  · intro it hit
    obtain ⟨it', h1, _, h3, h4⟩ := hx it hit
    rw [← h3, ← h4]
    exact h.wf it' h1
  · intro it hit k hk
    obtain ⟨it', h1, h2, _⟩ := hx it hit
    exact h.d3 it' h1 k (by rw [h2]; exact hk)
theorem DRaw.setKids {g n c i : Nat} {b : Em.Blk} {v u : Value} {ks : List (Bool × Int)} (h : DRaw tt B w dp mb hv (.slice (some ⟨g, 0, none⟩) n c) bad f its) (hi : its[i]? = some (b, v)) (hu : w.ownsRow B 31 2 u ks.length (ks.map refCells).flatten) (hw : ∀ k ∈ ks, (Lit.int .i64 k.2).wf = true)
    (hd : ∀ k, u.ownBlock = some k → ¬ HasD dp mb (.slice (some ⟨g, 0, none⟩) n c) its k) :
    DRaw tt B (w.setCell ⟨g, i * 3 + 2, none⟩ u) dp mb hv (.slice (some ⟨g, 0, none⟩) n c) bad f (its.set i (b.kids! ks, u)) := by
  have F : Frm (· = g) w (w.setCell ⟨g, i * 3 + 2, none⟩ u) := (Frm.rf (· = g) w).st (p := ⟨g, i * 3 + 2, none⟩) (.inl rfl) _
  have hn : n = its.length := by
    obtain ⟨_, ⟨e, _⟩ | ⟨_, _, _, e, _⟩⟩ := h.row
    · cases e
    · injection e
  subst hn
  have hmem := List.mem_of_getElem? hi
  refine { top := F.heap (fun e => (h.d2 g rfl).1 e.symm) h.top, map := h.map.frm F (fun e => (h.d2 g rfl).2 e.symm), row := ?_, kid := ?_, wf := ?_, d1 := h.d1, d2 := h.d2, d3 := ?_ }
  · have := (World.ownsRow.stored h.row (i * 3 + 2) u).1
    rw [flat_set (it' := (b.kids! ks, u)) hi rfl (by omega)] at this
    simpa using this
  · intro it hit
    rcases mem_set_or hit with hit | rfl
    · exact F.own (h.kid it hit) fun k e e2 => (h.d3 it hit k e).2.2 (by rw [e2]; rfl)
    · exact F.own hu fun k e e2 => hd k e (.inr (.inr (.inl (by rw [e2]; rfl))))
  · intro it hit
    rcases mem_set_or hit with hit | rfl
    · exact h.wf it hit
    · exact ⟨(h.wf _ hmem).1, hw⟩
  · intro it hit k hk
    rcases mem_set_or hit with hit | rfl
    · exact h.d3 it hit k hk
    · have := hd k hk
      simp only [HasD, not_or] at this
      exact ⟨this.1, this.2.1, this.2.2.1⟩
end
/-- Where a word is, as a value. -/
def posV (ws : List Int) (n : Int) : Option Value := (Em.pos ws n).map fun i => .int .i64 (i : Int)
theorem posV_snoc {ws : List Int} {n : Int} (h : Em.pos ws n = none) : posV (ws ++ [n]) = fun m => if m = n then some (.int .i64 (ws.length : Int)) else posV ws m := by
  funext m
  unfold posV
  rw [Em.pos_snoc h]
  by_cases e : m = n
  · rw [if_pos e, if_pos e]
    rfl
  · rw [if_neg e, if_neg e]
/-- A drawing under way: U, the words that may come. -/
structure DR (tt B : Nat) (U : List Int) (w : World) (dp mb : Nat) (hv l : Value) (its : List (Em.Blk × Value)) (s : Em.Dw) : Prop where
  raw : DRaw tt B w dp mb hv l s.bad (posV s.ws) its
  bl : s.bl = its.map (·.1)
  wl : s.ws.length = its.length
  cnt : s.ws.length + Em.uns U s.ws ≤ 60000
/-- A drawing went on. -/
structure Went (U : List Int) (w w' : World) (dp mb : Nat) (l l' : Value) (its its' : List (Em.Blk × Value)) (s s' : Em.Dw) : Prop where
  frm : Frm (fun k => k = dp ∨ k = mb ∨ l.ownBlock = some k) w w'
  row : ∀ k, l'.ownBlock = some k → l.ownBlock = some k ∨ w.heap.size ≤ k
  has : ∀ k, HasD dp mb l' its' k → HasD dp mb l its k ∨ w.heap.size ≤ k
  pre : s.ws <+: s'.ws
section
variable {tt B : Nat} {U : List Int} {w w1 w' : World} {dp mb : Nat} {hv l l1 l' : Value} {its its1 its' : List (Em.Blk × Value)} {s s1 s' : Em.Dw}
theorem DR.keep (h : DR tt B U w dp mb hv l its s) (k : Keep w w') : DR tt B U w' dp mb hv l its s := { h with raw := h.raw.keep k }
theorem DR.frm {S : Nat → Prop} (h : DR tt B U w dp mb hv l its s) (F : Frm S w w') (hs : ∀ k, HasD dp mb l its k → ¬ S k) : DR tt B U w' dp mb hv l its s := { h with raw := h.raw.frm F hs }
theorem Went.rf : Went U w w dp mb l l its its s s := ⟨Frm.rf _ _, fun k h => .inl h, fun k h => .inl h, List.prefix_refl _⟩
theorem Went.of_keep (k : Keep w w') : Went U w w' dp mb l l its its s s := ⟨k.frm _, fun k h => .inl h, fun k h => .inl h, List.prefix_refl _⟩
theorem Went.tr (h : Went U w w1 dp mb l l1 its its1 s s1) (h2 : Went U w1 w' dp mb l1 l' its1 its' s1 s') : Went U w w' dp mb l l' its its' s s' := by
  refine ⟨h.frm.trn h2.frm ?_, ?_, ?_, h.pre.trans h2.pre⟩
  · rintro k (e | e | e)
    · exact .inl (.inl e)
    · exact .inl (.inr (.inl e))
    · rcases h.row k e with e | e
      · exact .inl (.inr (.inr e))
      · exact .inr e
  · intro k e
    have := h.frm.size
    rcases h2.row k e with e | e
    · exact h.row k e
    · exact .inr (by omega)
  · intro k e
    have := h.frm.size
    rcases h2.has k e with e | e
    · exact h.has k e
    · exact .inr (by omega)
/-- What lies below the drawing stays. -/
theorem Went.low (h : Went U w w' dp mb l l' its its' s s') (hd : DR tt B U w dp mb hv l its s) {w0 : World} (k : Keep w0 w) (hB : w0.heap.size ≤ B) : Keep w0 w' :=
  Frm.keep k h.frm fun i e => by
    have := (hd.raw.lt i (by rcases e with e | e | e; exact .inl e; exact .inr (.inl e); exact .inr (.inr (.inl e)))).1
    omega
/-- What is none of the drawing's stays so. -/
theorem Went.out (h : Went U w w' dp mb l l' its its' s s') {k : Nat} (hk : k < w.heap.size) (hn : ¬ HasD dp mb l its k) : ¬ HasD dp mb l' its' k := fun e => by
  rcases h.has k e with e | e
  · exact hn e
  · omega
theorem Went.heap (h : Went U w w' dp mb l l' its its' s s') {k : Nat} {o : Obj} (hn : ¬ HasD dp mb l its k) (ho : w.heap[k]? = some o) : w'.heap[k]? = some o :=
  h.frm.heap (fun e => hn (by rcases e with e | e | e; exact .inl e; exact .inr (.inl e); exact .inr (.inr (.inl e)))) ho
theorem Went.own (h : Went U w w' dp mb l l' its its' s s') {base e size n : Nat} {v : Value} {xs : List Value} (ho : w.ownsRow base e size v n xs) (hn : ∀ k, v.ownBlock = some k → ¬ HasD dp mb l its k) : w'.ownsRow base e size v n xs :=
  h.frm.own ho fun k hk e => hn k hk (by rcases e with e | e | e; exact .inl e; exact .inr (.inl e); exact .inr (.inr (.inl e)))
/-- The drawing's end: its graph. -/
theorem DR.sl (h : DR tt B U w dp mb hv l its s) : Sl 3 KBk w l s.bl := by
  have h0 := h.raw
  refine sl_of_own h0.row (by rw [h.bl]; simp) (by rw [h.bl]; simp) (fun cs hcs => ?_) fun j h1 h2 => ?_
  · obtain ⟨it, _, rfl⟩ := List.mem_map.1 hcs
    rfl
  · rw [List.length_map] at h1
    have hmem := List.getElem_mem h1
    have e : s.bl[j] = its[j].1 := by simp [h.bl]
    rw [List.getElem_map, e]
    refine ⟨_, rfl, (h0.wf _ hmem).1, ?_⟩
    refine sl_of_own (h0.kid _ hmem) rfl (by simp) (fun cs hcs => ?_) fun q g1 g2 => ?_
    · obtain ⟨it, _, rfl⟩ := List.mem_map.1 hcs
      rfl
    · rw [List.getElem_map]
      exact ⟨rfl, (h0.wf _ hmem).2 _ (List.getElem_mem _)⟩
end
end Go.Proofs.Ytilhglnfjaablaa
