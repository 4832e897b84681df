/- What a bad network is in memory. -/
import Derived.Test.YtjhndioapcneoaaLibR
import Derived.Test.YtjhndioapcneoaaNetPure
import Derived.Test.YtjhndioapcneoaaOpen
namespace Go.Proofs.Ytjhndioapcneoaa
open Go.RowKit
set_option linter.unusedVariables false
/-- A message's cells. -/
abbrev encM (m : Value × Bool) : List Value := [m.1, .bool m.2]
/-- The places of a Net: its top, its rows, the bytes of its messages. -/
inductive Place where
  | top : Place
  | row (j : Nat) : Place
  | msg (j i : Nat) : Place
def blk (x : Option (Value × Bool)) : Option Nat := x.bind fun m => m.1.ownBlock
def atP (p : Nat) (vs : Nat → Value) (ms : Nat → List (Value × Bool)) : Place → Option Nat
  | .top => some p
  | .row j => (vs j).ownBlock
  | .msg j i => blk (ms j)[i]?
/-- A Net in memory: its rows' values vs, its messages' values ms; what they are: R. -/
structure NRaw (tn te tb : TypeId) (w : World) (p : Nat) (vs : Nat → Value) (ms : Nat → List (Value × Bool)) (R : Em.Nt) : Prop where
  top : w.heap[p]? = some (.cells #[vs 0, vs 1] tn)
  row : ∀ j, w.ownsRow 0 te 2 (vs j) (ms j).length ((ms j).map encM).flatten
  len : ∀ j, (ms j).length = (R j).length
  part : ∀ (j i : Nat) (x : Value × Bool) (a : Em.Msg), (ms j)[i]? = some x → (R j)[i]? = some a → w.ownsRow 0 tb 1 x.1 a.1.length (a.1.map bv) ∧ x.2 = a.2
  inj : ∀ (x y : Place) (k : Nat), atP p vs ms x = some k → atP p vs ms y = some k → x = y
theorem blk_some {x : Option (Value × Bool)} {k : Nat} (h : blk x = some k) : ∃ m, x = some m ∧ m.1.ownBlock = some k := by
  cases x with
  | none => cases h
  | some m => exact ⟨m, rfl, h⟩
section
variable {tn te tb : TypeId} {w : World} {p : Nat} {vs : Nat → Value} {ms : Nat → List (Value × Bool)} {R : Em.Nt}
theorem NRaw.lt (h : NRaw tn te tb w p vs ms R) (x : Place) (k : Nat) (hx : atP p vs ms x = some k) : k < w.heap.size := by
  cases x with
  | top =>
    injection hx with hx
    subst hx
    exact (Array.getElem?_eq_some_iff.1 h.top).1
  | row j => exact (World.ownsRow.lt (h.row j) k hx).2
  | msg j i =>
    obtain ⟨m, hm, hk⟩ := blk_some hx
    have hi := (List.getElem?_eq_some_iff.1 hm).1
    have hl := h.len j
    exact (World.ownsRow.lt (h.part j i m ((R j)[i]'(by omega)) hm (List.getElem?_eq_getElem (by omega))).1 k hk).2
theorem NRaw.frm (h : NRaw tn te tb w p vs ms R) {S : Nat → Prop} {w' : World} (k : Frm S w w') (hs : ∀ x k, atP p vs ms x = some k → ¬ S k) : NRaw tn te tb w' p vs ms R :=
  { h with
    top := k.heap (hs .top p rfl) h.top
    row := fun j => k.own (h.row j) fun q hq => hs (.row j) q hq
    part := fun j i x a hx ha => ⟨k.own (h.part j i x a hx ha).1 fun q hq => hs (.msg j i) q (by show blk _ = _; rw [hx]; exact hq), (h.part j i x a hx ha).2⟩ }
theorem set_own {w : World} {base e size n g j : Nat} {v u : Value} {xs : List Value} (h : w.ownsRow base e size v n xs) (hp : ∀ k, v.ownBlock = some k → k ≠ g) : (w.setCell ⟨g, j, none⟩ u).ownsRow base e size v n xs :=
  Frm.own ((Frm.rf (· = g) w).st (p := ⟨g, j, none⟩) (.inl rfl) u) h hp
theorem heap_set1 {w : World} {p j : Nat} {cs : Array Value} {t : TypeId} (h : w.heap[p]? = some (.cells cs t)) (u : Value) : (w.setCell ⟨p, j, none⟩ u).heap[p]? = some (.cells (cs.setIfInBounds j u) t) := by
  simp [World.setCell, Array.getElem?_modify, h]
/-- A row was made anew, or changed, and is put back. -/
theorem NRaw.store (h : NRaw tn te tb w p vs ms R) {w1 : World} {j : Nat} (hj : j < 2) {v' : Value} {ms' : List (Value × Bool)} {R' : List Em.Msg} (hF : Frm (fun k => (vs j).ownBlock = some k) w w1)
    (ho : w1.ownsRow 0 te 2 v' ms'.length (ms'.map encM).flatten) (hv : v'.ownBlock = (vs j).ownBlock ∨ ∀ k, v'.ownBlock = some k → w.heap.size ≤ k) (hl : ms'.length = R'.length)
    (hp : ∀ (i : Nat) (x : Value × Bool) (a : Em.Msg), ms'[i]? = some x → R'[i]? = some a → w1.ownsRow 0 tb 1 x.1 a.1.length (a.1.map bv) ∧ x.2 = a.2)
    (hi : ∀ (i i' k : Nat), blk ms'[i]? = some k → blk ms'[i']? = some k → i = i')
    (hn : ∀ (i k : Nat), blk ms'[i]? = some k → (∃ i0, atP p vs ms (.msg j i0) = some k) ∨ ((∀ x, atP p vs ms x ≠ some k) ∧ v'.ownBlock ≠ some k)) :
    NRaw tn te tb (w1.setCell ⟨p, j, none⟩ v') p (up vs j v') (up ms j ms') (up R j R') := by
  have hlt := h.lt
  have hpl : p < w.heap.size := hlt .top p rfl
  have hvp : ∀ k, v'.ownBlock = some k → k ≠ p := fun k hk e => by
    subst e
    rcases hv with hv | hv
    · have := h.inj .top (.row j) k rfl (by show (vs j).ownBlock = some k; rw [← hv]; exact hk)
      cases this
    · have := hv k hk; omega
  have hmp : ∀ (i k : Nat), blk ms'[i]? = some k → k ≠ p := fun i k hk e => by
    subst e
    rcases hn i k hk with ⟨i0, h0⟩ | ⟨h0, _⟩
    · have := h.inj .top (.msg j i0) k rfl h0
      cases this
    · exact h0 .top rfl
  have hvm : ∀ (i k : Nat), blk ms'[i]? = some k → v'.ownBlock ≠ some k := fun i k hk e => by
    rcases hn i k hk with ⟨i0, h0⟩ | ⟨_, h0⟩
    · rcases hv with hv | hv
      · have := h.inj (.msg j i0) (.row j) k h0 (by show (vs j).ownBlock = some k; rw [← hv]; exact e)
        cases this
      · have := hv k e
        have := hlt _ _ h0
        omega
    · exact h0 e
  refine { top := ?_, row := fun i => ?_, len := fun i => ?_, part := fun i m x a hx ha => ?_, inj := ?_ }
  · have h1 : w1.heap[p]? = some (.cells #[vs 0, vs 1] tn) := hF.heap (fun e => by
      have := h.inj .top (.row j) p rfl e
      cases this) h.top
    rw [heap_set1 h1 v']
    have : j = 0 ∨ j = 1 := by omega
    rcases this with rfl | rfl <;> rfl
  · by_cases e : i = j
    · subst e
      rw [up_at, up_at]
      exact set_own ho hvp
    · rw [up_ne _ _ _ e, up_ne _ _ _ e]
      refine set_own (hF.own (h.row i) fun k hk e2 => ?_) fun k hk e2 => ?_
      · have := h.inj (.row i) (.row j) k hk e2
        injection this with this
        exact e this
      · subst e2
        have := h.inj .top (.row i) k rfl hk
        cases this
  · by_cases e : i = j
    · subst e
      rw [up_at, up_at]
      exact hl
    · rw [up_ne _ _ _ e, up_ne _ _ _ e]
      exact h.len i
  · by_cases e : i = j
    · subst e
      rw [up_at] at hx ha
      obtain ⟨h1, h2⟩ := hp m x a hx ha
      exact ⟨set_own h1 fun k hk => hmp m k (by rw [hx]; exact hk), h2⟩
    · rw [up_ne _ _ _ e] at hx ha
      obtain ⟨h1, h2⟩ := h.part i m x a hx ha
      have hat : ∀ k, x.1.ownBlock = some k → atP p vs ms (.msg i m) = some k := fun k hk => by
        show blk _ = _
        rw [hx]
        exact hk
      refine ⟨set_own (hF.own h1 fun k hk e2 => ?_) fun k hk e2 => ?_, h2⟩
      · have := h.inj (.msg i m) (.row j) k (hat k hk) e2
        cases this
      · subst e2
        have := h.inj .top (.msg i m) k rfl (hat k hk)
        cases this
  · have hrow : ∀ i k, atP p (up vs j v') (up ms j ms') (.row i) = some k → (i ≠ j ∧ atP p vs ms (.row i) = some k) ∨ (i = j ∧ v'.ownBlock = some k) := fun i k hk => by
      by_cases e : i = j
      · subst e
        right
        refine ⟨rfl, ?_⟩
        have : (up vs i v' i).ownBlock = some k := hk
        rwa [up_at] at this
      · left
        refine ⟨e, ?_⟩
        have : (up vs j v' i).ownBlock = some k := hk
        rwa [up_ne _ _ _ e] at this
    have hmsg : ∀ i m k, atP p (up vs j v') (up ms j ms') (.msg i m) = some k → (i ≠ j ∧ atP p vs ms (.msg i m) = some k) ∨ (i = j ∧ blk ms'[m]? = some k) := fun i m k hk => by
      by_cases e : i = j
      · subst e
        right
        refine ⟨rfl, ?_⟩
        have : blk (up ms i ms' i)[m]? = some k := hk
        rwa [up_at] at this
      · left
        refine ⟨e, ?_⟩
        have : blk (up ms j ms' i)[m]? = some k := hk
        rwa [up_ne _ _ _ e] at this
    -- a row made anew is at no old place but its own
    have hvo : ∀ x k, atP p vs ms x = some k → v'.ownBlock = some k → x = .row j := fun x k hx hk => by
      rcases hv with hv | hv
      · exact h.inj x (.row j) k hx (by show (vs j).ownBlock = some k; rw [← hv]; exact hk)
      · have := hv k hk
        have := hlt x k hx
        omega
    have hmo : ∀ (x : Place) (m k : Nat), atP p vs ms x = some k → blk ms'[m]? = some k → ∃ i0, x = .msg j i0 := fun x m k hx hk => by
      rcases hn m k hk with ⟨i0, h0⟩ | ⟨h0, _⟩
      · exact ⟨i0, h.inj x _ k hx h0⟩
      · exact absurd hx (h0 x)
    intro x y k hx hy
    cases x with
    | top =>
      injection hx with hx
      subst hx
      cases y with
      | top => rfl
      | row i =>
        rcases hrow i p hy with ⟨e, h1⟩ | ⟨e, h1⟩
        · have := h.inj .top (.row i) p rfl h1
          cases this
        · exact absurd rfl (hvp p h1)
      | msg i m =>
        rcases hmsg i m p hy with ⟨e, h1⟩ | ⟨e, h1⟩
        · have := h.inj .top (.msg i m) p rfl h1
          cases this
        · exact absurd rfl (hmp m p h1)
    | row i =>
      cases y with
      | top =>
        injection hy with hy
        subst hy
        rcases hrow i p hx with ⟨e, h1⟩ | ⟨e, h1⟩
        · have := h.inj .top (.row i) p rfl h1
          cases this
        · exact absurd rfl (hvp p h1)
      | row i' =>
        rcases hrow i k hx with ⟨e, h1⟩ | ⟨e, h1⟩ <;> rcases hrow i' k hy with ⟨e', h1'⟩ | ⟨e', h1'⟩
        · exact h.inj _ _ k h1 h1'
        · have := hvo _ _ h1 h1'
          injection this with this
          exact absurd this e
        · have := hvo _ _ h1' h1
          injection this with this
          exact absurd this e'
        · rw [e, e']
      | msg i' m =>
        rcases hrow i k hx with ⟨e, h1⟩ | ⟨e, h1⟩ <;> rcases hmsg i' m k hy with ⟨e', h1'⟩ | ⟨e', h1'⟩
        · exact h.inj _ _ k h1 h1'
        · obtain ⟨i0, this⟩ := hmo _ _ _ h1 h1'
          cases this
        · have := hvo _ _ h1' h1
          cases this
        · exact absurd h1 (hvm m k h1')
    | msg i m =>
      cases y with
      | top =>
        injection hy with hy
        subst hy
        rcases hmsg i m p hx with ⟨e, h1⟩ | ⟨e, h1⟩
        · have := h.inj .top (.msg i m) p rfl h1
          cases this
        · exact absurd rfl (hmp m p h1)
      | row i' =>
        rcases hmsg i m k hx with ⟨e, h1⟩ | ⟨e, h1⟩ <;> rcases hrow i' k hy with ⟨e', h1'⟩ | ⟨e', h1'⟩
        · exact h.inj _ _ k h1 h1'
        · have := hvo _ _ h1 h1'
          cases this
        · obtain ⟨i0, this⟩ := hmo _ _ _ h1' h1
          cases this
        · exact absurd h1' (hvm m k h1)
      | msg i' m' =>
        rcases hmsg i m k hx with ⟨e, h1⟩ | ⟨e, h1⟩ <;> rcases hmsg i' m' k hy with ⟨e', h1'⟩ | ⟨e', h1'⟩
        · exact h.inj _ _ k h1 h1'
        · obtain ⟨i0, this⟩ := hmo _ _ _ h1 h1'
          injection this with this _
          exact absurd this e
        · obtain ⟨i0, this⟩ := hmo _ _ _ h1' h1
          injection this with this _
          exact absurd this e'
        · rw [e, e', hi m m' k h1 h1']
/-- A message more. -/
theorem NRaw.push (h : NRaw tn te tb w p vs ms R) {w1 : World} {j : Nat} (hj : j < 2) {v' u : Value} {l : List UInt8} {f : Bool} (hF : Frm (fun k => (vs j).ownBlock = some k) w w1)
    (ho : w1.ownsRow 0 te 2 v' ((ms j) ++ [(u, f)]).length (((ms j) ++ [(u, f)]).map encM).flatten) (hv : v'.ownBlock = (vs j).ownBlock ∨ v'.ownBlock = some w.heap.size)
    (hu : w.ownsRow 0 tb 1 u l.length (l.map bv)) (hf : ∀ x k, u.ownBlock = some k → atP p vs ms x ≠ some k) :
    NRaw tn te tb (w1.setCell ⟨p, j, none⟩ v') p (up vs j v') (up ms j (ms j ++ [(u, f)])) (up R j (R j ++ [(l, f)])) := by
  have hl := h.len j
  have hul : ∀ k, u.ownBlock = some k → k < w.heap.size := fun k hk => (World.ownsRow.lt hu k hk).2
  have huw : ∀ k, u.ownBlock = some k → (vs j).ownBlock ≠ some k := fun k hk e => hf (.row j) k hk e
  have hget : ∀ (i : Nat) (x : Value × Bool), (ms j ++ [(u, f)])[i]? = some x → (i < (ms j).length ∧ (ms j)[i]? = some x) ∨ (i = (ms j).length ∧ x = (u, f)) := fun i x hx => by
    rcases Nat.lt_or_ge i (ms j).length with hi | hi
    · rw [List.getElem?_append_left hi] at hx
      exact .inl ⟨hi, hx⟩
    · rw [List.getElem?_append_right hi] at hx
      have := (List.getElem?_eq_some_iff.1 hx).1
      simp at this
      have e : i = (ms j).length := by omega
      subst e
      simp at hx
      exact .inr ⟨rfl, hx.symm⟩
  have hblk : ∀ (i k : Nat), blk (ms j ++ [(u, f)])[i]? = some k → (i < (ms j).length ∧ atP p vs ms (.msg j i) = some k) ∨ (i = (ms j).length ∧ u.ownBlock = some k) := fun i k hk => by
    obtain ⟨m, hm, hk⟩ := blk_some hk
    rcases hget i m hm with ⟨h1, h2⟩ | ⟨h1, rfl⟩
    · refine .inl ⟨h1, ?_⟩
      show blk _ = _
      rw [h2]
      exact hk
    · exact .inr ⟨h1, hk⟩
  refine h.store hj hF ho (hv.imp id fun e k hk => by rw [e] at hk; injection hk with hk; omega) (by simp [hl]) ?_ ?_ ?_
  · intro i x a hx ha
    rcases hget i x hx with ⟨h1, h2⟩ | ⟨h1, rfl⟩
    · rw [List.getElem?_append_left (by omega)] at ha
      obtain ⟨g1, g2⟩ := h.part j i x a h2 ha
      refine ⟨hF.own g1 fun k hk e => ?_, g2⟩
      have := h.inj (.msg j i) (.row j) k (by show blk _ = _; rw [h2]; exact hk) e
      cases this
    · subst h1
      rw [List.getElem?_append_right (by omega), hl, Nat.sub_self] at ha
      simp at ha
      subst ha
      exact ⟨hF.own hu huw, rfl⟩
  · intro i i' k h1 h2
    rcases hblk i k h1 with ⟨a1, a2⟩ | ⟨a1, a2⟩ <;> rcases hblk i' k h2 with ⟨b1, b2⟩ | ⟨b1, b2⟩
    · have := h.inj _ _ k a2 b2
      injection this
    · exact absurd a2 (hf _ k b2)
    · exact absurd b2 (hf _ k a2)
    · omega
  · intro i k h1
    rcases hblk i k h1 with ⟨a1, a2⟩ | ⟨a1, a2⟩
    · exact .inl ⟨i, a2⟩
    · refine .inr ⟨fun x => hf x k a2, fun e => ?_⟩
      rcases hv with hv | hv
      · exact huw k a2 (by rw [← hv, e])
      · rw [hv] at e
        injection e with e
        have := hul k a2
        omega
/-- A message less. -/
theorem NRaw.drop (h : NRaw tn te tb w p vs ms R) {w1 : World} {j : Nat} (hj : j < 2) {v' : Value} {i : Nat} (hF : Frm (fun k => (vs j).ownBlock = some k) w w1)
    (ho : w1.ownsRow 0 te 2 v' ((ms j).eraseIdx i).length (((ms j).eraseIdx i).map encM).flatten) (hv : v'.ownBlock = (vs j).ownBlock ∨ ∀ k, v'.ownBlock = some k → w.heap.size ≤ k) :
    NRaw tn te tb (w1.setCell ⟨p, j, none⟩ v') p (up vs j v') (up ms j ((ms j).eraseIdx i)) (up R j ((R j).eraseIdx i)) := by
  have hl := h.len j
  have hold : ∀ (q k : Nat), blk ((ms j).eraseIdx i)[q]? = some k → atP p vs ms (.msg j (if q < i then q else q + 1)) = some k := fun q k hk => by
    show blk _ = _
    rw [List.getElem?_eraseIdx] at hk
    split <;> simp_all
  refine h.store hj hF ho hv (by rw [List.length_eraseIdx, List.length_eraseIdx, hl]) ?_ ?_ ?_
  · intro q x a hx ha
    have hb : ∀ k, x.1.ownBlock = some k → atP p vs ms (.msg j (if q < i then q else q + 1)) = some k := fun k hk => hold q k (by rw [hx]; exact hk)
    rw [List.getElem?_eraseIdx] at hx ha
    have : (ms j)[if q < i then q else q + 1]? = some x ∧ (R j)[if q < i then q else q + 1]? = some a := by
      split <;> simp_all
    obtain ⟨g1, g2⟩ := h.part j _ x a this.1 this.2
    refine ⟨hF.own g1 fun k hk e => ?_, g2⟩
    have := h.inj _ (.row j) k (hb k hk) e
    cases this
  · intro q q' k h1 h2
    have := h.inj _ _ k (hold q k h1) (hold q' k h2)
    injection this with _ this
    split at this <;> split at this <;> omega
  · intro q k h1
    exact .inl ⟨_, hold q k h1⟩
/-- A message spoiled. -/
theorem NRaw.turn (h : NRaw tn te tb w p vs ms R) {w1 : World} {j i : Nat} {x : Value × Bool} {l : List UInt8} (hx : (ms j)[i]? = some x) (hF : Frm (fun k => x.1.ownBlock = some k ∨ (vs j).ownBlock = some k) w w1)
    (ho : w1.ownsRow 0 te 2 (vs j) (ms j).length (((ms j).set i (x.1, true)).map encM).flatten) (hb : w1.ownsRow 0 tb 1 x.1 l.length (l.map bv)) :
    NRaw tn te tb w1 p vs (up ms j ((ms j).set i (x.1, true))) (up R j ((R j).set i (l, true))) := by
  have hl := h.len j
  have hil := (List.getElem?_eq_some_iff.1 hx).1
  have hxa : ∀ k, x.1.ownBlock = some k → atP p vs ms (.msg j i) = some k := fun k hk => by
    show blk _ = _
    rw [hx]
    exact hk
  have hat : ∀ y k, atP p vs (up ms j ((ms j).set i (x.1, true))) y = some k → atP p vs ms y = some k := fun y k hy => by
    cases y with
    | top => exact hy
    | row q => exact hy
    | msg q m =>
      by_cases e : q = j
      · subst e
        have hy : blk (up ms q ((ms q).set i (x.1, true)) q)[m]? = some k := hy
        rw [up_at] at hy
        by_cases e : i = m
        · subst e
          rw [List.getElem?_set_self hil] at hy
          exact hxa k hy
        · rw [List.getElem?_set_ne e] at hy
          exact hy
      · have hy : blk (up ms j ((ms j).set i (x.1, true)) q)[m]? = some k := hy
        rwa [up_ne _ _ _ e] at hy
  refine { top := hF.heap ?_ h.top, row := fun q => ?_, len := fun q => ?_, part := fun q m y a hy ha => ?_, inj := fun y z k hy hz => h.inj y z k (hat y k hy) (hat z k hz) }
  · rintro (e | e)
    · have := h.inj .top _ p rfl (hxa p e)
      cases this
    · have := h.inj .top (.row j) p rfl e
      cases this
  · by_cases e : q = j
    · subst e
      rw [up_at, List.length_set]
      exact ho
    · rw [up_ne _ _ _ e]
      refine hF.own (h.row q) fun k hk => ?_
      rintro (e2 | e2)
      · have := h.inj (.row q) _ k hk (hxa k e2)
        cases this
      · have := h.inj (.row q) (.row j) k hk e2
        injection this with this
        exact e this
  · by_cases e : q = j
    · subst e
      rw [up_at, up_at, List.length_set, List.length_set]
      exact hl
    · rw [up_ne _ _ _ e, up_ne _ _ _ e]
      exact h.len q
  · have old : ∀ (y : Value × Bool), (ms q)[m]? = some y → (R q)[m]? = some a → (q = j → m ≠ i) → w1.ownsRow 0 tb 1 y.1 a.1.length (a.1.map bv) ∧ y.2 = a.2 := fun y hy ha hne => by
      obtain ⟨g1, g2⟩ := h.part q m y a hy ha
      refine ⟨hF.own g1 fun k hk => ?_, g2⟩
      have hyk : atP p vs ms (.msg q m) = some k := by
        show blk _ = _
        rw [hy]
        exact hk
      rintro (e2 | e2)
      · have := h.inj (.msg q m) _ k hyk (hxa k e2)
        injection this with t1 t2
        exact hne t1 t2
      · have := h.inj (.msg q m) (.row j) k hyk e2
        cases this
    by_cases e : q = j
    · subst e
      rw [up_at] at hy ha
      by_cases e : i = m
      · subst e
        rw [List.getElem?_set_self hil] at hy
        rw [List.getElem?_set_self (by omega)] at ha
        injection hy with hy
        injection ha with ha
        subst hy ha
        exact ⟨hb, rfl⟩
      · rw [List.getElem?_set_ne e] at hy ha
        exact old y hy ha fun _ e2 => e e2.symm
    · rw [up_ne _ _ _ e] at hy ha
      exact old y hy ha fun e2 => absurd e2 e
/-- Nothing is in it. -/
theorem NRaw.new {w : World} {tn te tb : TypeId} {p : Nat} (h : w.heap[p]? = some (.cells #[.slice none 0 0, .slice none 0 0] tn)) : NRaw tn te tb w p (fun _ => .slice none 0 0) (fun _ => []) (fun _ => []) where
  top := h
  row := fun j => ⟨by simp, .inl ⟨rfl, rfl⟩⟩
  len := fun j => rfl
  part := fun j i x a hx => by simp at hx
  inj := fun x y k hx hy => by
    cases x <;> cases y <;> simp_all [atP, blk, Value.ownBlock]
end
/-- A Net, whose blocks are among S. -/
def NRep (tn te tb : TypeId) (w : World) (p : Nat) (S : Nat → Prop) (R : Em.Nt) : Prop := ∃ vs ms, NRaw tn te tb w p vs ms R ∧ (∀ x k, atP p vs ms x = some k → S k) ∧ ∀ k, S k → k < w.heap.size
/-- S, and the blocks that came. -/
def Grow (S : Nat → Prop) (w w' : World) : Nat → Prop := fun k => S k ∨ (w.heap.size ≤ k ∧ k < w'.heap.size)
theorem NRep.frm {tn te tb : TypeId} {w w' : World} {p : Nat} {S T : Nat → Prop} {R : Em.Nt} (h : NRep tn te tb w p S R) (k : Frm T w w') (hs : ∀ i, S i → ¬ T i) : NRep tn te tb w' p S R := by
  obtain ⟨vs, ms, h1, h2, h3⟩ := h
  exact ⟨vs, ms, h1.frm k fun x q hq => hs q (h2 x q hq), h2, fun q hq => Nat.lt_of_lt_of_le (h3 q hq) k.size⟩
theorem NRep.keep {tn te tb : TypeId} {w w' : World} {p : Nat} {S : Nat → Prop} {R : Em.Nt} (h : NRep tn te tb w p S R) (k : Keep w w') : NRep tn te tb w' p S R := h.frm (k.frm fun _ => False) fun _ _ h => h
/-- What a call leaves: the Net, and all but its blocks. -/
def After (tn te tb : TypeId) (w : World) (p : Nat) (S : Nat → Prop) (R : Em.Nt) (w' : World) : Prop := NRep tn te tb w' p (Grow S w w') R ∧ Frm S w w'
theorem NRep.after {tn te tb : TypeId} {w w' : World} {p : Nat} {S : Nat → Prop} {R : Em.Nt} (h : NRep tn te tb w p S R) (k : Keep w w') : After tn te tb w p S R w' := by
  obtain ⟨vs, ms, h1, h2, h3⟩ := h
  exact ⟨⟨vs, ms, h1.frm (k.frm fun _ => False) (fun _ _ _ h => h), fun x q hq => .inl (h2 x q hq), fun q hq => by
    rcases hq with hq | hq
    · exact Nat.lt_of_lt_of_le (h3 q hq) k.size
    · exact hq.2⟩, k.frm S⟩
theorem NRaw.after {tn te tb : TypeId} {w w' : World} {p : Nat} {S : Nat → Prop} {R : Em.Nt} {vs : Nat → Value} {ms : Nat → List (Value × Bool)} (h : NRaw tn te tb w' p vs ms R) (hS : ∀ k, S k → k < w.heap.size) (hF : Frm S w w') (hn : ∀ x k, atP p vs ms x = some k → S k ∨ w.heap.size ≤ k) : After tn te tb w p S R w' :=
  ⟨⟨vs, ms, h, fun x k hx => (hn x k hx).imp id fun e => ⟨e, h.lt x k hx⟩, fun k hk => by
    rcases hk with hk | hk
    · exact Nat.lt_of_lt_of_le (hS k hk) hF.size
    · exact hk.2⟩, hF⟩
theorem After.of_keep {tn te tb : TypeId} {w w1 w' : World} {p : Nat} {S : Nat → Prop} {R : Em.Nt} (k : Keep w w1) (h : After tn te tb w1 p S R w') (hS : ∀ k, S k → k < w.heap.size) : After tn te tb w p S R w' := by
  obtain ⟨⟨vs, ms, h1, h2, h3⟩, hF⟩ := h
  refine h1.after hS ((k.frm S).tr hF) fun x q hq => ?_
  rcases h2 x q hq with h | h
  · exact .inl h
  · exact .inr (Nat.le_trans k.size h.1)
theorem After.keep {tn te tb : TypeId} {w w1 w' : World} {p : Nat} {S : Nat → Prop} {R : Em.Nt} (h : After tn te tb w p S R w1) (k : Keep w1 w') (hS : ∀ k, S k → k < w.heap.size) : After tn te tb w p S R w' := by
  obtain ⟨⟨vs, ms, h1, h2, h3⟩, hF⟩ := h
  refine (h1.frm (k.frm fun _ => False) (fun _ _ _ h => h)).after hS (hF.tr (k.frm S)) fun x q hq => ?_
  rcases h2 x q hq with h | h
  · exact .inl h
  · exact .inr h.1
theorem After.lt {tn te tb : TypeId} {w w' : World} {p : Nat} {S : Nat → Prop} {R : Em.Nt} (h : After tn te tb w p S R w') (k : Nat) (hk : Grow S w w' k) : k < w'.heap.size := by
  obtain ⟨⟨vs, ms, h1, h2, h3⟩, hF⟩ := h
  exact h3 k hk
end Go.Proofs.Ytjhndioapcneoaa
