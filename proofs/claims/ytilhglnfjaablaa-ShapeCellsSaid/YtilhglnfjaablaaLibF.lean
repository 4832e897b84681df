/- Words for the walks: what a call may change of what was there. No program is named here. -/
import Derived.Test.YtilhglnfjaablaaLibA
namespace Go.Proofs.Ytilhglnfjaablaa
open Go.RowKit
/-- Of what was there, at most the blocks of S are changed. -/
structure Frm (S : Nat → Prop) (w w' : World) : Prop where
  os : w'.os = w.os
  tape : w'.tape = w.tape
  output : w'.output = w.output
  size : w.heap.size ≤ w'.heap.size
  block : ∀ k, k < w.heap.size → ¬ S k → w'.heap[k]? = w.heap[k]?
theorem Frm.rf (S : Nat → Prop) (w : World) : Frm S w w := ⟨rfl, rfl, rfl, Nat.le_refl _, fun _ _ _ => rfl⟩
theorem Keep.frm {w w' : World} (h : Keep w w') (S : Nat → Prop) : Frm S w w' := ⟨h.os, h.tape, h.output, h.size, fun k hk _ => h.block k hk⟩
theorem Frm.of_grown {S : Nat → Prop} {w w' : World} {row : Option Nat} (h : w.grownBy w' row) (hr : ∀ k, row = some k → S k) : Frm S w w' :=
  ⟨h.os, h.tape, h.output, h.size, fun k hk hs => h.block k hk fun e => hs (hr k e.symm)⟩
theorem Frm.mono {S T : Nat → Prop} {w w' : World} (h : Frm S w w') (hs : ∀ k, k < w.heap.size → S k → T k) : Frm T w w' := ⟨h.os, h.tape, h.output, h.size, fun k hk ht => h.block k hk fun s => ht (hs k hk s)⟩
/-- One call after the other: what the second one changes was the first one's, or is new. -/
theorem Frm.trn {S T : Nat → Prop} {a b c : World} (h : Frm S a b) (k : Frm T b c) (hs : ∀ i, T i → S i ∨ a.heap.size ≤ i) : Frm S a c :=
  ⟨k.os.trans h.os, k.tape.trans h.tape, k.output.trans h.output, Nat.le_trans h.size k.size, fun i hi hn => by
    rw [k.block i (Nat.lt_of_lt_of_le hi h.size) (fun t => by rcases hs i t with s | s; exact hn s; omega), h.block i hi hn]⟩
theorem Frm.tr {S : Nat → Prop} {a b c : World} (h : Frm S a b) (k : Frm S b c) : Frm S a c := h.trn k fun _ t => .inl t
theorem Frm.keep {S : Nat → Prop} {w0 a b : World} (h : Keep w0 a) (k : Frm S a b) (hs : ∀ i, S i → w0.heap.size ≤ i) : Keep w0 b :=
  ⟨k.os.trans h.os, k.tape.trans h.tape, k.output.trans h.output, Nat.le_trans h.size k.size, fun i hi => by
    rw [k.block i (Nat.lt_of_lt_of_le hi h.size) (fun t => by have := hs i t; omega), h.block i hi]⟩
theorem Frm.dr {S : Nat → Prop} {a w : World} (h : Frm S a w) : Frm S a w.drew := ⟨h.os, h.tape, h.output, h.size, h.block⟩
theorem Frm.al {S : Nat → Prop} {a w : World} (h : Frm S a w) (o : Obj) : Frm S a (w.alloc o) := h.trn ((Keep.rf w).al o |>.frm fun _ => False) (fun _ h => h.elim)
theorem Frm.st {S : Nat → Prop} {a w : World} (h : Frm S a w) {p : Addr} (hp : S p.block ∨ a.heap.size ≤ p.block) (u : Value) : Frm S a (w.setCell p u) := by
  refine ⟨h.os, h.tape, h.output, by simp [World.setCell]; exact h.size, fun k hk hn => ?_⟩
  rw [← h.block k hk hn]
  have : p.block ≠ k := by
    intro e
    subst e
    rcases hp with hp | hp
    · exact hn hp
    · omega
  simp [World.setCell, Array.getElem?_modify, this]
theorem Frm.heap {S : Nat → Prop} {w w' : World} (h : Frm S w w') {k : Nat} {o : Obj} (hs : ¬ S k) (ho : w.heap[k]? = some o) : w'.heap[k]? = some o := by
  rw [h.block k (Array.getElem?_eq_some_iff.1 ho).1 hs, ho]
theorem Frm.cell {S : Nat → Prop} {w w' : World} (h : Frm S w w') {a : Addr} {u : Value} (hs : ¬ S a.block) (hc : w.cell? a = some u) : w'.cell? a = some u := by
  have hl := World.block_lt_of_cell? w a hc
  unfold World.cell? at hc ⊢
  rw [h.block _ hl hs]
  exact hc
theorem Frm.own {S : Nat → Prop} {w w' : World} {base e size n : Nat} {v : Value} {xs : List Value} (h : Frm S w w') (ho : w.ownsRow base e size v n xs) (hs : ∀ k, v.ownBlock = some k → ¬ S k) : w'.ownsRow base e size v n xs := by
  obtain ⟨h1, h2⟩ := ho
  refine ⟨h1, h2.imp id ?_⟩
  rintro ⟨g, cap, cur, rfl, hb, hh, r⟩
  exact ⟨g, cap, cur, rfl, hb, h.heap (hs g rfl) hh, r⟩
/-- A slice whose cells read so, one each. -/
def Cs (w : World) (v : Value) (cs : List Value) : Prop :=
  ∃ A c, v = .slice A cs.length c ∧ cs.length ≤ c ∧ c ≤ 9223372036854775807 ∧ (0 < cs.length → ∃ ad, A = some ad ∧ ∀ (j : Nat) (h : j < cs.length), w.cell? (ad.add j) = some cs[j])
/-- A slice of ints. -/
abbrev Is (w : World) (v : Value) (l : List Int) : Prop := Cs w v (l.map (Value.int .i64))
theorem Cs.keep {w w' : World} {v : Value} {l : List Value} (h : Cs w v l) (k : Keep w w') : Cs w' v l := by
  obtain ⟨A, c, e, h1, h2, h3⟩ := h
  exact ⟨A, c, e, h1, h2, fun hp => (h3 hp).imp fun ad ⟨ea, hc⟩ => ⟨ea, fun j hj => k.cell (hc j hj)⟩⟩
theorem Cs.nil (w : World) : Cs w (.slice none 0 0) [] := ⟨none, 0, rfl, by simp, by omega, fun h => by simp at h⟩
theorem Cs.src {w : World} {y : Value} {l : List Value} (h : Cs w y l) : Src w 1 y l.length l := by
  obtain ⟨A, c, rfl, h1, h2, h3⟩ := h
  refine ⟨by simp, A, c, rfl, fun hp => ?_⟩
  obtain ⟨ad, rfl, hc⟩ := h3 hp
  refine ⟨ad, rfl, fun j u hu => ?_⟩
  obtain ⟨hj, he⟩ := List.getElem?_eq_some_iff.1 hu
  rw [hc j hj, ← he]
theorem Cs.of_own {w : World} {base e n : Nat} {v : Value} {l : List Value} (h : w.ownsRow base e 1 v n l) : Cs w v l ∧ n = l.length := by
  have hc := h
  obtain ⟨hl, hr⟩ := h
  have hn : n = l.length := by omega
  subst hn
  refine ⟨?_, rfl⟩
  rcases hr with ⟨rfl, h0⟩ | ⟨g, cap, cur, rfl, hg, hh, h1, h2, h3, h4⟩
  · obtain rfl : l = [] := List.eq_nil_of_length_eq_zero h0
    exact Cs.nil w
  · exact ⟨_, cap, rfl, h1, by simpa [maxLen] using h2, fun _ => ⟨_, rfl, fun j hj => hc.cells (g := g) rfl j l[j] (by simp [hj])⟩⟩
theorem Cs.lit {w : World} {t : TypeId} {fr : Nat × Nat} {cs : Array Value} {n m k : Nat} (l : List Value) (hcs : cs = l.toArray) (hn : w.heap.size = n) (hm : m = l.length) (h1 : m ≤ k) (h2 : k ≤ 9223372036854775807) : Cs (w.alloc (.cells cs t fr)) (.slice (some ⟨n, 0, none⟩) m k) l := by
  subst hcs hn hm
  exact ⟨_, k, rfl, h1, h2, fun _ => ⟨_, rfl, fun j hj => by rw [cell_new]; simp [hj]⟩⟩
theorem int_one (l : List Int) (u : Value) (h : u ∈ l.map (Value.int .i64)) : u.oneCell' = true := by
  obtain ⟨b, _, rfl⟩ := List.mem_map.1 h
  rfl
/-- A row of the call's own. -/
theorem own_new {w : World} {base e : Nat} {cs : Array Value} {n m : Nat} (l : List Value) (hcs : cs = l.toArray) (hn : w.heap.size = n) (hm : m = l.length) (hb : base ≤ n) (h : l.length ≤ 9223372036854775807) :
    (w.alloc (.cells cs e)).ownsRow base e 1 (.slice (some ⟨n, 0, none⟩) m m) m l := by
  subst hcs hn hm
  refine ⟨by simp, .inr ⟨w.heap.size, l.length, _, rfl, hb, heap_alloc_new w _, Nat.le_refl _, by simpa [maxLen] using h, by simp, by simp [List.take_of_length_le]⟩⟩
theorem own_lower {w : World} {base base' e size n : Nat} {v : Value} {l : List Value} (h : w.ownsRow base e size v n l) (hb : base' ≤ base) : w.ownsRow base' e size v n l := by
  obtain ⟨h1, h2⟩ := h
  refine ⟨h1, h2.imp id ?_⟩
  rintro ⟨g, cap, cur, e, hg, r⟩
  exact ⟨g, cap, cur, e, Nat.le_trans hb hg, r⟩
theorem top_cells {w : World} {p : Nat} {cs : Array Value} {t : TypeId} (h : w.heap[p]? = some (.cells cs t)) (j : Nat) : w.cell? ⟨p, j, none⟩ = cs[j]? := cell_of_row _ _ _ _ _ _ h
theorem top_free {w : World} {p : Nat} {cs : Array Value} {t : TypeId} (h : w.heap[p]? = some (.cells cs t)) (j : Nat) : w.frozen? ⟨p, j, none⟩ = false := by simp [World.frozen?, h]
theorem own_slice {w : World} {base e size n : Nat} {v : Value} {l : List Value} (h : w.ownsRow base e size v n l) : ∃ A c, v = .slice A n c := by
  obtain ⟨_, ⟨rfl, rfl⟩ | ⟨g, cap, cur, rfl, _⟩⟩ := h
  · exact ⟨_, _, rfl⟩
  · exact ⟨_, _, rfl⟩
theorem own_keep {w w' : World} {base e size n : Nat} {v : Value} {xs : List Value} (h : w.ownsRow base e size v n xs) (k : Keep w w') : w'.ownsRow base e size v n xs := (k.frm fun _ => False).own h fun _ _ h => h
section
variable {P : Program}
/-- append of one-cell elements at the walk. -/
theorem app1 {w : World} {ops : Array Oper} {rest : List Oper} {o : Oper} {a : Act} {Q : Exit → Act → World → Prop} (hgd : o.guard = none) (s x : Operand) (t e : TypeId) (z : Value) (bytes : Nat) (ht : P.underlying t = some (.slice e))
    (hinfo : (P.info? e).map (fun i => (i.zero, i.size, i.bytes)) = some (some z, 1, bytes)) (hz : z.cells.size = 1) (hb : bytes ≤ 1000) (ho : o.op = .call { callee := .builtin .append, args := #[s, x], argTypes := #[t, t] })
    (base : Nat) (v : Value) (xs : List Value) (hs : a.eval s = v) (hown : w.ownsRow base e 1 v xs.length xs) (y : Value) (ys : List Value) (hx : a.eval x = y) (hy : Cs w y ys) (h1 : ∀ u ∈ ys, u.oneCell' = true) (hbase : base ≤ w.heap.size) (hl : xs.length + ys.length ≤ 1000000000)
    (h : ∀ v' w', w'.ownsRow base e 1 v' (xs ++ ys).length (xs ++ ys) → w.grownBy w' v.ownBlock → (v'.ownBlock = v.ownBlock ∨ v'.ownBlock = some w.heap.size) → wpList P ops Q rest (a.put o.dst v') w') : wpList P ops Q (o :: rest) a w :=
  wpList_app hgd s x t ho base e z 1 bytes ht hinfo hz (by omega) v xs.length xs hs hown y ys.length ys hx hy.src h1 (by simp only [maxLen]; omega) (by
    have : (xs.length + ys.length) * bytes ≤ 1000000000 * 1000 := Nat.mul_le_mul hl hb
    omega) hbase fun v' w' h2 => h v' w' (by rw [List.length_append]; exact h2.1) h2.2.1 h2.2.2
end
end Go.Proofs.Ytilhglnfjaablaa
