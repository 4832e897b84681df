/- Words for the walks: append onto a row of the call's own. No program is named here. -/
import Derived.Test.YtilhglnfjaablaaLib
namespace Go.Proofs.Ytilhglnfjaablaa
open Go.RowKit
/-- A slice whose cells are these (nil or empty let in): what an append takes from. -/
def Src (w : World) (size : Nat) (y : Value) (m : Nat) (news : List Value) : Prop :=
  news.length = m * size ∧ ∃ A c, y = .slice A m c ∧ (0 < m → ∃ ad, A = some ad ∧ ∀ j u, news[j]? = some u → w.cell? (ad.add j) = some u)
section
variable {P : Program}
theorem run_app (w : World) (base : Nat) (t ty e : TypeId) (i : TypeInfo) (z : Value) (size bytes : Nat) (ht : P.underlying t = some (.slice e)) (hi : P.info? e = some i) (hz : i.zero = some z)
    (hsize : i.size = size) (hby : i.bytes = bytes) (hzs : z.cells.size = size) (hsz : 0 < size)
    (v : Value) (n : Nat) (xs : List Value) (hown : w.ownsRow base e size v n xs) (y : Value) (m : Nat) (news : List Value) (hy : Src w size y m news) (h1 : ∀ u ∈ news, u.oneCell' = true)
    (h63 : n + m ≤ maxLen) (hbytes : (n + m) * bytes ≤ 140737488355328) (hbase : base ≤ w.heap.size) :
    ∃ v' w', (Builtin.append_ #[t, t] ty #[v, y]).run P w = .ok v' w' ∧ w'.ownsRow base e size v' (n + m) (xs ++ news) ∧ w.grownBy w' v.ownBlock ∧ (v'.ownBlock = v.ownBlock ∨ v'.ownBlock = some w.heap.size) := by
  obtain ⟨hl, A, c, rfl, hc⟩ := hy
  rcases A with _ | ad
  · have hm : m = 0 := by
      rcases Nat.eq_zero_or_pos m with h0 | h0
      · exact h0
      · obtain ⟨_, h, _⟩ := hc h0
        cases h
    subst hm
    have hn : news = [] := List.eq_nil_of_length_eq_zero (by simpa using hl)
    subst hn
    refine ⟨v, w, ?_, by simpa using hown, World.grownBy.refl w _, .inl rfl⟩
    rcases hown.2 with ⟨rfl, rfl⟩ | ⟨g, cap, cur, rfl, _, _, hnc, _⟩
    · simp [Builtin.append_, run_underlying ht, sizeOf, typeInfo, hi, Builtin.lenOf, Builtin.firstCells]
    · simp [Builtin.append_, run_underlying ht, sizeOf, typeInfo, hi, Builtin.lenOf, Builtin.firstCells, hnc, storeCells]
  · have hcells : ∀ j u, news[j]? = some u → w.cell? (ad.add j) = some u := by
      intro j u hu
      rcases Nat.eq_zero_or_pos m with h0 | h0
      · subst h0
        have hn : news = [] := List.eq_nil_of_length_eq_zero (by simpa using hl)
        subst hn
        simp at hu
      · obtain ⟨ad', h, h2⟩ := hc h0
        injection h with h
        subst h
        exact h2 j u hu
    obtain ⟨v', w', hr, h2, h3, _, h5⟩ := run_append_own_at (P := P) w base t ty e i z size bytes ht hi hz hsize hby hzs hsz v n xs hown ad m c news hl hcells h1 h63 hbytes hbase
    exact ⟨v', w', hr, h2, h3, h5⟩
/-- What an append leaves. -/
def App (w : World) (base e size : Nat) (v : Value) (n : Nat) (cs : List Value) (v' : Value) (w' : World) : Prop :=
  w'.ownsRow base e size v' n cs ∧ w.grownBy w' v.ownBlock ∧ (v'.ownBlock = v.ownBlock ∨ v'.ownBlock = some w.heap.size)
theorem wp_app {w : World} {o : Oper} {a : Act} {K : Act → World → Prop} {Q : Exit → Act → World → Prop} (s x : Operand) (t : TypeId)
    (ho : o.op = .call { callee := .builtin .append, args := #[s, x], argTypes := #[t, t] })
    (base e : Nat) (z : Value) (size bytes : Nat) (ht : P.underlying t = some (.slice e)) (hinfo : (P.info? e).map (fun i => (i.zero, i.size, i.bytes)) = some (some z, size, bytes)) (hzs : z.cells.size = size) (hsz : 0 < size)
    (v : Value) (n : Nat) (xs : List Value) (hs : a.eval s = v) (hown : w.ownsRow base e size v n xs)
    (y : Value) (m : Nat) (news : List Value) (hx : a.eval x = y) (hy : Src w size y m news) (h1 : ∀ u ∈ news, u.oneCell' = true)
    (h63 : n + m ≤ maxLen) (hbytes : (n + m) * bytes ≤ 140737488355328) (hbase : base ≤ w.heap.size)
    (h : ∀ v' w', App w base e size v (n + m) (xs ++ news) v' w' → K (a.put o.dst v') w') : o.wp P a w K Q := by
  obtain ⟨i0, hi, hzz⟩ := Option.map_eq_some_iff.1 hinfo
  simp only [Prod.mk.injEq] at hzz
  obtain ⟨hz0, hz1, hz2⟩ := hzz
  obtain ⟨v', w', hrun, h2, h3, h4⟩ := run_app (P := P) w base t o.type e i0 z size bytes ht hi hz0 hz1 hz2 hzs hsz v n xs hown y m news hy h1 h63 hbytes hbase
  unfold Oper.wp execOp
  simp only [ho, resolve, invoke, builtin, Sem.run_bind, Sem.run_pure, Result.andThen_ok, List.map_toArray, List.map_cons, List.map_nil, hs, hx, hrun]
  exact h v' w' ⟨h2, h3, h4⟩
theorem wpList_app {w : World} {ops : Array Oper} {rest : List Oper} {o : Oper} {a : Act} {Q : Exit → Act → World → Prop} (hgd : o.guard = none) (s x : Operand) (t : TypeId)
    (ho : o.op = .call { callee := .builtin .append, args := #[s, x], argTypes := #[t, t] })
    (base e : Nat) (z : Value) (size bytes : Nat) (ht : P.underlying t = some (.slice e)) (hinfo : (P.info? e).map (fun i => (i.zero, i.size, i.bytes)) = some (some z, size, bytes)) (hzs : z.cells.size = size) (hsz : 0 < size)
    (v : Value) (n : Nat) (xs : List Value) (hs : a.eval s = v) (hown : w.ownsRow base e size v n xs)
    (y : Value) (m : Nat) (news : List Value) (hx : a.eval x = y) (hy : Src w size y m news) (h1 : ∀ u ∈ news, u.oneCell' = true)
    (h63 : n + m ≤ maxLen) (hbytes : (n + m) * bytes ≤ 140737488355328) (hbase : base ≤ w.heap.size)
    (h : ∀ v' w', App w base e size v (n + m) (xs ++ news) v' w' → wpList P ops Q rest (a.put o.dst v') w') : wpList P ops Q (o :: rest) a w :=
  wpList_plain hgd fun _ hK => wp_app s x t ho base e z size bytes ht hinfo hzs hsz v n xs hs hown y m news hx hy h1 h63 hbytes hbase fun v' w' h2 => hK _ _ (h v' w' h2)
end

/-! ### bytes -/
theorem bv_one (u : Value) (l : List UInt8) (h : u ∈ l.map bv) : u.oneCell' = true := by
  obtain ⟨b, _, rfl⟩ := List.mem_map.1 h
  rfl
/-- A row of bytes of the call's own. -/
def Ob (w : World) (base e : Nat) (v : Value) (l : List UInt8) : Prop := w.ownsRow base e 1 v l.length (l.map bv)
theorem Ob.bs {w : World} {base e : Nat} {v : Value} {l : List UInt8} (h : Ob w base e v l) : Bs w v l := Bs.of_own h
theorem Ob.nil (w : World) (base e : Nat) : Ob w base e (.slice none 0 0) [] := ⟨by simp, .inl ⟨rfl, rfl⟩⟩
theorem Ob.keep {w w' : World} {base e : Nat} {v : Value} {l : List UInt8} (h : Ob w base e v l) (k : Keep w w') : Ob w' base e v l :=
  World.ownsRow.kept h ⟨k.os, k.tape, k.output, k.size, fun i hi _ => k.block i hi⟩ (by cases v.ownBlock <;> simp : v.ownBlock = none ∨ v.ownBlock ≠ none)
theorem Ob.lower {w : World} {base base' e : Nat} {v : Value} {l : List UInt8} (h : Ob w base e v l) (hb : base' ≤ base) : Ob w base' e v l := by
  obtain ⟨h1, h2⟩ := h
  refine ⟨h1, h2.imp id ?_⟩
  rintro ⟨g, cap, cur, e, hg, r⟩
  exact ⟨g, cap, cur, e, Nat.le_trans hb hg, r⟩
theorem Ob.base {w : World} {base e : Nat} {v : Value} {l : List UInt8} (h : Ob w base e v l) : ∀ k, v.ownBlock = some k → base ≤ k := fun k hk => (World.ownsRow.lt h k hk).1
theorem Ob.new {w : World} {base e : Nat} {cs : Array Value} {n m : Nat} (l : List UInt8) (hcs : cs = (l.map bv).toArray) (hn : w.heap.size = n) (hm : m = l.length) (hb : base ≤ n) (h : l.length ≤ 9223372036854775807) :
    Ob (w.alloc (.cells cs e)) base e (.slice (some ⟨n, 0, none⟩) m m) l := by
  subst hcs hn hm
  refine ⟨by simp, .inr ⟨w.heap.size, l.length, _, rfl, hb, heap_alloc_new w _, Nat.le_refl _, by simpa [maxLen] using h, by simp, by simp [List.take_of_length_le]⟩⟩
theorem Bs.src {w : World} {y : Value} {l : List UInt8} (h : Bs w y l) : Src w 1 y l.length (l.map bv) := by
  obtain ⟨A, c, rfl, h1, h2, h3⟩ := h
  refine ⟨by simp, A, c, rfl, fun hp => ?_⟩
  obtain ⟨ad, rfl, hc⟩ := h3 hp
  refine ⟨ad, rfl, fun j u hu => ?_⟩
  obtain ⟨hj, he⟩ := List.getElem?_eq_some_iff.1 hu
  simp only [List.length_map] at hj
  rw [hc j hj, ← he]
  simp
/-- The one byte that is appended lies in a block of its own. -/
theorem Bs.box {w : World} {t n : Nat} {b : UInt8} {u : Value} (hu : u = bv b) (hn : w.heap.size = n) : Bs (w.alloc (.cells #[u] t)) (.slice (some ⟨n, 0, none⟩) 1 1) [b] := by
  subst hu
  exact Bs.lit [b] rfl hn rfl (by simp) (by simp)
/-- What an append of bytes leaves: the row, all else below 'base' as it was. -/
theorem App.ob {w w' : World} {base e : Nat} {v v' : Value} {l m : List UInt8} {n : Nat} (h : App w base e 1 v n (l.map bv ++ m.map bv) v' w') (hn : n = l.length + m.length) : Ob w' base e v' (l ++ m) := by
  subst hn
  have := h.1
  unfold Ob
  rw [List.map_append, List.length_append]
  exact this
theorem App.below {w w0 w' : World} {base e size n : Nat} {v v' : Value} {cs : List Value} (h : App w base e size v n cs v' w') (hb : Below base w0 w) (hB : base ≤ w.heap.size) (hv : ∀ k, v.ownBlock = some k → base ≤ k) : Below base w0 w' :=
  hb.grown h.2.1 hB hv
theorem add_pl (g j : Nat) : (⟨g, 0, none⟩ : Addr).add j = ⟨g, j, none⟩ := by unfold Addr.add; split <;> simp_all
theorem Ob.form {w : World} {base e : Nat} {v : Value} {l : List UInt8} (h : Ob w base e v l) (h0 : 0 < l.length) :
    ∃ g cap, v = .slice (some ⟨g, 0, none⟩) l.length cap ∧ l.length ≤ cap ∧ base ≤ g ∧ g < w.heap.size ∧ (∀ (j : Nat) (hj : j < l.length), w.cell? ⟨g, j, none⟩ = some (bv l[j])) ∧ ∀ j, w.frozen? ⟨g, j, none⟩ = false := by
  have hc := h
  obtain ⟨hl, hr⟩ := h
  rcases hr with ⟨rfl, h1⟩ | ⟨g, cap, cur, rfl, hg, hh, h1, h2, h3, h4⟩
  · omega
  · refine ⟨g, cap, rfl, h1, hg, (World.ownsRow.lt hc g rfl).2, fun j hj => ?_, fun j => by simp [World.frozen?, hh]⟩
    have := hc.cells (g := g) rfl j (bv l[j]) (by simp [hj])
    rwa [add_pl] at this
theorem Ob.set {w : World} {base e g n cap : Nat} {l : List UInt8} (h : Ob w base e (.slice (some ⟨g, 0, none⟩) n cap) l) (hn : n = l.length) (j : Nat) (b : UInt8) : Ob (w.setCell ⟨g, j, none⟩ (bv b)) base e (.slice (some ⟨g, 0, none⟩) n cap) (l.set j b) := by
  subst hn
  have := (World.ownsRow.stored h j (bv b)).1
  unfold Ob
  rw [List.length_set, List.map_set]
  exact this
end Go.Proofs.Ytilhglnfjaablaa
