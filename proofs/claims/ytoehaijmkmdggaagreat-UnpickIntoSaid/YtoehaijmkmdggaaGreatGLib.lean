/- Words for the walks: bytes as they lie in memory, slices that are read. No program is named here. Words for the walks: append onto a row of the call's own. No program is named here. Words for the walks: what a call may change of what was there. No program is named here. Words for the walks: bytes as a string. No program is named here. Words for the walks: slices of slices, in one spelling. No program is named here. Words for the walks: a map from ints to anything, as a function. No program is named here. Words for the walks, of this program's own types: bytes appended. Words for the walks: a string as bytes. No program is named here. -/
import Derived.WalkKit
import GoSem.Claim
import Derived.Deep.QuietTactic
import Derived.BigQuiet
import Derived.Deep.LoopGhost
import Derived.Deep.AppendLies
import Derived.Maps.AppendAt
import Derived.Lib.SlBytesConst
import Derived.Laws.BytesArg
import Derived.Maps.Own
import Derived.Test.YtoehaijmkmdggaaGreatProg
import Derived.Lib.ConvBytes
import Derived.Laws.AppendOwn
set_option linter.unusedSimpArgs false
set_option linter.unusedVariables false
namespace Go.Proofs.YtoehaijmkmdggaaGreat
open Go.RowKit

/-- A fact that the walk does not look into. -/
theorem hide {p : Prop} (h : p) : Hid p := h
/-- A byte as a value. -/
def bv (b : UInt8) : Value := .int .u8 (b.toNat : Int)
/-- What was there is as it was. -/
abbrev Keep (w w' : World) : Prop := Below w.heap.size w w'
theorem Keep.tr {a b c : World} (h : Keep a b) (k : Keep b c) : Keep a c :=
  h.trans (k.mono h.size)
/-- A slice that reads as bytes. -/
def Bs (w : World) (v : Value) (l : List UInt8) : Prop :=
  ∃ A c, v = .slice A l.length c ∧ l.length ≤ c ∧ c ≤ 9223372036854775807 ∧ (0 < l.length → ∃ ad, A = some ad ∧ ∀ (j : Nat) (h : j < l.length), w.cell? (ad.add j) = some (bv l[j]))
theorem u8_back (n : Int) (h : (Lit.int .u8 n).wf = true) : n = ((UInt8.ofNat n.toNat).toNat : Int) := by
  have hw : 0 ≤ n ∧ n < 256 := by
    simp [Lit.wf, IntKind.min, IntKind.max, IntKind.bits, IntKind.signed] at h
    omega
  simp [UInt8.toNat_ofNat']
  omega
theorem in_i64 {n : Int} (h : (Lit.int .i64 n).wf = true) : -9223372036854775808 ≤ n ∧ n ≤ 9223372036854775807 := by
  simp [Lit.wf, IntKind.min, IntKind.max, IntKind.bits, IntKind.signed] at h
  omega
theorem in_u8 {n : Int} (h : (Lit.int .u8 n).wf = true) : ∃ b : UInt8, n = (b.toNat : Int) := ⟨_, u8_back n h⟩
theorem Keep.rf (w : World) : Keep w w := Below.refl _ _
theorem Keep.al {a w : World} (h : Keep a w) (o : Obj) : Keep a (w.alloc o) := h.alloc h.size o
theorem Keep.dn {a w : World} (h : Keep a w) (n : Nat) : Keep a (w.drewN n) := ⟨h.os, h.tape, h.output, h.size, h.block⟩
theorem Keep.dr {a w : World} (h : Keep a w) : Keep a w.drew := h.drew
theorem Keep.st {a w : World} (h : Keep a w) {p : Addr} (hp : a.heap.size ≤ p.block) (u : Value) : Keep a (w.setCell p u) := h.setCell hp u
theorem Keep.cell {w w' : World} (h : Keep w w') {a : Addr} {u : Value} (hc : w.cell? a = some u) : w'.cell? a = some u :=
  (Below.cell h (World.block_lt_of_cell? w a hc)).trans hc
theorem Bs.keep {w w' : World} {v : Value} {l : List UInt8} (h : Bs w v l) (k : Keep w w') : Bs w' v l := by
  obtain ⟨A, c, e, h1, h2, h3⟩ := h
  exact ⟨A, c, e, h1, h2, fun hp => (h3 hp).imp fun ad ⟨ea, hc⟩ => ⟨ea, fun j hj => k.cell (hc j hj)⟩⟩
theorem Bs.len {w : World} {v : Value} {l : List UInt8} (h : Bs w v l) : l.length ≤ 9223372036854775807 := by
  obtain ⟨A, c, e, h1, h2, h3⟩ := h; omega
theorem Bs.nil (w : World) : Bs w (.slice none 0 0) [] := ⟨none, 0, rfl, by simp, by omega, fun h => by simp at h⟩
theorem Bs.of_cells {w : World} {ad : Addr} {l : List UInt8} {c : Nat} (h1 : l.length ≤ c) (h2 : c ≤ 9223372036854775807) (h : ∀ (j : Nat) (h : j < l.length), w.cell? (ad.add j) = some (bv l[j])) : Bs w (.slice (some ad) l.length c) l :=
  ⟨some ad, c, rfl, h1, h2, fun _ => ⟨ad, rfl, h⟩⟩
theorem Bs.of_own {w : World} {base : Nat} {e : TypeId} {v : Value} {l : List UInt8} (h : w.ownsRow base e 1 v l.length (l.map bv)) : Bs w v l := by
  have hc := h
  obtain ⟨hl, hr⟩ := h
  rcases hr with ⟨rfl, h0⟩ | ⟨g, cap, cur, rfl, hg, hh, h1, h2, h3, h4⟩
  · obtain rfl : l = [] := List.eq_nil_of_length_eq_zero h0
    exact Bs.nil w
  · refine Bs.of_cells h1 (by simpa [maxLen] using h2) fun j hj => ?_
    exact hc.cells (g := g) rfl j (bv l[j]) (by simp [hj])
/-- What a new row of cells holds. -/
theorem cell_new (w : World) (cs : Array Value) (t : TypeId) (j : Nat) {fr : Nat × Nat} : (w.alloc (.cells cs t fr)).cell? ((⟨w.heap.size, 0, none⟩ : Addr).add j) = cs[j]? := by
  have : (⟨w.heap.size, 0, none⟩ : Addr).add j = ⟨w.heap.size, j, none⟩ := by unfold Addr.add; split <;> simp_all
  rw [this]
  exact cell_of_row _ _ _ _ _ _ (heap_alloc_new w _)
theorem Bs.lit {w : World} {t : TypeId} {fr : Nat × Nat} {cs : Array Value} {n m k : Nat} (l : List UInt8) (hcs : cs = (l.map bv).toArray) (hn : w.heap.size = n) (hm : m = l.length) (h1 : m ≤ k) (h2 : k ≤ 9223372036854775807) : Bs (w.alloc (.cells cs t fr)) (.slice (some ⟨n, 0, none⟩) m k) l := by
  subst hcs hn hm
  exact Bs.of_cells h1 h2 fun j hj => by rw [cell_new]; simp [hj]
theorem ret_int {k : IntKind} {a b : Int} (h : a = b) : Ending.returned (.int k a) = .returned (.int k b) := by rw [h]
theorem take_snoc {α : Type} (l : List α) (k : Nat) (h : k < l.length) : l.take (k + 1) = l.take k ++ [l[k]] := by
  rw [List.take_succ_eq_append_getElem h]
end Go.Proofs.YtoehaijmkmdggaaGreat
namespace Go.Proofs.YtoehaijmkmdggaaGreat
open Go.RowKit
/-- A slice whose cells are these (nil or empty let in): what an append takes from. -/
def Src (w : World) (size : Nat) (y : Value) (m : Nat) (news : List Value) : Prop :=
  news.length = m * size ∧ ∃ A c, y = .slice A m c ∧ (0 < m → ∃ ad, A = some ad ∧ ∀ j u, news[j]? = some u → w.cell? (ad.add j) = some u)
section
variable {P : Program}
theorem run_app (w : World) (base : Nat) (t ty e : TypeId) (i : TypeInfo) (z : Value) (size bytes : Nat) (ht : P.underlying t = some (.slice e)) (hi : P.info? e = some i) (hz : i.zero = some z)
    (hsize : i.size = size) (hby : i.bytes = bytes) (hzs : z.cells.size = size) (hsz : 0 < size)
    (v : Value) (n : Nat) (xs : List Value) (hown : w.ownsRow base e size v n xs) (y : Value) (m : Nat) (news : List Value) (hy : Src w size y m news) (h1 : ∀ u ∈ news, u.oneCell' = true)
    (h63 : n + m ≤ maxLen) (hbytes : (n + m) * bytes ≤ 140737488355328) (hbase : base ≤ w.heap.size) :
    ∃ v' w', (Builtin.append_ #[t, t] ty #[v, y]).run P w = .ok v' w' ∧ w'.ownsRow base e size v' (n + m) (xs ++ news) ∧ w.grownBy w' v.ownBlock ∧ (v'.ownBlock = v.ownBlock ∨ v'.ownBlock = some w.heap.size) := by
  obtain ⟨hl, A, c, rfl, hc⟩ := hy
  rcases A with _ | ad
  · have hm : m = 0 := by
      rcases Nat.eq_zero_or_pos m with h0 | h0
      · exact h0
      · obtain ⟨_, h, _⟩ := hc h0
        cases h
    subst hm
    have hn : news = [] := List.eq_nil_of_length_eq_zero (by simpa using hl)
    subst hn
    refine ⟨v, w, ?_, by simpa using hown, World.grownBy.refl w _, .inl rfl⟩
    rcases hown.2 with ⟨rfl, rfl⟩ | ⟨g, cap, cur, rfl, _, _, hnc, _⟩
    · simp [Builtin.append_, run_underlying ht, sizeOf, typeInfo, hi, Builtin.lenOf, Builtin.firstCells]
    · simp [Builtin.append_, run_underlying ht, sizeOf, typeInfo, hi, Builtin.lenOf, Builtin.firstCells, hnc, storeCells]
  · have hcells : ∀ j u, news[j]? = some u → w.cell? (ad.add j) = some u := by
      intro j u hu
      rcases Nat.eq_zero_or_pos m with h0 | h0
      · subst h0
        have hn : news = [] := List.eq_nil_of_length_eq_zero (by simpa using hl)
        subst hn
        simp at hu
      · obtain ⟨ad', h, h2⟩ := hc h0
        injection h with h
        subst h
        exact h2 j u hu
    obtain ⟨v', w', hr, h2, h3, _, h5⟩ := run_append_own_at (P := P) w base t ty e i z size bytes ht hi hz hsize hby hzs hsz v n xs hown ad m c news hl hcells h1 h63 hbytes hbase
    exact ⟨v', w', hr, h2, h3, h5⟩
/-- What an append leaves. -/
def App (w : World) (base e size : Nat) (v : Value) (n : Nat) (cs : List Value) (v' : Value) (w' : World) : Prop :=
  w'.ownsRow base e size v' n cs ∧ w.grownBy w' v.ownBlock ∧ (v'.ownBlock = v.ownBlock ∨ v'.ownBlock = some w.heap.size)
theorem wp_app {w : World} {o : Oper} {a : Act} {K : Act → World → Prop} {Q : Exit → Act → World → Prop} (s x : Operand) (t : TypeId)
    (ho : o.op = .call { callee := .builtin .append, args := #[s, x], argTypes := #[t, t] })
    (base e : Nat) (z : Value) (size bytes : Nat) (ht : P.underlying t = some (.slice e)) (hinfo : (P.info? e).map (fun i => (i.zero, i.size, i.bytes)) = some (some z, size, bytes)) (hzs : z.cells.size = size) (hsz : 0 < size)
    (v : Value) (n : Nat) (xs : List Value) (hs : a.eval s = v) (hown : w.ownsRow base e size v n xs)
    (y : Value) (m : Nat) (news : List Value) (hx : a.eval x = y) (hy : Src w size y m news) (h1 : ∀ u ∈ news, u.oneCell' = true)
    (h63 : n + m ≤ maxLen) (hbytes : (n + m) * bytes ≤ 140737488355328) (hbase : base ≤ w.heap.size)
    (h : ∀ v' w', App w base e size v (n + m) (xs ++ news) v' w' → K (a.put o.dst v') w') : o.wp P a w K Q := by
  obtain ⟨i0, hi, hzz⟩ := Option.map_eq_some_iff.1 hinfo
  simp only [Prod.mk.injEq] at hzz
  obtain ⟨hz0, hz1, hz2⟩ := hzz
  obtain ⟨v', w', hrun, h2, h3, h4⟩ := run_app (P := P) w base t o.type e i0 z size bytes ht hi hz0 hz1 hz2 hzs hsz v n xs hown y m news hy h1 h63 hbytes hbase
  unfold Oper.wp execOp
  simp only [ho, resolve, invoke, builtin, Sem.run_bind, Sem.run_pure, Result.andThen_ok, List.map_toArray, List.map_cons, List.map_nil, hs, hx, hrun]
  exact h v' w' ⟨h2, h3, h4⟩
theorem wpList_app {w : World} {ops : Array Oper} {rest : List Oper} {o : Oper} {a : Act} {Q : Exit → Act → World → Prop} (hgd : o.guard = none) (s x : Operand) (t : TypeId)
    (ho : o.op = .call { callee := .builtin .append, args := #[s, x], argTypes := #[t, t] })
    (base e : Nat) (z : Value) (size bytes : Nat) (ht : P.underlying t = some (.slice e)) (hinfo : (P.info? e).map (fun i => (i.zero, i.size, i.bytes)) = some (some z, size, bytes)) (hzs : z.cells.size = size) (hsz : 0 < size)
    (v : Value) (n : Nat) (xs : List Value) (hs : a.eval s = v) (hown : w.ownsRow base e size v n xs)
    (y : Value) (m : Nat) (news : List Value) (hx : a.eval x = y) (hy : Src w size y m news) (h1 : ∀ u ∈ news, u.oneCell' = true)
    (h63 : n + m ≤ maxLen) (hbytes : (n + m) * bytes ≤ 140737488355328) (hbase : base ≤ w.heap.size)
    (h : ∀ v' w', App w base e size v (n + m) (xs ++ news) v' w' → wpList P ops Q rest (a.put o.dst v') w') : wpList P ops Q (o :: rest) a w :=
  wpList_plain hgd fun _ hK => wp_app s x t ho base e z size bytes ht hinfo hzs hsz v n xs hs hown y m news hx hy h1 h63 hbytes hbase fun v' w' h2 => hK _ _ (h v' w' h2)
end

/-! ### bytes -/
theorem bv_one (u : Value) (l : List UInt8) (h : u ∈ l.map bv) : u.oneCell' = true := by
  obtain ⟨b, _, rfl⟩ := List.mem_map.1 h
  rfl
/-- A row of bytes of the call's own. -/
def Ob (w : World) (base e : Nat) (v : Value) (l : List UInt8) : Prop := w.ownsRow base e 1 v l.length (l.map bv)
theorem Ob.bs {w : World} {base e : Nat} {v : Value} {l : List UInt8} (h : Ob w base e v l) : Bs w v l := Bs.of_own h
theorem Ob.nil (w : World) (base e : Nat) : Ob w base e (.slice none 0 0) [] := ⟨by simp, .inl ⟨rfl, rfl⟩⟩
theorem Ob.keep {w w' : World} {base e : Nat} {v : Value} {l : List UInt8} (h : Ob w base e v l) (k : Keep w w') : Ob w' base e v l :=
  World.ownsRow.kept h ⟨k.os, k.tape, k.output, k.size, fun i hi _ => k.block i hi⟩ (by cases v.ownBlock <;> simp : v.ownBlock = none ∨ v.ownBlock ≠ none)
theorem Ob.base {w : World} {base e : Nat} {v : Value} {l : List UInt8} (h : Ob w base e v l) : ∀ k, v.ownBlock = some k → base ≤ k := fun k hk => (World.ownsRow.lt h k hk).1
theorem Ob.new {w : World} {base e : Nat} {cs : Array Value} {n m : Nat} (l : List UInt8) (hcs : cs = (l.map bv).toArray) (hn : w.heap.size = n) (hm : m = l.length) (hb : base ≤ n) (h : l.length ≤ 9223372036854775807) :
    Ob (w.alloc (.cells cs e)) base e (.slice (some ⟨n, 0, none⟩) m m) l := by
  subst hcs hn hm
  refine ⟨by simp, .inr ⟨w.heap.size, l.length, _, rfl, hb, heap_alloc_new w _, Nat.le_refl _, by simpa [maxLen] using h, by simp, by simp [List.take_of_length_le]⟩⟩
theorem Bs.src {w : World} {y : Value} {l : List UInt8} (h : Bs w y l) : Src w 1 y l.length (l.map bv) := by
  obtain ⟨A, c, rfl, h1, h2, h3⟩ := h
  refine ⟨by simp, A, c, rfl, fun hp => ?_⟩
  obtain ⟨ad, rfl, hc⟩ := h3 hp
  refine ⟨ad, rfl, fun j u hu => ?_⟩
  obtain ⟨hj, he⟩ := List.getElem?_eq_some_iff.1 hu
  simp only [List.length_map] at hj
  rw [hc j hj, ← he]
  simp
/-- The one byte that is appended lies in a block of its own. -/
theorem Bs.box {w : World} {t n : Nat} {b : UInt8} {u : Value} (hu : u = bv b) (hn : w.heap.size = n) : Bs (w.alloc (.cells #[u] t)) (.slice (some ⟨n, 0, none⟩) 1 1) [b] := by
  subst hu
  exact Bs.lit [b] rfl hn rfl (by simp) (by simp)
/-- What an append of bytes leaves: the row, all else below 'base' as it was. -/
theorem App.ob {w w' : World} {base e : Nat} {v v' : Value} {l m : List UInt8} {n : Nat} (h : App w base e 1 v n (l.map bv ++ m.map bv) v' w') (hn : n = l.length + m.length) : Ob w' base e v' (l ++ m) := by
  subst hn
  have := h.1
  unfold Ob
  rw [List.map_append, List.length_append]
  exact this
theorem App.below {w w0 w' : World} {base e size n : Nat} {v v' : Value} {cs : List Value} (h : App w base e size v n cs v' w') (hb : Below base w0 w) (hB : base ≤ w.heap.size) (hv : ∀ k, v.ownBlock = some k → base ≤ k) : Below base w0 w' :=
  hb.grown h.2.1 hB hv
theorem add_pl (g j : Nat) : (⟨g, 0, none⟩ : Addr).add j = ⟨g, j, none⟩ := by unfold Addr.add; split <;> simp_all
theorem Ob.set {w : World} {base e g n cap : Nat} {l : List UInt8} (h : Ob w base e (.slice (some ⟨g, 0, none⟩) n cap) l) (hn : n = l.length) (j : Nat) (b : UInt8) : Ob (w.setCell ⟨g, j, none⟩ (bv b)) base e (.slice (some ⟨g, 0, none⟩) n cap) (l.set j b) := by
  subst hn
  have := (World.ownsRow.stored h j (bv b)).1
  unfold Ob
  rw [List.length_set, List.map_set]
  exact this
end Go.Proofs.YtoehaijmkmdggaaGreat
namespace Go.Proofs.YtoehaijmkmdggaaGreat
open Go.RowKit
/-- Of what was there, at most the blocks of S are changed. -/
structure Frm (S : Nat → Prop) (w w' : World) : Prop where
  os : w'.os = w.os
  tape : w'.tape = w.tape
  output : w'.output = w.output
  size : w.heap.size ≤ w'.heap.size
  block : ∀ k, k < w.heap.size → ¬ S k → w'.heap[k]? = w.heap[k]?
theorem Frm.rf (S : Nat → Prop) (w : World) : Frm S w w := ⟨rfl, rfl, rfl, Nat.le_refl _, fun _ _ _ => rfl⟩
theorem Keep.frm {w w' : World} (h : Keep w w') (S : Nat → Prop) : Frm S w w' := ⟨h.os, h.tape, h.output, h.size, fun k hk _ => h.block k hk⟩
theorem Frm.of_grown {S : Nat → Prop} {w w' : World} {row : Option Nat} (h : w.grownBy w' row) (hr : ∀ k, row = some k → S k) : Frm S w w' :=
  ⟨h.os, h.tape, h.output, h.size, fun k hk hs => h.block k hk fun e => hs (hr k e.symm)⟩
theorem Frm.mono {S T : Nat → Prop} {w w' : World} (h : Frm S w w') (hs : ∀ k, k < w.heap.size → S k → T k) : Frm T w w' := ⟨h.os, h.tape, h.output, h.size, fun k hk ht => h.block k hk fun s => ht (hs k hk s)⟩
/-- One call after the other: what the second one changes was the first one's, or is new. -/
theorem Frm.trn {S T : Nat → Prop} {a b c : World} (h : Frm S a b) (k : Frm T b c) (hs : ∀ i, T i → S i ∨ a.heap.size ≤ i) : Frm S a c :=
  ⟨k.os.trans h.os, k.tape.trans h.tape, k.output.trans h.output, Nat.le_trans h.size k.size, fun i hi hn => by
    rw [k.block i (Nat.lt_of_lt_of_le hi h.size) (fun t => by rcases hs i t with s | s; exact hn s; omega), h.block i hi hn]⟩
theorem Frm.tr {S : Nat → Prop} {a b c : World} (h : Frm S a b) (k : Frm S b c) : Frm S a c := h.trn k fun _ t => .inl t
theorem Frm.keep {S : Nat → Prop} {w0 a b : World} (h : Keep w0 a) (k : Frm S a b) (hs : ∀ i, S i → w0.heap.size ≤ i) : Keep w0 b :=
  ⟨k.os.trans h.os, k.tape.trans h.tape, k.output.trans h.output, Nat.le_trans h.size k.size, fun i hi => by
    rw [k.block i (Nat.lt_of_lt_of_le hi h.size) (fun t => by have := hs i t; omega), h.block i hi]⟩
theorem Frm.dr {S : Nat → Prop} {a w : World} (h : Frm S a w) : Frm S a w.drew := ⟨h.os, h.tape, h.output, h.size, h.block⟩
theorem Frm.al {S : Nat → Prop} {a w : World} (h : Frm S a w) (o : Obj) : Frm S a (w.alloc o) := h.trn ((Keep.rf w).al o |>.frm fun _ => False) (fun _ h => h.elim)
theorem Frm.st {S : Nat → Prop} {a w : World} (h : Frm S a w) {p : Addr} (hp : S p.block ∨ a.heap.size ≤ p.block) (u : Value) : Frm S a (w.setCell p u) := by
  refine ⟨h.os, h.tape, h.output, by simp [World.setCell]; exact h.size, fun k hk hn => ?_⟩
  rw [← h.block k hk hn]
  have : p.block ≠ k := by
    intro e
    subst e
    rcases hp with hp | hp
    · exact hn hp
    · omega
  simp [World.setCell, Array.getElem?_modify, this]
theorem Frm.heap {S : Nat → Prop} {w w' : World} (h : Frm S w w') {k : Nat} {o : Obj} (hs : ¬ S k) (ho : w.heap[k]? = some o) : w'.heap[k]? = some o := by
  rw [h.block k (Array.getElem?_eq_some_iff.1 ho).1 hs, ho]
theorem Frm.cell {S : Nat → Prop} {w w' : World} (h : Frm S w w') {a : Addr} {u : Value} (hs : ¬ S a.block) (hc : w.cell? a = some u) : w'.cell? a = some u := by
  have hl := World.block_lt_of_cell? w a hc
  unfold World.cell? at hc ⊢
  rw [h.block _ hl hs]
  exact hc
theorem Frm.own {S : Nat → Prop} {w w' : World} {base e size n : Nat} {v : Value} {xs : List Value} (h : Frm S w w') (ho : w.ownsRow base e size v n xs) (hs : ∀ k, v.ownBlock = some k → ¬ S k) : w'.ownsRow base e size v n xs := by
  obtain ⟨h1, h2⟩ := ho
  refine ⟨h1, h2.imp id ?_⟩
  rintro ⟨g, cap, cur, rfl, hb, hh, r⟩
  exact ⟨g, cap, cur, rfl, hb, h.heap (hs g rfl) hh, r⟩
/-- A slice whose cells read so, one each. -/
def Cs (w : World) (v : Value) (cs : List Value) : Prop :=
  ∃ A c, v = .slice A cs.length c ∧ cs.length ≤ c ∧ c ≤ 9223372036854775807 ∧ (0 < cs.length → ∃ ad, A = some ad ∧ ∀ (j : Nat) (h : j < cs.length), w.cell? (ad.add j) = some cs[j])
/-- A slice of ints. -/
abbrev Is (w : World) (v : Value) (l : List Int) : Prop := Cs w v (l.map (Value.int .i64))
theorem Cs.keep {w w' : World} {v : Value} {l : List Value} (h : Cs w v l) (k : Keep w w') : Cs w' v l := by
  obtain ⟨A, c, e, h1, h2, h3⟩ := h
  exact ⟨A, c, e, h1, h2, fun hp => (h3 hp).imp fun ad ⟨ea, hc⟩ => ⟨ea, fun j hj => k.cell (hc j hj)⟩⟩
theorem Cs.nil (w : World) : Cs w (.slice none 0 0) [] := ⟨none, 0, rfl, by simp, by omega, fun h => by simp at h⟩
theorem Cs.src {w : World} {y : Value} {l : List Value} (h : Cs w y l) : Src w 1 y l.length l := by
  obtain ⟨A, c, rfl, h1, h2, h3⟩ := h
  refine ⟨by simp, A, c, rfl, fun hp => ?_⟩
  obtain ⟨ad, rfl, hc⟩ := h3 hp
  refine ⟨ad, rfl, fun j u hu => ?_⟩
  obtain ⟨hj, he⟩ := List.getElem?_eq_some_iff.1 hu
  rw [hc j hj, ← he]
theorem Cs.of_own {w : World} {base e n : Nat} {v : Value} {l : List Value} (h : w.ownsRow base e 1 v n l) : Cs w v l ∧ n = l.length := by
  have hc := h
  obtain ⟨hl, hr⟩ := h
  have hn : n = l.length := by omega
  subst hn
  refine ⟨?_, rfl⟩
  rcases hr with ⟨rfl, h0⟩ | ⟨g, cap, cur, rfl, hg, hh, h1, h2, h3, h4⟩
  · obtain rfl : l = [] := List.eq_nil_of_length_eq_zero h0
    exact Cs.nil w
  · exact ⟨_, cap, rfl, h1, by simpa [maxLen] using h2, fun _ => ⟨_, rfl, fun j hj => hc.cells (g := g) rfl j l[j] (by simp [hj])⟩⟩
theorem Cs.lit {w : World} {t : TypeId} {fr : Nat × Nat} {cs : Array Value} {n m k : Nat} (l : List Value) (hcs : cs = l.toArray) (hn : w.heap.size = n) (hm : m = l.length) (h1 : m ≤ k) (h2 : k ≤ 9223372036854775807) : Cs (w.alloc (.cells cs t fr)) (.slice (some ⟨n, 0, none⟩) m k) l := by
  subst hcs hn hm
  exact ⟨_, k, rfl, h1, h2, fun _ => ⟨_, rfl, fun j hj => by rw [cell_new]; simp [hj]⟩⟩
theorem int_one (l : List Int) (u : Value) (h : u ∈ l.map (Value.int .i64)) : u.oneCell' = true := by
  obtain ⟨b, _, rfl⟩ := List.mem_map.1 h
  rfl
/-- A row of the call's own. -/
theorem own_new {w : World} {base e : Nat} {cs : Array Value} {n m : Nat} (l : List Value) (hcs : cs = l.toArray) (hn : w.heap.size = n) (hm : m = l.length) (hb : base ≤ n) (h : l.length ≤ 9223372036854775807) :
    (w.alloc (.cells cs e)).ownsRow base e 1 (.slice (some ⟨n, 0, none⟩) m m) m l := by
  subst hcs hn hm
  refine ⟨by simp, .inr ⟨w.heap.size, l.length, _, rfl, hb, heap_alloc_new w _, Nat.le_refl _, by simpa [maxLen] using h, by simp, by simp [List.take_of_length_le]⟩⟩
theorem own_lower {w : World} {base base' e size n : Nat} {v : Value} {l : List Value} (h : w.ownsRow base e size v n l) (hb : base' ≤ base) : w.ownsRow base' e size v n l := by
  obtain ⟨h1, h2⟩ := h
  refine ⟨h1, h2.imp id ?_⟩
  rintro ⟨g, cap, cur, e, hg, r⟩
  exact ⟨g, cap, cur, e, Nat.le_trans hb hg, r⟩
theorem top_cells {w : World} {p : Nat} {cs : Array Value} {t : TypeId} (h : w.heap[p]? = some (.cells cs t)) (j : Nat) : w.cell? ⟨p, j, none⟩ = cs[j]? := cell_of_row _ _ _ _ _ _ h
theorem top_free {w : World} {p : Nat} {cs : Array Value} {t : TypeId} (h : w.heap[p]? = some (.cells cs t)) (j : Nat) : w.frozen? ⟨p, j, none⟩ = false := by simp [World.frozen?, h]
theorem own_slice {w : World} {base e size n : Nat} {v : Value} {l : List Value} (h : w.ownsRow base e size v n l) : ∃ A c, v = .slice A n c := by
  obtain ⟨_, ⟨rfl, rfl⟩ | ⟨g, cap, cur, rfl, _⟩⟩ := h
  · exact ⟨_, _, rfl⟩
  · exact ⟨_, _, rfl⟩
theorem own_keep {w w' : World} {base e size n : Nat} {v : Value} {xs : List Value} (h : w.ownsRow base e size v n xs) (k : Keep w w') : w'.ownsRow base e size v n xs := (k.frm fun _ => False).own h fun _ _ h => h
section
variable {P : Program}
/-- append of one-cell elements at the walk. -/
theorem app1 {w : World} {ops : Array Oper} {rest : List Oper} {o : Oper} {a : Act} {Q : Exit → Act → World → Prop} (hgd : o.guard = none) (s x : Operand) (t e : TypeId) (z : Value) (bytes : Nat) (ht : P.underlying t = some (.slice e))
    (hinfo : (P.info? e).map (fun i => (i.zero, i.size, i.bytes)) = some (some z, 1, bytes)) (hz : z.cells.size = 1) (hb : bytes ≤ 1000) (ho : o.op = .call { callee := .builtin .append, args := #[s, x], argTypes := #[t, t] })
    (base : Nat) (v : Value) (xs : List Value) (hs : a.eval s = v) (hown : w.ownsRow base e 1 v xs.length xs) (y : Value) (ys : List Value) (hx : a.eval x = y) (hy : Cs w y ys) (h1 : ∀ u ∈ ys, u.oneCell' = true) (hbase : base ≤ w.heap.size) (hl : xs.length + ys.length ≤ 1000000000)
    (h : ∀ v' w', w'.ownsRow base e 1 v' (xs ++ ys).length (xs ++ ys) → w.grownBy w' v.ownBlock → (v'.ownBlock = v.ownBlock ∨ v'.ownBlock = some w.heap.size) → wpList P ops Q rest (a.put o.dst v') w') : wpList P ops Q (o :: rest) a w :=
  wpList_app hgd s x t ho base e z 1 bytes ht hinfo hz (by omega) v xs.length xs hs hown y ys.length ys hx hy.src h1 (by simp only [maxLen]; omega) (by
    have : (xs.length + ys.length) * bytes ≤ 1000000000 * 1000 := Nat.mul_le_mul hl hb
    omega) hbase fun v' w' h2 => h v' w' (by rw [List.length_append]; exact h2.1) h2.2.1 h2.2.2
end
end Go.Proofs.YtoehaijmkmdggaaGreat
namespace Go.Proofs.YtoehaijmkmdggaaGreat
open Go.RowKit
/-- Bytes as a string's own. -/
def str (l : List UInt8) : ByteArray := ⟨l.toArray⟩
theorem str_size (l : List UInt8) : (str l).size = l.length := by simp [str, ByteArray.size]
theorem str_of (s : ByteArray) : str s.data.toList = s := by simp [str]
theorem str_beq (a b : List UInt8) : (str a == str b) = decide (a = b) := by
  rw [Bool.eq_iff_iff, decide_eq_true_eq]
  constructor
  · intro h
    have : (a.toArray == b.toArray) = true := h
    simpa using this
  · intro h
    subst h
    show (a.toArray == a.toArray) = true
    simp
theorem str_list (a : List UInt8) : (str a).toList = a := by rw [ByteArray.toList_eq]; simp [str]
theorem str_lbeq (a b : List UInt8) : ((str a).toList == (str b).toList) = decide (a = b) := by
  rw [str_list, str_list, Bool.eq_iff_iff]
  simp
theorem str_bne (a b : List UInt8) : (str a != str b) = !decide (a = b) := by
  rw [bne, str_beq]
theorem strOfNums_bytes (l : List UInt8) : strOfNums (l.map fun b => (b.toNat : Int)) = str l := by
  unfold strOfNums str
  congr 2
  rw [List.map_map]
  conv => rhs; rw [← List.map_id l]
  apply List.map_congr_left
  intro b _
  simp
theorem run_conv_bs {P : Program} {w : World} {v : Value} {l : List UInt8} (h : Bs w v l) (src e dst : TypeId) (hs : P.underlying src = some (.slice e)) (he : P.underlying e = some (.int .u8)) (hd : P.underlying dst = some .string) :
    (convert src dst v).run P w = .ok (.string (str l)) w := by
  obtain ⟨A, c, rfl, h1, h2, h3⟩ := h
  rcases A with _ | ad
  · have h0 : l = [] := by
      rcases Nat.eq_zero_or_pos l.length with h0 | h0
      · exact List.eq_nil_of_length_eq_zero h0
      · obtain ⟨_, e, _⟩ := h3 h0
        cases e
    subst h0
    exact run_convert_bytes_nil w src e hs he 0 c dst hd
  · have hl : (loadCells ad l.length).run P w = .ok ((l.map fun b => (b.toNat : Int)).map (Value.int .u8)).toArray w := by
      have := run_loadCells_list (P := P) w ad ((l.map fun b => (b.toNat : Int)).map (Value.int .u8)) (fun j v hj => by
        obtain ⟨hjl, he⟩ := List.getElem?_eq_some_iff.1 hj
        simp only [List.length_map] at hjl
        obtain ⟨ad', e, hc⟩ := h3 (by omega)
        cases e
        rw [hc j hjl, ← he]
        simp [bv])
      simpa using this
    rw [run_convert_bytes_string w src dst e _ l.length c hs he hd, run_bytesToString w _ l.length c _ hl, foldl_push_bytes, ← strOfNums_bytes]
    simp [strOfNums, ByteArray.empty, ByteArray.emptyWithCapacity]
    rfl
end Go.Proofs.YtoehaijmkmdggaaGreat
namespace Go.Proofs.YtoehaijmkmdggaaGreat
open Go.RowKit
section
variable {P : Program}
/-- Where a slice of a slice begins. -/
def subA (A : Option Addr) (k c s : Nat) : Option Addr := if c = k then A else A.map fun x => x.add (k * s)
theorem run_sl (w : World) (t e : TypeId) (s : Nat) (ht : P.underlying t = some (.slice e)) (hs : (P.info? e).map (fun i => i.size) = some s) (A : Option Addr) (n c : Nat) (lo hi : Option Value) (l h : Nat)
    (hlo : (lo = none ∧ l = 0) ∨ ∃ k, lo = some (.int k (l : Int))) (hhi : (hi = none ∧ h = n) ∨ ∃ k, hi = some (.int k (h : Int))) (h1 : l ≤ h) (h2 : h ≤ c) :
    (Instr.sliceAt t (.slice A n c) lo hi none).run P w = .ok (.slice (subA A l c s) (h - l) (c - l)) w := by
  obtain ⟨i, hi', hsz⟩ := Option.map_eq_some_iff.1 hs
  subst hsz
  have he : P.elem t = e := by unfold Program.elem; rw [ht]
  have hu : P.underlying t = some (.slice (P.elem t)) := by rw [he, ht]
  have hz : (Go.sizeOf (P.elem t)).run P w = .ok i.size w := by simp [he, Go.sizeOf, typeInfo, hi']
  have e0 : (Instr.sliceAt t (.slice A n c) lo hi none).run P w = (Instr.slice t (.slice A n c) lo hi none).run P w := by
    unfold Instr.sliceAt
    simp [run_underlying ht]
  rw [e0]
  rcases hlo with ⟨rfl, rfl⟩ | ⟨k, rfl⟩ <;> rcases hhi with ⟨rfl, rfl⟩ | ⟨k', rfl⟩
  · rw [run_slice_all w t A h c hu, hz]
    rfl
  · rw [run_slice_h w t A n c hu k' h (by omega) (by omega), hz]
    rfl
  · rw [run_slice_l w t A h c hu k l (by omega) (by omega), hz]
    rfl
  · rw [run_slice_lh w t A n c hu k k' l h (by omega) (by omega) (by omega), hz]
    rfl
theorem wpList_sl {w : World} {ops : Array Oper} {rest : List Oper} {o : Oper} {a : Act} {Q : Exit → Act → World → Prop} (hgd : o.guard = none) (x : Operand) (lo hi : Option Operand) (t e s : Nat)
    (ho : o.op = .slice t x lo hi none) (ht : P.underlying t = some (.slice e)) (hs : (P.info? e).map (fun i => i.size) = some s) (A : Option Addr) (n c : Nat) (hx : a.eval x = .slice A n c) (l h : Nat)
    (hlo : (lo.map a.eval = none ∧ l = 0) ∨ ∃ k, lo.map a.eval = some (.int k (l : Int))) (hhi : (hi.map a.eval = none ∧ h = n) ∨ ∃ k, hi.map a.eval = some (.int k (h : Int))) (h1 : l ≤ h) (h2 : h ≤ c)
    (K : wpList P ops Q rest (a.put o.dst (.slice (subA A l c s) (h - l) (c - l))) w) : wpList P ops Q (o :: rest) a w :=
  wpList_plain hgd fun _ hK => by
    have hr := run_sl (P := P) w t e s ht hs A n c _ _ l h hlo hhi h1 h2
    unfold Oper.wp execOp
    simp only [ho, hx, Option.map_none, hr, Oper.upon, Result.andThen_ok, Sem.run_bind, Sem.run_pure]
    exact hK _ _ K
theorem cells_sub {α : Type} {A : Option Addr} {c s lo hi : Nat} {L : List α} {F : Addr → α → Prop} (h1 : lo ≤ hi) (h2 : hi ≤ L.length) (hL : L.length ≤ c) (h : 0 < L.length → ∃ ad, A = some ad ∧ ∀ (j : Nat) (hj : j < L.length), F (ad.add (j * s)) L[j]) :
    0 < ((L.take hi).drop lo).length → ∃ ad, subA A lo c s = some ad ∧ ∀ (j : Nat) (hj : j < ((L.take hi).drop lo).length), F (ad.add (j * s)) ((L.take hi).drop lo)[j] := by
  intro hp
  simp only [List.length_drop, List.length_take] at hp
  obtain ⟨ad, rfl, hc⟩ := h (by omega)
  refine ⟨ad.add (lo * s), by unfold subA; rw [if_neg (by omega)]; rfl, fun j hj => ?_⟩
  simp only [List.length_drop, List.length_take] at hj
  have := hc (lo + j) (by omega)
  rw [List.getElem_drop, List.getElem_take]
  have e : (ad.add (lo * s)).add (j * s) = ad.add ((lo + j) * s) := by
    rw [Nat.add_mul]
    unfold Addr.add
    (repeat' split) <;> simp_all <;> omega
  rw [e]
  exact this
theorem Bs.sub {w : World} {A : Option Addr} {n c : Nat} {L : List UInt8} (h : Bs w (.slice A n c) L) (lo hi : Nat) (h1 : lo ≤ hi) (h2 : hi ≤ L.length) : Bs w (.slice (subA A lo c 1) (hi - lo) (c - lo)) ((L.take hi).drop lo) := by
  obtain ⟨A', c', e, g1, g2, g3⟩ := h
  injection e with e1 e2 e3
  subst e1 e2 e3
  have hl : ((L.take hi).drop lo).length = hi - lo := by simp only [List.length_drop, List.length_take]; omega
  refine ⟨_, _, by rw [hl], by rw [hl]; omega, by omega, ?_⟩
  have := cells_sub (s := 1) (F := fun a b => w.cell? a = some (bv b)) h1 h2 g1 (fun hp => by simpa using g3 hp)
  simpa using this
/-- A slice of bytes, so many. -/
theorem slTo {w : World} {ops : Array Oper} {rest : List Oper} {o : Oper} {a : Act} {Q : Exit → Act → World → Prop} (hgd : o.guard = none) (x hi : Operand) (t e : Nat) (ho : o.op = .slice t x none (some hi) none)
    (ht : P.underlying t = some (.slice e)) (hs : (P.info? e).map (fun i => i.size) = some 1) (v : Value) (L : List UInt8) (hx : a.eval x = v) (hb : Bs w v L) (kk : IntKind) (i : Int) (hhi : a.eval hi = .int kk i) (m : Nat) (hi : i = (m : Int)) (hm : m ≤ L.length)
    (K : ∀ A' c', Bs w (.slice A' m c') (L.take m) → m ≤ c' → c' ≤ 9223372036854775807 → wpList P ops Q rest (a.put o.dst (.slice A' m c')) w) : wpList P ops Q (o :: rest) a w := by
  have hb0 := hb
  obtain ⟨A, c, rfl, g1, g2, g3⟩ := hb
  subst hi
  refine wpList_sl hgd x none (some _) t e 1 ho ht hs A L.length c hx 0 m (.inl ⟨rfl, rfl⟩) (.inr ⟨kk, by simp [hhi]⟩) (by omega) (by omega) ?_
  have hb1 := hb0.sub 0 m (by omega) hm
  rw [List.drop_zero] at hb1
  exact K _ _ hb1 (by omega) (by omega)
end
end Go.Proofs.YtoehaijmkmdggaaGreat
namespace Go.Proofs.YtoehaijmkmdggaaGreat
open Go.RowKit Go.Maps
/-- Block b is a map whose lookup is f. -/
def MapF (w : World) (b : Nat) (f : Int → Option Value) : Prop :=
  ∃ es clock, w.heap[b]? = some (.map es clock) ∧ (∀ e ∈ es.toList, ∃ n, e.key = .int .i64 n ∧ (Lit.int .i64 n).wf = true ∧ f n = some e.val) ∧ (∀ n v, f n = some v → ∃ e ∈ es.toList, e.key = .int .i64 n)
theorem MapF.frm {S : Nat → Prop} {w w' : World} {b : Nat} {f : Int → Option Value} (h : MapF w b f) (k : Frm S w w') (hs : ¬ S b) : MapF w' b f := by
  obtain ⟨es, clock, h1, h2⟩ := h
  exact ⟨es, clock, k.heap hs h1, h2⟩
theorem MapF.new (w : World) {b : Nat} (hb : w.heap.size = b) : MapF (w.alloc (.map #[] 0)) b (fun _ => none) := by
  subst hb
  exact ⟨#[], 0, heap_alloc_new w _, by simp, by simp⟩
section
variable {P : Program}
theorem MapF.find {w : World} {f : Int → Option Value} {es : Array MapEntry} {k : TypeId} (hu : P.underlying k = some (.int .i64)) (hk : ∀ e ∈ es.toList, ∃ n, e.key = .int .i64 n ∧ (Lit.int .i64 n).wf = true ∧ f n = some e.val)
    (hf : ∀ n v, f n = some v → ∃ e ∈ es.toList, e.key = .int .i64 n) (n : Int) (hn : (Lit.int .i64 n).wf = true) :
    ((Instr.findKey k (.int .i64 n) es.toList).run P w = .ok none w ∧ f n = none) ∨ ∃ j v, (Instr.findKey k (.int .i64 n) es.toList).run P w = .ok (some (j, v)) w ∧ f n = some v := by
  have law : Keyed P k := int_keyed hu
  rcases law.find w (keyOf_int_mk hu hn) es.toList (fun e he => by
    obtain ⟨m, h1, h2, _⟩ := hk e he
    exact ⟨_, by rw [h1]; exact keyOf_int_mk hu h2⟩) with ⟨h1, h2⟩ | ⟨j, e, h1, h2, h3⟩
  · refine .inl ⟨h1, ?_⟩
    cases hq : f n with
    | none => rfl
    | some v =>
      obtain ⟨e, he, hk2⟩ := hf n v hq
      exact (h2 e he hk2).elim
  · refine .inr ⟨j, e.val, h1, ?_⟩
    obtain ⟨m, g1, g2, g3⟩ := hk e (List.mem_of_getElem? h2)
    rw [h3] at g1
    injection g1 with _ g1
    rw [g1, g3]
theorem MapF.look {w : World} {b : Nat} {f : Int → Option Value} {t k e : TypeId} (h : MapF w b f) (ht : P.underlying t = some (.map k e)) (hu : P.underlying k = some (.int .i64)) {z : Value} (hz : (zeroValue e).run P w = .ok z w) (n : Int) (hn : (Lit.int .i64 n).wf = true) :
    (Instr.lookup t (.map (some b)) (.int .i64 n) false).run P w = .ok ((f n).getD z) w := by
  obtain ⟨es, clock, h1, h2, h3⟩ := h
  have law : Keyed P k := int_keyed hu
  have hc := law.check w es.isEmpty (keyOf_int_mk hu hn)
  rcases MapF.find (w := w) hu h2 h3 n hn with ⟨g1, g2⟩ | ⟨j, v, g1, g2⟩
  · simp [Instr.lookup, run_underlying ht, MapKept.run_getObj_map h1, hc, g1, g2, hz]
  · simp [Instr.lookup, run_underlying ht, MapKept.run_getObj_map h1, hc, g1, g2]
/-- A new key is put. -/
theorem MapF.put {w : World} {b : Nat} {f : Int → Option Value} {t k e : TypeId} (h : MapF w b f) (ht : P.underlying t = some (.map k e)) (hu : P.underlying k = some (.int .i64)) (n : Int) (hn : (Lit.int .i64 n).wf = true) (hf : f n = none) (v : Value) :
    ∃ w', (Instr.mapUpdate t (.map (some b)) (.int .i64 n) v).run P w = .ok () w' ∧ MapF w' b (fun m => if m = n then some v else f m) ∧ Frm (· = b) w w' := by
  obtain ⟨es, clock, h1, h2, h3⟩ := h
  have law : Keyed P k := int_keyed hu
  have hc := law.check w false (keyOf_int_mk hu hn)
  rcases MapF.find (w := w) hu h2 h3 n hn with ⟨g1, g2⟩ | ⟨j, u, g1, g2⟩
  · have hb : b < w.heap.size := (Array.getElem?_eq_some_iff.1 h1).1
    refine ⟨{ w with heap := w.heap.setIfInBounds b (.map (es.push { key := .int .i64 n, val := v, born := clock }) (clock + 1)) }, ?_, ?_, ?_⟩
    · simp [Instr.mapUpdate, run_underlying ht, MapKept.run_getObj_map h1, hc, g1, MapKept.run_setObj_map _ h1]
    · refine ⟨es.push { key := .int .i64 n, val := v, born := clock }, clock + 1, by simp [hb], ?_, ?_⟩
      · intro x hx
        simp only [Array.toList_push, List.mem_append, List.mem_singleton] at hx
        rcases hx with hx | rfl
        · obtain ⟨m, i1, i2, i3⟩ := h2 x hx
          refine ⟨m, i1, i2, ?_⟩
          have hne : m ≠ n := fun e => by
            rw [e, hf] at i3
            cases i3
          simpa [hne] using i3
        · exact ⟨n, rfl, hn, by simp⟩
      · intro m u hm
        by_cases e : m = n
        · subst e
          exact ⟨⟨.int .i64 m, v, clock⟩, by simp, rfl⟩
        · simp only [if_neg e] at hm
          obtain ⟨x, hx, hk⟩ := h3 m u hm
          exact ⟨x, by simp [hx], hk⟩
    · refine ⟨rfl, rfl, rfl, by simp, fun i hi hne => ?_⟩
      simp [Array.getElem?_setIfInBounds, Ne.symm hne]
  · rw [hf] at g2
    cases g2
end
end Go.Proofs.YtoehaijmkmdggaaGreat
namespace Go.Proofs.YtoehaijmkmdggaaGreat
open Go.RowKit
theorem infoU8 : (Tryz.prog.info? 5).map (fun i => (i.zero, i.size, i.bytes)) = some (some (.int .u8 0), 1, 1) := by kernel_rfl
/-- Bytes of the call's own. -/
abbrev Obs (w : World) (base : Nat) (v : Value) (l : List UInt8) : Prop := Ob w base 5 v l
theorem Ob.slice {w : World} {base e : Nat} {v : Value} {l : List UInt8} (h : Ob w base e v l) : ∃ A c, v = .slice A l.length c := by
  obtain ⟨A, c, h, _⟩ := h.bs
  exact ⟨A, c, h⟩
/-- append of bytes at the walk. -/
theorem appB {w w0 : World} {ops : Array Oper} {rest : List Oper} {o : Oper} {a : Act} {Q : Exit → Act → World → Prop} (hgd : o.guard = none) (s x : Operand)
    (ho : o.op = .call { callee := .builtin .append, args := #[s, x], argTypes := #[22, 22] })
    (v : Value) (xs : List UInt8) (hs : a.eval s = v) (hown : Obs w w0.heap.size v xs) (y : Value) (ys : List UInt8) (hx : a.eval x = y) (hy : Bs w y ys) (hk : Keep w0 w) (hl : xs.length + ys.length ≤ 1000000000)
    (h : ∀ v' w', Obs w' w0.heap.size v' (xs ++ ys) → Keep w0 w' → w.grownBy w' v.ownBlock → (v'.ownBlock = v.ownBlock ∨ v'.ownBlock = some w.heap.size) → wpList Tryz.prog ops Q rest (a.put o.dst v') w') : wpList Tryz.prog ops Q (o :: rest) a w :=
  wpList_app hgd s x 22 ho w0.heap.size 5 (.int .u8 0) 1 1 Tryz.underlying22 infoU8 rfl (by omega) v xs.length (xs.map bv) hs hown y ys.length (ys.map bv) hx hy.src
    (fun u hu => bv_one u ys hu) (by simp only [maxLen]; omega) (by omega) hk.size fun v' w' h2 => h v' w' (App.ob h2 rfl) (App.below h2 hk hk.size hown.base) h2.2.1 h2.2.2
end Go.Proofs.YtoehaijmkmdggaaGreat
namespace Go.Proofs.YtoehaijmkmdggaaGreat
open Go.RowKit
section
variable {P : Program}
end
end Go.Proofs.YtoehaijmkmdggaaGreat
