/- The reader of the reference in memory: a fourth cell, its error; pushes in another order. The reader of the reference in memory: a type, then a block are pushed. -/
import Derived.Test.YtoehaijmkmdggaaGreatGRdVs
import Derived.Test.YtoehaijmkmdggaaGreatGRdW
import Derived.Deep.RegionLaw
set_option linter.unusedSimpArgs false
set_option linter.unusedVariables false
namespace Go.Proofs.YtoehaijmkmdggaaGreat
open Go.RowKit
open Em (Ty)
set_option linter.unusedVariables false
set_option linter.unusedSimpArgs false
set_option maxRecDepth 100000
section
variable {tt B : Nat} {Z : Nat → Prop} {w0 w : World} {p : Nat} {bv lv tv : Value} {ex : List Value} {its : List (Em.Blk × Value)} {tys : List (Ty × List Value)} {s : Em.Rd}
/-- An error was told. -/
theorem RdM.setE {e u : Value} (h : RdM tt B Z w0 w p bv lv tv [e] its tys s) : RdM tt B Z w0 (w.setCell ⟨p, 3, none⟩ u) p bv lv tv [u] its tys s ∧ RWent Z Z w (w.setCell ⟨p, 3, none⟩ u) p lv tv lv tv its its := by
  have F : Frm (· = p) w (w.setCell ⟨p, 3, none⟩ u) := (Frm.rf (· = p) w).st (p := ⟨p, 3, none⟩) (.inl rfl) _
  have hw : RWent Z Z w (w.setCell ⟨p, 3, none⟩ u) p lv tv lv tv its its := ⟨F.mono fun k _ e => .inl e, fun k h => .inl h, fun k h => .inl h, fun k h => .inl h, fun k h => h, Nat.le_refl _⟩
  refine ⟨{ h with top := ?_, k0 := hw.low h, row := F.own h.row fun k e => (h.d1 k e).1, kid := fun it hit => F.own (h.kid it hit) fun k e => (h.d3 it hit k e).1, tow := F.own h.tow fun k e => h.d2 k e, tya := fun y hy => (h.tya y hy).imp fun d hd => hw.ty h hd, z := fun k hk => ⟨(h.z k hk).1, Nat.lt_of_lt_of_le (h.z k hk).2.1 F.size, (h.z k hk).2.2⟩ }, hw⟩
  have := heap_set h.top u (j := 3)
  simpa using this
/-- A block, and its type, were pushed, in whatever order. -/
theorem RdM.pushC {W5 : World} {v3 v4 : Value} {ty : Ty} {cs : List Value} (h : RdM tt B Z w0 w p bv lv tv ex its tys s) (ht : (Lit.int .i64 (Em.tagT ty.op)).wf = true) (hcs : ∃ d, TyI (fun k => k < w0.heap.size ∨ Z k) d w cs ty) (hl : its.length < 2000)
    (F : Frm (fun k => k = p ∨ lv.ownBlock = some k ∨ tv.ownBlock = some k) w W5) (ht5 : W5.heap[p]? = some (.cells (bv :: v3 :: v4 :: ex).toArray tt))
    (o1 : W5.ownsRow B 72 3 v3 (its.length + 1) ((its.map blkCells).flatten ++ blkCells (⟨Em.tagT ty.op, [], []⟩, .slice none 0 0))) (o2 : W5.ownsRow B 25 3 v4 (tys.length + 1) ((tys.map (·.2)).flatten ++ cs))
    (hv3 : ∀ k, v3.ownBlock = some k → lv.ownBlock = some k ∨ w.heap.size ≤ k) (hv4 : ∀ k, v4.ownBlock = some k → tv.ownBlock = some k ∨ w.heap.size ≤ k) (hne : ∀ k, v3.ownBlock = some k → v4.ownBlock ≠ some k) :
    RdM tt B Z w0 W5 p bv v3 v4 ex (its ++ [(⟨Em.tagT ty.op, [], []⟩, .slice none 0 0)]) (tys ++ [(ty, cs)]) (s.push ty) ∧ RWent Z Z w W5 p lv tv v3 v4 its (its ++ [(⟨Em.tagT ty.op, [], []⟩, .slice none 0 0)]) := by
  have hlt := h.lt
  have hp := (hlt p (.inl (.inl rfl))).2
  have hw : RWent Z Z w W5 p lv tv v3 v4 its (its ++ [(⟨Em.tagT ty.op, [], []⟩, .slice none 0 0)]) := by
    refine ⟨F, hv3, hv4, fun k e => ?_, fun k e => e, by simp⟩
    · rcases e with (e | e | e | ⟨it, hit, e⟩) | e
      · exact .inl (.inl (.inl e))
      · rcases hv3 k e with e | e
        · exact .inl (.inl (.inr (.inl e)))
        · exact .inr e
      · rcases hv4 k e with e | e
        · exact .inl (.inl (.inr (.inr (.inl e))))
        · exact .inr e
      · rcases List.mem_append.1 hit with hit | hit
        · exact .inl (.inl (.inr (.inr (.inr ⟨it, hit, e⟩))))
        · obtain rfl := List.mem_singleton.1 hit
          simp [Value.ownBlock] at e
      · exact .inl (.inr e)
  refine ⟨{ top := ht5, byt := h.byt, k0 := hw.low h, p0 := h.p0, row := ?_, kid := ?_, wf := ?_, tow := ?_, tya := ?_, z := ?_, d1 := ?_, d2 := ?_, d3 := ?_, bl := ?_, ty := ?_, len := by simp [h.len], lim := by simp; omega }, hw⟩
  · simpa using o1
  · intro it hit
    rcases List.mem_append.1 hit with hit | hit
    · refine F.own (h.kid it hit) fun k e e2 => ?_
      obtain ⟨a, b, c⟩ := h.d3 it hit k e
      rcases e2 with e2 | e2 | e2
      · exact a e2
      · exact b e2
      · exact c e2
    · obtain rfl := List.mem_singleton.1 hit
      exact ⟨by simp, .inl ⟨rfl, rfl⟩⟩
  · intro it hit
    rcases List.mem_append.1 hit with hit | hit
    · exact h.wf it hit
    · obtain rfl := List.mem_singleton.1 hit
      exact ⟨ht, by simp⟩
  · simpa using o2
  · intro y hy
    rcases List.mem_append.1 hy with hy | hy
    · exact (h.tya y hy).imp fun d hd => hw.ty h hd
    · obtain rfl := List.mem_singleton.1 hy
      exact hcs.imp fun d hd => hw.ty h hd
  · intro k hk
    obtain ⟨a, b, c⟩ := h.z k hk
    refine ⟨a, Nat.lt_of_lt_of_le b hw.frm.size, ?_⟩
    rintro (e | e | e | ⟨it, hit, e⟩)
    · exact c (.inl e)
    · rcases hv3 k e with e | e
      · exact c (.inr (.inl e))
      · omega
    · rcases hv4 k e with e | e
      · exact c (.inr (.inr (.inl e)))
      · omega
    · rcases List.mem_append.1 hit with hit | hit
      · exact c (.inr (.inr (.inr ⟨it, hit, e⟩)))
      · obtain rfl := List.mem_singleton.1 hit
        simp [Value.ownBlock] at e
  · intro k e
    refine ⟨?_, hne k e⟩
    rcases hv3 k e with e | e
    · exact (h.d1 k e).1
    · omega
  · intro k e
    rcases hv4 k e with e | e
    · exact h.d2 k e
    · omega
  · intro it hit k hk
    rcases List.mem_append.1 hit with hit | hit
    · obtain ⟨a, b, c⟩ := h.d3 it hit k hk
      have hkl := (hlt k (.inl (.inr (.inr (.inr ⟨it, hit, hk⟩))))).2
      refine ⟨a, fun e => ?_, fun e => ?_⟩
      · rcases hv3 k e with e | e
        · exact b e
        · omega
      · rcases hv4 k e with e | e
        · exact c e
        · omega
    · obtain rfl := List.mem_singleton.1 hit
      simp [Value.ownBlock] at hk
  · simp [Em.Rd.push, h.bl]
  · simp [Em.Rd.push, h.ty]
end
/-- What a number comes to. -/
def NumX (tt B : Nat) (Z : Nat → Prop) (w0 w : World) (p : Nat) (lv tv : Value) (its : List (Em.Blk × Value)) (tys : List (Ty × List Value)) (s : Em.Rd) (e : Ending) (w' : World) : Prop := ∃ (v : Nat) (s' : Em.Rd) (c : Int), e = .returned (.int .u64 (v : Int)) ∧ v < 18446744073709551616 ∧ RdS tt B Z w0 w' p lv tv [.int .i64 c] its tys s' ∧ RWent Z Z w w' p lv tv lv tv its its ∧ ((c = 0 ∧ Em.numP s = .ok v s') ∨ (c = 2 ∧ v = 0 ∧ Em.numP s = .err 2))
/-- What a string comes to. -/
def StrX (tt B : Nat) (Z : Nat → Prop) (w0 w : World) (p : Nat) (lv tv : Value) (its : List (Em.Blk × Value)) (tys : List (Ty × List Value)) (s : Em.Rd) (e : Ending) (w' : World) : Prop := ∃ (x : List UInt8) (s' : Em.Rd) (c : Int), e = .returned (.string (str x)) ∧ RdS tt B Z w0 w' p lv tv [.int .i64 c] its tys s' ∧ RWent Z Z w w' p lv tv lv tv its its ∧ ((c = 0 ∧ Em.strP s = .ok x s') ∨ (c = 2 ∧ Em.strP s = .err 2))
/-- What a value comes to. -/
def ValX (tt B : Nat) (Z : Nat → Prop) (w0 w : World) (p : Nat) (lv tv : Value) (its : List (Em.Blk × Value)) (o : Em.Out (Bool × Int)) (e : Ending) (w' : World) : Prop := ∃ (x : Bool × Int) (s' : Em.Rd) (c : Int), e = .returned (.agg #[.bool x.1, .int .i64 x.2]) ∧ (Lit.int .i64 x.2).wf = true ∧ (∃ Z' lv' tv' its' tys', RdS tt B Z' w0 w' p lv' tv' [.int .i64 c] its' tys' s' ∧ RWent Z Z' w w' p lv tv lv' tv' its its') ∧ ((c = 0 ∧ o = .ok x s') ∨ ((c = 2 ∨ c = 7) ∧ o = .err c))
/-- An answer that is handed on, by way of a new block. -/
theorem ValX.pass {tt B : Nat} {Z Z1 : Nat → Prop} {w0 w w1 w2 w3 : World} {p r : Nat} {lv tv lv1 tv1 : Value} {its its1 : List (Em.Blk × Value)} {o : Em.Out (Bool × Int)} {e : Ending}
    (hw : RWent Z Z1 w w1 p lv tv lv1 tv1 its its1) (h : ValX tt B Z1 w0 w1 p lv1 tv1 its1 o e w2) (F : Frm (· = r) w2 w3) (hr : w.heap.size ≤ r) (hr1 : r < w1.heap.size) (hn : ¬ HasR Z1 p lv1 tv1 its1 r) (h0 : w0.heap.size ≤ r) : ValX tt B Z w0 w p lv tv its o e w3 := by
  obtain ⟨x, s', c, h1, h2, ⟨Z', lv', tv', its', tys', ⟨bv, h3⟩, h4⟩, h5⟩ := h
  exact ⟨x, s', c, h1, h2, ⟨Z', lv', tv', its', tys', ⟨bv, h3.far F (h4.out hr1 hn) h0⟩, (hw.tr h4).far hr F⟩, h5⟩
end Go.Proofs.YtoehaijmkmdggaaGreat
namespace Go.Proofs.YtoehaijmkmdggaaGreat
open Go.RowKit
open Em (Ty)
set_option linter.unusedVariables false
set_option linter.unusedSimpArgs false
set_option maxRecDepth 100000
/-- append, as one step of a region of open order. -/
theorem step_app {P : Program} {ops : Array Oper} {o : Oper} {a : Act} {w : World} {K : Act → World → Prop} {Q : Exit → Act → World → Prop} {E : Prop} (hg : o.guard = none) (s x : Operand) (t : TypeId)
    (ho : o.op = .call { callee := .builtin .append, args := #[s, x], argTypes := #[t, t] })
    (base e : Nat) (z : Value) (size bytes : Nat) (ht : P.underlying t = some (.slice e)) (hinfo : (P.info? e).map (fun i => (i.zero, i.size, i.bytes)) = some (some z, size, bytes)) (hzs : z.cells.size = size) (hsz : 0 < size)
    (v : Value) (n : Nat) (xs : List Value) (hs : a.eval s = v) (hown : w.ownsRow base e size v n xs)
    (y : Value) (m : Nat) (news : List Value) (hx : a.eval x = y) (hy : Src w size y m news) (h1 : ∀ u ∈ news, u.oneCell' = true)
    (h63 : n + m ≤ maxLen) (hbytes : (n + m) * bytes ≤ 140737488355328) (hbase : base ≤ w.heap.size)
    (h : ∀ v' w', App w base e size v (n + m) (xs ++ news) v' w' → K (a.put o.dst v') w') :
    if Region.wanted o (yielded ops a.tmps) = true then Oper.wp P o a w K Q else E := by
  have hw : Region.wanted o (yielded ops a.tmps) = true := by simp [Region.wanted, hg]
  rw [if_pos hw]
  exact wp_app s x t ho base e z size bytes ht hinfo hzs hsz v n xs hs hown y m news hx hy h1 h63 hbytes hbase h
theorem set_three {α : Type} (l : List α) (z0 z1 z2 a b c : α) {n : Nat} (h : l.length = n * 3) : (((l ++ [z0, z1, z2]).set (n * 3) a).set (n * 3 + 1) b).set (n * 3 + 2) c = l ++ [a, b, c] := by
  rw [← h, List.set_append_right _ _ (Nat.le_refl _), Nat.sub_self, List.set_cons_zero, List.set_append_right _ _ (by omega), Nat.add_sub_cancel_left, List.set_cons_succ, List.set_cons_zero, List.set_append_right _ _ (by omega), Nat.add_sub_cancel_left]
  rfl
/-- The row of types has grown; the reader knows. -/
def TPush (w5 : World) (p B : Nat) (bv lv tv : Value) (ex : List Value) (tt : TypeId) (xs : List Value) (m : Nat) (v4 : Value) (W : World) : Prop :=
  Frm (fun k => k = p ∨ tv.ownBlock = some k) w5 W ∧ W.heap[p]? = some (.cells (bv :: lv :: v4 :: ex).toArray tt) ∧ W.ownsRow B 25 3 v4 m xs ∧ ∀ k, v4.ownBlock = some k → tv.ownBlock = some k ∨ w5.heap.size ≤ k
section
variable {tt B : Nat} {Z : Nat → Prop} {w0 w : World} {p : Nat} {bv lv tv : Value} {ex : List Value} {its : List (Em.Blk × Value)} {tys : List (Ty × List Value)} {s : Em.Rd}
theorem RdM.flat3 (h : RdM tt B Z w0 w p bv lv tv ex its tys s) : (tys.map (·.2)).flatten.length = tys.length * 3 := by
  have key : ∀ l : List (Ty × List Value), (∀ y ∈ l, y.2.length = 3) → (l.map (·.2)).flatten.length = l.length * 3 := by
    intro l
    induction l with
    | nil => intro _; rfl
    | cons a t ih =>
      intro h
      rw [List.map_cons, List.flatten_cons, List.length_append, h a List.mem_cons_self, ih fun y hy => h y (List.mem_cons_of_mem _ hy), List.length_cons]
      omega
  exact key tys fun y hy => (h.tya y hy).elim fun d hd => hd.three
theorem RdM.stored3 {w4 : World} {g m c4 e : Nat} {xs : List Value} (h : w4.ownsRow B e 3 (.slice (some ⟨g, 0, none⟩) m c4) m xs) (i : Nat) (a b c : Value) :
    (((w4.setCell ⟨g, i, none⟩ a).setCell ⟨g, i + 1, none⟩ b).setCell ⟨g, i + 2, none⟩ c).ownsRow B e 3 (.slice (some ⟨g, 0, none⟩) m c4) m (((xs.set i a).set (i + 1) b).set (i + 2) c) ∧ Frm (· = g) w4 (((w4.setCell ⟨g, i, none⟩ a).setCell ⟨g, i + 1, none⟩ b).setCell ⟨g, i + 2, none⟩ c) := by
  refine ⟨(World.ownsRow.stored (World.ownsRow.stored (World.ownsRow.stored h i a).1 (i + 1) b).1 (i + 2) c).1, ?_⟩
  exact (((Frm.rf (· = g) w4).st (p := ⟨g, i, none⟩) (.inl rfl) _).st (p := ⟨g, i + 1, none⟩) (.inl rfl) _).st (p := ⟨g, i + 2, none⟩) (.inl rfl) _
/-- A type is stored into the row that has grown: both orders. -/
theorem TPush.mk {Wb w4 W : World} {g c4 m : Nat} {z0 z1 z2 a b c : Value} (h : RdM tt B Z w0 w p bv lv tv ex its tys s) (k : Keep w Wb) (ha : App Wb B 25 3 tv (tys.length + 1) ((tys.map (·.2)).flatten ++ [z0, z1, z2]) (.slice (some ⟨g, 0, none⟩) m c4) w4) (hm : m = tys.length + 1)
    (hW : W = (((w4.setCell ⟨g, tys.length * 3, none⟩ a).setCell ⟨g, tys.length * 3 + 1, none⟩ b).setCell ⟨g, tys.length * 3 + 2, none⟩ c).setCell ⟨p, 2, none⟩ (.slice (some ⟨g, 0, none⟩) m c4) ∨ W = ((((w4.setCell ⟨p, 2, none⟩ (.slice (some ⟨g, 0, none⟩) m c4)).setCell ⟨g, tys.length * 3, none⟩ a).setCell ⟨g, tys.length * 3 + 1, none⟩ b).setCell ⟨g, tys.length * 3 + 2, none⟩ c)) :
    TPush w p B bv lv tv ex tt ((tys.map (·.2)).flatten ++ [a, b, c]) m (.slice (some ⟨g, 0, none⟩) m c4) W := by
  subst hm
  obtain ⟨h1, h2, h3⟩ := ha
  have F4 : Frm (fun k => k = p ∨ tv.ownBlock = some k) w w4 := (k.frm _).trn (Frm.of_grown (S := fun k => tv.ownBlock = some k) h2 fun _ e => e) fun i e => .inl (.inr e)
  have hg : tv.ownBlock = some g ∨ w.heap.size ≤ g := by
    rcases h3 with e | e
    · exact .inl (by rw [← e]; rfl)
    · have e : some g = some Wb.heap.size := e
      injection e with e
      have := k.size
      exact .inr (by omega)
  have hp := (h.lt p (.inl (.inl rfl))).2
  have hgp : g ≠ p := by
    rcases hg with e | e
    · exact h.d2 g e
    · omega
  have htop : w4.heap[p]? = some (.cells (bv :: lv :: tv :: ex).toArray tt) := (Frm.of_grown (S := fun k => tv.ownBlock = some k) h2 fun _ e => e).heap (fun e => h.d2 p e rfl) ((k.frm fun _ => False).heap (fun h => h) h.top)
  have hfl := set_three ((tys.map (·.2)).flatten) z0 z1 z2 a b c h.flat3
  have Fg : ∀ {x y : World}, Frm (· = g) x y → w.heap.size ≤ x.heap.size → ∀ {u : World}, Frm (fun k => k = p ∨ tv.ownBlock = some k) u x → u.heap.size = w.heap.size → Frm (fun k => k = p ∨ tv.ownBlock = some k) u y := fun F hs u F0 hu => F0.trn F fun i e => by
    have e : i = g := e
    rcases hg with h | h
    · exact .inl (.inr (by rw [e]; exact h))
    · exact .inr (by rw [e, hu]; exact h)
  refine ⟨?_, ?_, ?_, fun k e => ?_⟩
  · rcases hW with rfl | rfl
    · have hs := RdM.stored3 h1 (tys.length * 3) a b c
      exact (Fg hs.2 F4.size F4 rfl).st (p := ⟨p, 2, none⟩) (.inl (.inl rfl)) _
    · have hs := RdM.stored3 (((Frm.rf (· = p) w4).st (p := ⟨p, 2, none⟩) (.inl rfl) (.slice (some ⟨g, 0, none⟩) (tys.length + 1) c4)).own h1 fun k e e2 => hgp (by have e2 : k = p := e2; have e : some g = some k := e; injection e with e; omega)) (tys.length * 3) a b c
      exact Fg hs.2 (by rw [size_set]; exact F4.size) (F4.st (p := ⟨p, 2, none⟩) (.inl (.inl rfl)) _) rfl
  · rcases hW with rfl | rfl
    · have hs := RdM.stored3 h1 (tys.length * 3) a b c
      have := heap_set (hs.2.heap (fun e => hgp e.symm) htop) (.slice (some ⟨g, 0, none⟩) (tys.length + 1) c4) (j := 2)
      simpa using this
    · have hs := RdM.stored3 (((Frm.rf (· = p) w4).st (p := ⟨p, 2, none⟩) (.inl rfl) (.slice (some ⟨g, 0, none⟩) (tys.length + 1) c4)).own h1 fun k e e2 => hgp (by have e2 : k = p := e2; have e : some g = some k := e; injection e with e; omega)) (tys.length * 3) a b c
      have := heap_set htop (.slice (some ⟨g, 0, none⟩) (tys.length + 1) c4) (j := 2)
      exact hs.2.heap (fun e => hgp e.symm) (by simpa using this)
  · rcases hW with rfl | rfl
    · have hs := RdM.stored3 h1 (tys.length * 3) a b c
      rw [hfl] at hs
      exact ((Frm.rf (· = p) _).st (p := ⟨p, 2, none⟩) (.inl rfl) _).own hs.1 fun k e e2 => hgp (by have e2 : k = p := e2; have e : some g = some k := e; injection e with e; omega)
    · have hs := RdM.stored3 (((Frm.rf (· = p) w4).st (p := ⟨p, 2, none⟩) (.inl rfl) (.slice (some ⟨g, 0, none⟩) (tys.length + 1) c4)).own h1 fun k e e2 => hgp (by have e2 : k = p := e2; have e : some g = some k := e; injection e with e; omega)) (tys.length * 3) a b c
      rw [hfl] at hs
      exact hs.1
  · have e : some g = some k := e
    injection e with e
    subst e
    exact hg
/-- Both were pushed: the type, then the block. -/
theorem TPush.done {ty : Ty} {cs : List Value} {W6 W : World} {v3 v4 : Value} (h : RdM tt B Z w0 w p bv lv tv ex its tys s) (ht : (Lit.int .i64 (Em.tagT ty.op)).wf = true) (hcs : ∃ d, TyI (fun k => k < w0.heap.size ∨ Z k) d w cs ty) (hl : its.length < 2000)
    (h4 : TPush w p B bv lv tv ex tt ((tys.map (·.2)).flatten ++ cs) (tys.length + 1) v4 W6) (h3 : BPush W6 B lv its (Em.tagT ty.op) W v3) :
    RdM tt B Z w0 (W.setCell ⟨p, 1, none⟩ v3) p bv v3 v4 ex (its ++ [(⟨Em.tagT ty.op, [], []⟩, .slice none 0 0)]) (tys ++ [(ty, cs)]) (s.push ty) ∧ RWent Z Z w (W.setCell ⟨p, 1, none⟩ v3) p lv tv v3 v4 its (its ++ [(⟨Em.tagT ty.op, [], []⟩, .slice none 0 0)]) := by
  obtain ⟨F4, t4, o4, b4⟩ := h4
  obtain ⟨Wb, kb, ha⟩ := h3.app
  obtain ⟨g1, g2, g3⟩ := ha
  have hlt := h.lt
  have hp := (hlt p (.inl (.inl rfl))).2
  have Fl : Frm (fun k => lv.ownBlock = some k) W6 W := (kb.frm _).tr (Frm.of_grown g2 fun _ e => e)
  have hs4 := F4.size
  have b3 : ∀ k, v3.ownBlock = some k → lv.ownBlock = some k ∨ W6.heap.size ≤ k := fun k e => by
    rcases g3 with m | m
    · exact .inl (by rw [← m, e])
    · rw [m] at e
      injection e with e
      have := kb.size
      exact .inr (by omega)
  have n34 : ∀ k, v3.ownBlock = some k → v4.ownBlock ≠ some k := fun k e e2 => by
    rcases b3 k e with e | e
    · rcases b4 k e2 with e3 | e3
      · exact (h.d1 k e).2 e3
      · have := (hlt k (.inl (.inr (.inl e)))).2
        omega
    · have := (World.ownsRow.lt o4 k e2).2
      omega
  have n4p : ∀ k, v4.ownBlock = some k → k ≠ p := fun k e => by
    rcases b4 k e with e | e
    · exact h.d2 k e
    · omega
  have n3p : ∀ k, v3.ownBlock = some k → k ≠ p := fun k e => by
    rcases b3 k e with e | e
    · exact (h.d1 k e).1
    · omega
  have n4l : ∀ k, v4.ownBlock = some k → lv.ownBlock ≠ some k := fun k e e2 => by
    rcases b4 k e with e3 | e3
    · exact (h.d1 k e2).2 e3
    · have := (hlt k (.inl (.inr (.inl e2)))).2
      omega
  have Fp : Frm (· = p) W (W.setCell ⟨p, 1, none⟩ v3) := (Frm.rf (· = p) W).st (p := ⟨p, 1, none⟩) (.inl rfl) _
  have tW := Fl.heap (fun e => (h.d1 p e).1 rfl) t4
  refine h.pushC ht hcs hl ?_ ?_ (Fp.own g1 n3p) (Fp.own (Fl.own o4 n4l) n4p) (fun k e => ?_) b4 n34
  · exact (F4.mono fun k _ e => e.elim .inl fun e => .inr (.inr e)).trn Fl (fun i e => .inl (.inr (.inl e))) |>.trn Fp fun i e => .inl (.inl e)
  · have := heap_set tW v3 (j := 1)
    simpa using this
  · rcases b3 k e with e | e
    · exact .inl e
    · exact .inr (by omega)
end
/-- The kids that were read so far, one more: whatever the reader's error. -/
theorem KidR.push2 {tt B p : Nat} {Z0 Z1 Z2 : Nat → Prop} {w0 w W W1 W2 W3 W4 : World} {bv2 lv tv lv1 tv1 lv2 tv2 v v' : Value} {ex : List Value} {its its1 its2 : List (Em.Blk × Value)} {tys2 : List (Ty × List Value)} {s2 : Em.Rd} {xs : List (Bool × Int)} {x : Bool × Int}
    (hw : RWent Z0 Z1 w W p lv tv lv1 tv1 its its1) (hn : ∀ z, v.ownBlock = some z → ¬ HasR Z1 p lv1 tv1 its1 z) (hwf : ∀ z ∈ xs, (Lit.int .i64 z.2).wf = true) (ho : W.ownsRow w.heap.size 59 2 v xs.length (xs.map refCells).flatten) (k1 : Keep W W1)
    (hd2 : RdM tt B Z2 w0 W2 p bv2 lv2 tv2 ex its2 tys2 s2) (hw2 : RWent Z1 Z2 W1 W2 p lv1 tv1 lv2 tv2 its1 its2) (hx : (Lit.int .i64 x.2).wf = true) (k3 : Keep W2 W3) (hw0 : w0.heap.size ≤ w.heap.size) (ha : App W3 w.heap.size 59 2 v (xs.length + 1) ((xs.map refCells).flatten ++ refCells x) v' W4) :
    KidR tt B Z0 w0 w p lv tv ex its (xs ++ [x]) s2 v' W4 := by
  obtain ⟨h1, h2, h3⟩ := ha
  have F : Frm (fun k => v.ownBlock = some k) W3 W4 := Frm.of_grown h2 fun _ e => e
  have hlt := World.ownsRow.lt ho
  have hk1 := k1.size
  have hn2 : ∀ z, v.ownBlock = some z → ¬ HasR Z2 p lv2 tv2 its2 z := fun z e => hw2.out (Nat.lt_of_lt_of_le (hlt z e).2 hk1) (hn z e)
  have hd3 := (hd2.keep k3).frm F (fun k hk e => hn2 k e hk) fun k e => Nat.le_trans hw0 (hlt k e).1
  refine ⟨Z2, bv2, lv2, tv2, its2, tys2, hd3, ?_, by simpa using h1, ?_, ?_⟩
  · have h4 := ((hw.tr (RWent.of_keep k1)).tr hw2).tr (RWent.of_keep k3)
    exact { h4 with frm := h4.frm.trn F fun i e => .inr (hlt i e).1 }
  · intro z e
    rcases h3 with e2 | e2
    · exact hn2 z (by rw [← e2, e])
    · rw [e2] at e
      injection e with e
      intro hz
      have h5 := (hd2.lt z hz).2
      have h6 := k3.size
      omega
  · intro z hz
    rcases List.mem_append.1 hz with hz | hz
    · exact hwf z hz
    · rw [List.mem_singleton.1 hz]; exact hx
/-- What a call of text changes: the reader; its row of blocks stays in it. -/
def RelS (p : Nat) (lv tv : Value) (W W' : World) : Prop := Frm (fun k => k = p ∨ lv.ownBlock = some k ∨ tv.ownBlock = some k) W W' ∧ ∀ v, W.cell? ⟨p, 1, none⟩ = some v → W'.cell? ⟨p, 1, none⟩ = some v
theorem RelS.rf {p : Nat} {lv tv : Value} (W : World) : RelS p lv tv W W := ⟨Frm.rf _ _, fun _ h => h⟩
theorem RelS.tr {p : Nat} {lv tv : Value} (a b c : World) (h : RelS p lv tv a b) (h2 : RelS p lv tv b c) : RelS p lv tv a c := ⟨h.1.tr h2.1, fun v e => h2.2 v (h.2 v e)⟩
theorem RelS.of {p : Nat} {lv tv : Value} (a b : World) (k : Keep a b) : RelS p lv tv a b := ⟨k.frm _, fun _ e => Keep.cell k e⟩
/-- A string was read. -/
def StrF (tt B : Nat) (Z : Nat → Prop) (w0 w : World) (p : Nat) (lv tv : Value) (its : List (Em.Blk × Value)) (tys : List (Ty × List Value)) (s : Em.Rd) (W : World) (v : Value) : Prop := ∃ (x : List UInt8) (s' : Em.Rd) (c : Int), v = .string (str x) ∧ RdS tt B Z w0 W p lv tv [.int .i64 c] its tys s' ∧ RWent Z Z w W p lv tv lv tv its its ∧ ((c = 0 ∧ Em.strP s = .ok x s') ∨ (c = 2 ∧ Em.strP s = .err 2))
theorem StrF.keep {tt B : Nat} {Z : Nat → Prop} {w0 w W W' : World} {p : Nat} {lv tv v : Value} {its : List (Em.Blk × Value)} {tys : List (Ty × List Value)} {s : Em.Rd} (h : StrF tt B Z w0 w p lv tv its tys s W v) (k : Keep W W') : StrF tt B Z w0 w p lv tv its tys s W' v := by
  obtain ⟨x, s', c, h1, ⟨bv, h2⟩, h3, h4⟩ := h
  exact ⟨x, s', c, h1, ⟨bv, h2.keep k⟩, h3.tr (RWent.of_keep k), h4⟩
end Go.Proofs.YtoehaijmkmdggaaGreat
