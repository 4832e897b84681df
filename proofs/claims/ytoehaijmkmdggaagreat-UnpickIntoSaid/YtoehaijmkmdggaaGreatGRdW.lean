/- Walks: the reader of package unpick: a block that comes the first time; its region that pushes it. -/
import Derived.Test.YtoehaijmkmdggaaGreatGRdN
set_option linter.unusedSimpArgs false
set_option linter.unusedVariables false
namespace Go.Proofs.YtoehaijmkmdggaaGreat
open Go.RowKit
open Em (Ty)
set_option linter.unusedVariables false
set_option linter.unusedSimpArgs false
set_option maxRecDepth 100000
/-- One struct of three cells, in a new block. -/
def OneN (N : Nat) (a b c : Value) (ty : TypeId) (W : World) (v : Value) : Prop := ∃ g, N ≤ g ∧ v = .slice (some ⟨g, 0, none⟩) 1 1 ∧ W.heap[g]? = some (.cells #[a, b, c] ty)
theorem OneN.frm {N : Nat} {a b c : Value} {ty : TypeId} {W W' : World} {v : Value} {S : Nat → Prop} (h : OneN N a b c ty W v) (F : Frm S W W') (hS : ∀ k, S k → k < N) : OneN N a b c ty W' v := by
  obtain ⟨g, h1, h2, h3⟩ := h
  exact ⟨g, h1, h2, F.heap (fun e => by have := hS _ e; omega) h3⟩
theorem OneN.src {N : Nat} {a b c : Value} {ty : TypeId} {W : World} {v : Value} (h : OneN N a b c ty W v) : Src W 3 v 1 [a, b, c] := by
  obtain ⟨g, _, rfl, h⟩ := h
  exact src3 h
/-- What a push changes: the reader and its two rows; the row of types stays in the reader. -/
def RelP (p : Nat) (lv tv : Value) (W W' : World) : Prop := Frm (fun k => k = p ∨ lv.ownBlock = some k ∨ tv.ownBlock = some k) W W' ∧ ∀ v, W.cell? ⟨p, 2, none⟩ = some v → W'.cell? ⟨p, 2, none⟩ = some v
theorem RelP.rf {p : Nat} {lv tv : Value} (W : World) : RelP p lv tv W W := ⟨Frm.rf _ _, fun _ h => h⟩
theorem RelP.tr {p : Nat} {lv tv : Value} (a b c : World) (h : RelP p lv tv a b) (h2 : RelP p lv tv b c) : RelP p lv tv a c := ⟨h.1.tr h2.1, fun v e => h2.2 v (h.2 v e)⟩
theorem RelP.of {p : Nat} {lv tv : Value} (a b : World) (k : Keep a b) : RelP p lv tv a b := ⟨k.frm _, fun _ e => Keep.cell k e⟩
theorem RelP.app {p base e size n : Nat} {lv tv v v' : Value} {cs : List Value} {W W' : World} (h : App W base e size v n cs v' W') (hv : ∀ k, v.ownBlock = some k → (lv.ownBlock = some k ∨ tv.ownBlock = some k) ∧ k ≠ p) : RelP p lv tv W W' := by
  have F : Frm (fun k => v.ownBlock = some k) W W' := Frm.of_grown h.2.1 fun _ e => e
  exact ⟨F.mono fun k _ e => .inr (hv k e).1, fun u hu => F.cell (fun e => (hv _ e).2 rfl) hu⟩
theorem App.keep {w w' w2 : World} {base e size n : Nat} {v v' : Value} {cs : List Value} (h : App w base e size v n cs v' w') (k : Keep w' w2) : App w base e size v n cs v' w2 := ⟨own_keep h.1 k, grown_keep h.2.1 k, h.2.2⟩
theorem BPush.app {w0 W : World} {B : Nat} {l v : Value} {its : List (Em.Blk × Value)} {tag : Int} (h : BPush w0 B l its tag W v) : ∃ Wb, Keep w0 Wb ∧ App Wb B 72 3 l (its.length + 1) ((its.map blkCells).flatten ++ blkCells (⟨tag, [], []⟩, .slice none 0 0)) v W := by
  obtain ⟨Wb, h1, h2, h3, h4⟩ := h
  exact ⟨Wb, h1, h4, h2, h3⟩
/-- Another row of the reader's lies where it lay. -/
theorem BPush.other {w0 W : World} {B base e size n : Nat} {l v u : Value} {its : List (Em.Blk × Value)} {tag : Int} {xs : List Value} (h : BPush w0 B l its tag W v) (ho : w0.ownsRow base e size u n xs) (hd : ∀ k, u.ownBlock = some k → l.ownBlock ≠ some k) : W.ownsRow base e size u n xs := by
  obtain ⟨Wb, h1, h2, h3, h4⟩ := h
  exact (Frm.of_grown (S := fun k => l.ownBlock = some k) h2 fun _ e => e).own (own_keep ho h1) hd
/-- Both rows have grown; the reader does not know yet. -/
def Psh2 (w0 : World) (B : Nat) (lv tv : Value) (its : List (Em.Blk × Value)) (tys : List (Ty × List Value)) (tag : Int) (cs : List Value) (v9 : Value) (W : World) (v : Value) : Prop :=
  ∃ W1 W2, Keep w0 W1 ∧ App W1 B 72 3 lv (its.length + 1) ((its.map blkCells).flatten ++ blkCells (⟨tag, [], []⟩, .slice none 0 0)) v9 W2 ∧ App W2 B 25 3 tv (tys.length + 1) ((tys.map (·.2)).flatten ++ cs) v W
theorem Psh2.mk {w0 W W' : World} {B : Nat} {lv tv v9 v : Value} {its : List (Em.Blk × Value)} {tys : List (Ty × List Value)} {tag : Int} {cs : List Value} (h : BPush w0 B lv its tag W v9) (ha : App W B 25 3 tv (tys.length + 1) ((tys.map (·.2)).flatten ++ cs) v W') : Psh2 w0 B lv tv its tys tag cs v9 W' v := by
  obtain ⟨Wb, h1, h2⟩ := h.app
  exact ⟨Wb, W, h1, h2, ha⟩
theorem Psh2.keep {w0 W W' : World} {B : Nat} {lv tv v9 v : Value} {its : List (Em.Blk × Value)} {tys : List (Ty × List Value)} {tag : Int} {cs : List Value} (h : Psh2 w0 B lv tv its tys tag cs v9 W v) (k : Keep W W') : Psh2 w0 B lv tv its tys tag cs v9 W' v := by
  obtain ⟨W1, W2, h1, h2, h3⟩ := h
  exact ⟨W1, W2, h1, h2, h3.keep k⟩
/-- The reader knows of the blocks, not of the types. -/
def Psh3 (p : Nat) (w0 : World) (B : Nat) (bv lv tv : Value) (ex : List Value) (tt : TypeId) (its : List (Em.Blk × Value)) (tys : List (Ty × List Value)) (tag : Int) (cs : List Value) (v : Value) (W : World) (v9 : Value) : Prop :=
  ∃ W4, Psh2 w0 B lv tv its tys tag cs v9 W4 v ∧ Frm (· = p) W4 W ∧ W.heap[p]? = some (.cells (bv :: v9 :: tv :: ex).toArray tt)
theorem Psh3.keep {p : Nat} {w0 : World} {B : Nat} {bv lv tv : Value} {ex : List Value} {tt : TypeId} {its : List (Em.Blk × Value)} {tys : List (Ty × List Value)} {tag : Int} {cs : List Value} {v v9 : Value} {W W' : World} (h : Psh3 p w0 B bv lv tv ex tt its tys tag cs v W v9) (k : Keep W W') : Psh3 p w0 B bv lv tv ex tt its tys tag cs v W' v9 := by
  obtain ⟨W4, h1, h2, h3⟩ := h
  exact ⟨W4, h1, h2.trn (k.frm (· = p)) fun _ e => .inl e, (k.frm fun _ => False).heap (fun h => h) h3⟩
theorem infoTyR : (Tryz.prog.info? 25).map (fun i => (i.zero, i.size, i.bytes)) = some (some (.agg #[.string ByteArray.empty, .int .i64 0, .slice none 0 0]), 3, 48) := by kernel_rfl
section
variable {tt B : Nat} {Z : Nat → Prop} {w0 w W : World} {p : Nat} {bv lv tv : Value} {ex : List Value} {its : List (Em.Blk × Value)} {tys : List (Ty × List Value)} {s : Em.Rd}
/-- The reader, while both rows have grown. -/
theorem Psh2.top {tag : Int} {cs : List Value} {v9 v : Value} (h : RdM tt B Z w0 w p bv lv tv ex its tys s) (h2 : Psh2 w B lv tv its tys tag cs v9 W v) : W.heap[p]? = some (.cells (bv :: lv :: tv :: ex).toArray tt) := by
  obtain ⟨W1, W2, k1, a1, a2⟩ := h2
  exact h.topped k1 a1 (Keep.rf _) a2
theorem Psh3.mk {tag : Int} {cs : List Value} {v9 v : Value} (h : RdM tt B Z w0 w p bv lv tv ex its tys s) (h2 : Psh2 w B lv tv its tys tag cs v9 W v) : Psh3 p w B bv lv tv ex tt its tys tag cs v (W.setCell ⟨p, 1, none⟩ v9) v9 := by
  refine ⟨W, h2, (Frm.rf (· = p) W).st (p := ⟨p, 1, none⟩) (.inl rfl) _, ?_⟩
  have := heap_set (h2.top h) v9 (j := 1)
  simpa using this
theorem Psh3.done {ty : Ty} {cs : List Value} {v9 v : Value} (h : RdM tt B Z w0 w p bv lv tv ex its tys s) (ht : (Lit.int .i64 (Em.tagT ty.op)).wf = true) (hcs : ∃ d, TyI (fun k => k < w0.heap.size ∨ Z k) d w cs ty) (hl : its.length < 2000) (h3 : Psh3 p w B bv lv tv ex tt its tys (Em.tagT ty.op) cs v W v9) :
    RdM tt B Z w0 (W.setCell ⟨p, 2, none⟩ v) p bv v9 v ex (its ++ [(⟨Em.tagT ty.op, [], []⟩, .slice none 0 0)]) (tys ++ [(ty, cs)]) (s.push ty) ∧ RWent Z Z w (W.setCell ⟨p, 2, none⟩ v) p lv tv v9 v its (its ++ [(⟨Em.tagT ty.op, [], []⟩, .slice none 0 0)]) := by
  obtain ⟨W4, ⟨W1, W2, k1, a1, a2⟩, F, ht5⟩ := h3
  refine h.pushed ht hcs hl k1 a1 (Keep.rf _) a2 (F.st (p := ⟨p, 2, none⟩) (.inl rfl) _) ?_
  have := heap_set ht5 v (j := 2)
  simpa using this
end
theorem tagT_wf (o : List UInt8) : (Lit.int .i64 (Em.tagT o)).wf = true := by
  unfold Em.tagT
  split
  · decide
  · split
    · decide
    · split
      · decide
      · split <;> decide
/-- More blocks of types, after a call that kept all. -/
theorem RWent.more {Z Z' : Nat → Prop} {w w' : World} {p : Nat} {lv tv : Value} {its : List (Em.Blk × Value)} (k : Keep w w') (h1 : ∀ k, Z k → Z' k) (h2 : ∀ k, Z' k → Z k ∨ w.heap.size ≤ k) : RWent Z Z' w w' p lv tv lv tv its its :=
  ⟨k.frm _, fun k h => .inl h, fun k h => .inl h, fun k e => by
    rcases e with e | e
    · exact .inl (.inl e)
    · rcases h2 k e with e | e
      · exact .inl (.inr e)
      · exact .inr e, h1, Nat.le_refl _⟩
/-- A new block that has an error within. -/
def InE (N : Nat) (x : Value) (W : World) (v : Value) : Prop := ∃ b, N ≤ b ∧ v = .pointer (some ⟨b, 0, none⟩) ∧ W.cell? ⟨b, 1, none⟩ = some x
theorem InE.mk {N r : Nat} {x y : Value} {t : TypeId} {W W' : World} (h : N ≤ W.heap.size) (hr : r < N) (F : Frm (· = r) (W.alloc (.cells #[y, x] t)) W') : InE N x W' (.pointer (some ⟨W.heap.size, 0, none⟩)) :=
  ⟨_, h, rfl, F.cell (fun e => by have e : W.heap.size = r := e; omega) (top_cells (heap_alloc_new W _) 1)⟩
/-- The kids that were read so far. -/
def KidR (tt B : Nat) (Z0 : Nat → Prop) (w0 w : World) (p : Nat) (lv tv : Value) (ex : List Value) (its : List (Em.Blk × Value)) (xs : List (Bool × Int)) (s1 : Em.Rd) (v : Value) (W : World) : Prop :=
  ∃ Z1 bv1 lv1 tv1 its1 tys1, RdM tt B Z1 w0 W p bv1 lv1 tv1 ex its1 tys1 s1 ∧ RWent Z0 Z1 w W p lv tv lv1 tv1 its its1 ∧ W.ownsRow w.heap.size 59 2 v xs.length (xs.map refCells).flatten ∧ (∀ z, v.ownBlock = some z → ¬ HasR Z1 p lv1 tv1 its1 z) ∧ ∀ z ∈ xs, (Lit.int .i64 z.2).wf = true
theorem KidR.push {tt B p : Nat} {Z0 Z1 Z2 : Nat → Prop} {w0 w W W1 W2 W3 W4 : World} {bv1 bv2 lv tv lv1 tv1 lv2 tv2 v v' : Value} {ex : List Value} {its its1 its2 : List (Em.Blk × Value)} {tys1 tys2 : List (Ty × List Value)} {s1 s2 : Em.Rd} {xs : List (Bool × Int)} {x : Bool × Int}
    (hd : RdM tt B Z1 w0 W p bv1 lv1 tv1 ex its1 tys1 s1) (hw : RWent Z0 Z1 w W p lv tv lv1 tv1 its its1) (hn : ∀ z, v.ownBlock = some z → ¬ HasR Z1 p lv1 tv1 its1 z) (hwf : ∀ z ∈ xs, (Lit.int .i64 z.2).wf = true) (ho : W.ownsRow w.heap.size 59 2 v xs.length (xs.map refCells).flatten) (k1 : Keep W W1)
    (hd2 : RdM tt B Z2 w0 W2 p bv2 lv2 tv2 ex its2 tys2 s2) (hw2 : RWent Z1 Z2 W1 W2 p lv1 tv1 lv2 tv2 its1 its2) (hx : (Lit.int .i64 x.2).wf = true) (k3 : Keep W2 W3) (hw0 : w0.heap.size ≤ w.heap.size) (ha : App W3 w.heap.size 59 2 v (xs.length + 1) ((xs.map refCells).flatten ++ refCells x) v' W4) :
    KidR tt B Z0 w0 w p lv tv ex its (xs ++ [x]) s2 v' W4 := by
  obtain ⟨h1, h2, h3⟩ := ha
  have F : Frm (fun k => v.ownBlock = some k) W3 W4 := Frm.of_grown h2 fun _ e => e
  have hlt := World.ownsRow.lt ho
  have hk1 := k1.size
  have hn2 : ∀ z, v.ownBlock = some z → ¬ HasR Z2 p lv2 tv2 its2 z := fun z e => hw2.out (Nat.lt_of_lt_of_le (hlt z e).2 hk1) (hn z e)
  have hd3 := (hd2.keep k3).frm F (fun k hk e => hn2 k e hk) fun k e => Nat.le_trans hw0 (hlt k e).1
  refine ⟨Z2, bv2, lv2, tv2, its2, tys2, hd3, ?_, by simpa using h1, ?_, ?_⟩
  · have h4 := ((hw.tr (RWent.of_keep k1)).tr hw2).tr (RWent.of_keep k3)
    exact { h4 with frm := h4.frm.trn F fun i e => .inr (hlt i e).1 }
  · intro z e
    rcases h3 with e2 | e2
    · exact hn2 z (by rw [← e2, e])
    · rw [e2] at e
      injection e with e
      intro hz
      have h5 := (hd2.lt z hz).2
      have h6 := k3.size
      omega
  · intro z hz
    rcases List.mem_append.1 hz with hz | hz
    · exact hwf z hz
    · rw [List.mem_singleton.1 hz]; exact hx
theorem kidsT_len {t : Ty} (h : Em.okS t = true) : (Em.kidsT t).length ≤ 2 := by
  have ho := Em.okS_op h
  unfold Em.kidsT
  split
  · simp
  · split
    · simp
    · split
      · next c =>
        have c' : t.op = Em.wPair ∨ t.op = Em.wRef := c
        rcases ho with e | e | e | e | e | ⟨e, h2⟩ | ⟨e, h2⟩ | ⟨e, h2⟩ <;> first | omega | (exfalso; rw [e] at c'; revert c'; decide)
      · simp
/-- The rest of a block's types. -/
theorem kidsA_drop (r : Ty → Em.Rd → Em.Out (Bool × Int)) (xs : List (Bool × Int)) (kt : List Ty) (j : Nat) (s : Em.Rd) (hj : j < kt.length) : Em.kidsA r xs (kt.drop j) s = match r kt[j] s with | .err c => .err c | .ok x s' => Em.kidsA r (xs ++ [x]) (kt.drop (j + 1)) s' := by
  rw [List.drop_eq_getElem_cons hj]
  rfl
section
variable {B f : Nat} {Z : Nat → Prop} {w0 w : World} {p : Nat} {bv lv tv : Value} {its : List (Em.Blk × Value)} {tys : List (Ty × List Value)} {s : Em.Rd}
set_option maxHeartbeats 8000000 in
theorem rdBlk_step (hval : ValV B w0 p f) : BlkV B w0 p f := by
  intro Z w bv lv tv its tys s t d cs h ht hok hpl hf
  cases d with
  | zero => exact ht.elim
  | succ d =>
    have HT0 := hide ht
    have HOK := hide hok
    have HP := hide hpl
    obtain ⟨v, rfl, hn, hs, hin⟩ := ht
    obtain ⟨A, c, rfl, _⟩ := id hs
    have hbl : s.bl.length = its.length := by rw [h.bl]; simp
    have HBL := hide hbl
    have HF := hide hf
    obtain ⟨A0, c0, rfl⟩ := own_slice h.row
    obtain ⟨At, ct, rfl⟩ := own_slice h.tow
    have ka : Keep w ((w.alloc (.cells #[.string (str t.op), .int .i64 t.n, .slice A t.kids.length c] 25)).alloc (.cells #[.bool false, .int .i64 0] 59)) := (by repeat (first | exact Keep.rf _ | assumption | apply Keep.al | apply Keep.dr | apply Keep.dn))
    have hB := (Keep.frm (Keep.al (Keep.rf (w.alloc (.cells #[.string (str t.op), .int .i64 t.n, .slice A t.kids.length c] 25))) (.cells #[.bool false, .int .i64 0] 59)) (fun _ => False)).heap (fun h => h) (heap_alloc_new w (.cells #[.string (str t.op), .int .i64 t.n, .slice A t.kids.length c] 25))
    have hR := new_second w (.cells #[.string (str t.op), .int .i64 t.n, .slice A t.kids.length c] 25) (.cells #[.bool false, .int .i64 0] 59)
    have hnr : ¬ HasR Z p (.slice A0 its.length c0) (.slice At tys.length ct) its (w.heap.size + 1) := fun e => by have := (h.lt _ e).2; omega
    have hnb : ¬ HasR Z p (.slice A0 its.length c0) (.slice At tys.length ct) its w.heap.size := fun e => by have := (h.lt _ e).2; omega
    have hsz1 : ((w.alloc (.cells #[.string (str t.op), .int .i64 t.n, .slice A t.kids.length c] 25)).alloc (.cells #[.bool false, .int .i64 0] 59)).heap.size = w.heap.size + 2 := by simp
    have hM1 := h.keep ka
    have hlim := h.lim
    have h0w := h.k0.size
    have H0R := hide (show w0.heap.size ≤ w.heap.size + 1 from by omega)
    have HT1 := hide (HT0.out.keep ka)
    have c1 := top_cells hM1.top 1
    have b0 := top_cells hB 0
    have b1 := top_cells hB 1
    have b2 := top_cells hB 2
    have r0 := top_cells hR 0
    have r1 := top_cells hR 1
    have f0 := top_free hR 0
    have f1 := top_free hR 1
    simp only [List.getElem?_toArray, List.getElem?_cons_succ, List.getElem?_cons_zero] at c1 b0 b1 b2 r0 r1
    have HM1 := hide hM1
    have HR := hide hR
    have HB := hide hB
    have KA := hide ka
    have HSZ := hide hsz1
    have hlimi : (its.length : Int) ≤ 2000 := by omega
    clear hR ka h hB hs hin hn hM1 HT0 hpl hok hsz1
    by_cases hmax : its.length = 2000
    · have HX := hide (show Em.blkP (Em.valP f) t s = .err 7 from if_pos (by omega))
      have hmi : (its.length : Int) = 2000 := by omega
      have hmb : ((its.length : Int) == 2000) = true := by simpa using hmi
      clear hmax hmi hbl
      go_enter Tryz.func49, Tryz.ntmps49
      go_wp2_with fail
      refine bodyPost_ret_by (results_cell2 rfl _ _ (w.heap.size + 1) 59 _ (0, 0) _ rfl HR.out Tryz.underlying59 rfl ?_) rfl ?_
      · kernel_rfl
      · rw [HX.out]
        exact ⟨(false, 0), _, 0, rfl, rfl, Z, _, _, its, RWent.of_keep KA.out⟩
    · have hmb : ((its.length : Int) == 2000) = false := by simp; omega
      have HSH := hide (unpickShape HT1.out HOK.out HP.out)
      go_enter Tryz.func49, Tryz.ntmps49
      go_wp2_with fail
      generalize World.alloc (World.alloc w _) _ = w1 at *
      refine HSH.out.mono ?_
      rintro e w3 ⟨v8, dk, rfl, hs8, hi8, k3⟩
      obtain ⟨A8, c8, rfl, _⟩ := id hs8
      have hz2 : ∀ k, (Z k ∨ (w1.heap.size ≤ k ∧ k < w3.heap.size)) → Z k ∨ (w0.heap.size ≤ k ∧ k < w3.heap.size ∧ ¬ OwnR p (.slice A0 its.length c0) (.slice At tys.length ct) its k) := fun k hk => by
        rcases hk with hk | ⟨g1, g2⟩
        · exact .inl hk
        · refine .inr ⟨by have := HSZ.out; omega, g2, fun e => ?_⟩
          have := (HM1.out.ltO k e).2
          omega
      obtain ⟨Z3, hZ3⟩ : ∃ Z3 : Nat → Prop, ∀ k, Z3 k ↔ (Z k ∨ (w1.heap.size ≤ k ∧ k < w3.heap.size)) := ⟨_, fun k => Iff.rfl⟩
      have hM3 := (HM1.out.keep k3).moreZ (Z' := Z3) (fun k h => (hZ3 k).2 (.inl h)) fun k h => hz2 k ((hZ3 k).1 h)
      have HW3 := hide (RWent.more (p := p) (lv := .slice A0 its.length c0) (tv := .slice At tys.length ct) (its := its) (Z := Z) (Z' := Z3) (Keep.tr KA.out k3) (fun k h => (hZ3 k).2 (.inl h)) fun k h => ((hZ3 k).1 h).imp id fun h => by have := HSZ.out; omega)
      have HT3 := hide ((HT1.out.keep k3).mono (I' := fun k => k < w0.heap.size ∨ Z3 k) fun k h => h.imp id fun h => (hZ3 k).2 (.inl h))
      have HS8 := hide (hs8.mono (K' := TyI (fun k => k < w0.heap.size ∨ Z3 k) dk) fun cs x h => h.mono fun k h => by
        rcases h with (h | h) | h
        · exact .inl h
        · exact .inr ((hZ3 k).2 (.inl h))
        · exact .inr ((hZ3 k).2 (.inr h)))
      have HI8 := hide (show InX (fun k => k < w0.heap.size ∨ Z3 k) (.slice A8 (Em.kidsT t).length c8) from fun ad n c e hn => by
        rcases hi8 ad n c e hn with (h | h) | h
        · exact .inl h
        · exact .inr ((hZ3 _).2 (.inl h))
        · exact .inr ((hZ3 _).2 (.inr h)))
      have hK3 := hide k3
      have hB3 := (k3.frm fun _ => False).heap (fun h => h) HB.out
      have HB3' := hide hB3
      have HR3' := hide ((k3.frm fun _ => False).heap (fun h => h) HR.out)
      have hsz3 : w.heap.size + 2 ≤ w3.heap.size := by have := HSZ.out; have := k3.size; omega
      have HNR := hide (show ¬ HasR Z3 p (.slice A0 its.length c0) (.slice At tys.length ct) its (w.heap.size + 1) from fun e => by
        rcases e with e | e
        · exact hnr (.inl e)
        · rcases (hZ3 _).1 e with e | e
          · exact hnr (.inr e)
          · have := HSZ.out; omega)
      have HNBX := hide (show ¬ HasR Z3 p (.slice A0 its.length c0) (.slice At tys.length ct) its w.heap.size from fun e => by
        rcases e with e | e
        · exact hnb (.inl e)
        · rcases (hZ3 _).1 e with e | e
          · exact hnb (.inr e)
          · have := HSZ.out; omega)
      have e1 := top_cells hM3.top 1
      have E2 := top_cells hM3.top 2
      have X0 := top_cells hB3 0
      have X1 := top_cells hB3 1
      have X2 := top_cells hB3 2
      simp only [List.getElem?_toArray, List.getElem?_cons_succ, List.getElem?_cons_zero] at e1 E2 X0 X1 X2
      have HM3 := hide hM3
      have HD1 := hide hM3.d1
      have HD2 := hide hM3.d2
      have HLT := hide (fun k (e : k = p ∨ (Value.slice A0 its.length c0).ownBlock = some k ∨ (Value.slice At tys.length ct).ownBlock = some k) => (hM3.ltO k (sub_own e)).2)
      have HBW := hide (show B ≤ w3.heap.size from by
        have := (hM3.ltO p (.inl rfl))
        omega)
      have HNB := hide (show ¬ (w.heap.size = p ∨ (Value.slice A0 its.length c0).ownBlock = some w.heap.size ∨ (Value.slice At tys.length ct).ownBlock = some w.heap.size) from fun e => hnb (.inl (sub_own e)))
      have hty := hide hM3.len
      have hlt2 : tys.length ≤ 2000 := by have := hM3.len; omega
      clear hM3 hB3 k3 hs8 hi8 hz2 c1 b0 b1 b2 r0 r1 f0 f1 hmax hbl hf h0w hnr hnb hZ3
      go_wp2_with fail
      apply region_last 22 _ (by kernel_rfl) Keep (RelP p (.slice A0 its.length c0) (.slice At tys.length ct)) krg ktg RelP.rf RelP.tr RelP.of [some 30, some 31, some 32, some 33, some 34, some 35, some 36, some 37, some 38, some 39, some 40, some 41, some 42, some 43, some 44, some 45, some 46, some 47, some 48, none, some 49, some 50, none] [eqG _ , eqG _ , eqG _ , eqG _ , eqG _ , eqG _ , eqG _ , fun us _ v => v = .agg #[.int .i64 (Em.tagT t.op), .string (str []), .slice none 0 0], fun us W v => OneN w3.heap.size (.int .i64 (Em.tagT t.op)) (.string (str [])) (.slice none 0 0) 72 W v, fun us W v => BPush w3 B (.slice A0 its.length c0) its (Em.tagT t.op) W v, eqG _ , eqG _ , eqG _ , eqG _ , fun us _ v => v = .agg #[.string (str t.op), .int .i64 t.n, .slice A t.kids.length c], fun us W v => OneN w3.heap.size (.string (str t.op)) (.int .i64 t.n) (.slice A t.kids.length c) 25 W v, fun us W v => Psh2 w3 B (.slice A0 its.length c0) (.slice At tys.length ct) its tys (Em.tagT t.op) [.string (str t.op), .int .i64 t.n, .slice A t.kids.length c] (us.getD 0 undef) W v, eqG _ , eqG _ , fun us W v => Psh3 p w3 B bv (.slice A0 its.length c0) (.slice At tys.length ct) [] 76 its tys (Em.tagT t.op) [.string (str t.op), .int .i64 t.n, .slice A t.kids.length c] (us.getD 0 undef) W v, eqG _ , eqG _ , fun _ _ _ => True] [⟨[], [], false, false, false⟩, ⟨[], [], false, false, false⟩, ⟨[], [], true, false, false⟩, ⟨[2], [], true, false, false⟩, ⟨[3], [], true, false, false⟩, ⟨[4], [], true, false, false⟩, ⟨[], [], true, false, false⟩, ⟨[6], [], true, false, false⟩, ⟨[7], [], true, false, false⟩, ⟨[5, 8], [], true, true, true⟩, ⟨[], [], false, false, false⟩, ⟨[10], [], false, false, false⟩, ⟨[11], [], false, false, false⟩, ⟨[12], [], false, false, false⟩, ⟨[], [], false, false, false⟩, ⟨[14], [], false, false, false⟩, ⟨[9, 13, 15], [], false, true, true⟩, ⟨[0], [], false, false, false⟩, ⟨[17], [], false, false, false⟩, ⟨[16, 18], [], false, true, true⟩, ⟨[1], [], false, false, false⟩, ⟨[20], [], false, false, false⟩, ⟨[21], [], false, false, false⟩] [8, 15, 19, 21] (by kernel_rfl) (by kernel_rfl) (by kernel_rfl) rfl (by kernel_rfl)
      · refine ⟨?_, ?_, ?_, ?_, ?_, ?_, ?_, ?_, ?_, ?_, ?_, ?_, ?_, ?_, ?_, ?_, ?_, ?_, ?_, ?_, ?_, ?_, trivial⟩ <;> (intro us W h9 hW hE hd hs K hK; obtain ⟨u0, u1, u2, u3, u4, u5, u6, u7, u8, u9, u10, u11, u12, u13, u14, u15, u16, u17, u18, u19, u20, u21, u22, rfl⟩ := rog 23 h9 rfl; clear h9; try simp only [DepG, AtG, and_true, relG, eqG, eqG1, eqG2, eqG3, gdG, gdG1, gnG, gnG1, List.getD_cons_zero, List.getD_cons_succ, List.getElem?_cons_succ, List.getElem?_cons_zero, Option.map_some, Option.getD_some, valsG, List.map_cons, List.map_nil, List.length_cons, List.length_nil] at hd)
        · ((try clear hd); clear hs; simp only [fillG, List.set_cons_zero, List.set_cons_succ]; refine want_n rfl ?_; go_wp2_with (first | fail); simp only [DoneG, fillG, List.set_cons_zero, List.set_cons_succ, relG, eqG, eqG1, eqG2, eqG3, gdG, gdG1, gnG, gnG1, List.getD_cons_zero, List.getD_cons_succ, List.getElem?_cons_succ, List.getElem?_cons_zero, Option.map_some, Option.getD_some, valsG, List.map_cons, List.map_nil, List.length_cons, List.length_nil]; exact ⟨_, rfl, (by first | with_reducible assumption | exact krg _ | exact Keep.al (krg _) _), fun _ _ => rfl⟩)
        · ((try clear hd); clear hs; simp only [fillG, List.set_cons_zero, List.set_cons_succ]; refine want_n rfl ?_; go_wp2_with (first | fail); simp only [DoneG, fillG, List.set_cons_zero, List.set_cons_succ, relG, eqG, eqG1, eqG2, eqG3, gdG, gdG1, gnG, gnG1, List.getD_cons_zero, List.getD_cons_succ, List.getElem?_cons_succ, List.getElem?_cons_zero, Option.map_some, Option.getD_some, valsG, List.map_cons, List.map_nil, List.length_cons, List.length_nil]; exact ⟨_, rfl, (by first | with_reducible assumption | exact krg _ | exact Keep.al (krg _) _), fun _ _ => rfl⟩)
        · ((try clear hd); clear hs; simp only [fillG, List.set_cons_zero, List.set_cons_succ]; refine want_n rfl ?_; go_wp2_with (first | fail); simp only [DoneG, fillG, List.set_cons_zero, List.set_cons_succ, relG, eqG, eqG1, eqG2, eqG3, gdG, gdG1, gnG, gnG1, List.getD_cons_zero, List.getD_cons_succ, List.getElem?_cons_succ, List.getElem?_cons_zero, Option.map_some, Option.getD_some, valsG, List.map_cons, List.map_nil, List.length_cons, List.length_nil]; exact ⟨_, rfl, (by first | with_reducible assumption | exact krg _ | exact Keep.al (krg _) _), fun _ _ => rfl⟩)
        · (have d2 := hd; clear hd; subst d2; clear hs; simp only [fillG, List.set_cons_zero, List.set_cons_succ]; refine want_n rfl ?_; go_wp2_with (first | fail); simp only [DoneG, fillG, List.set_cons_zero, List.set_cons_succ, relG, eqG, eqG1, eqG2, eqG3, gdG, gdG1, gnG, gnG1, List.getD_cons_zero, List.getD_cons_succ, List.getElem?_cons_succ, List.getElem?_cons_zero, Option.map_some, Option.getD_some, valsG, List.map_cons, List.map_nil, List.length_cons, List.length_nil]; exact ⟨_, rfl, (by first | with_reducible assumption | exact krg _ | exact Keep.al (krg _) _), fun _ _ => rfl⟩)
        · (have d3 := hd; clear hd; subst d3; clear hs; simp only [fillG, List.set_cons_zero, List.set_cons_succ]; refine want_n rfl ?_; go_wp2_with (first | fail); simp only [DoneG, fillG, List.set_cons_zero, List.set_cons_succ, relG, eqG, eqG1, eqG2, eqG3, gdG, gdG1, gnG, gnG1, List.getD_cons_zero, List.getD_cons_succ, List.getElem?_cons_succ, List.getElem?_cons_zero, Option.map_some, Option.getD_some, valsG, List.map_cons, List.map_nil, List.length_cons, List.length_nil]; exact ⟨_, rfl, (by first | with_reducible assumption | exact krg _ | exact Keep.al (krg _) _), fun _ _ => rfl⟩)
        · (have d4 := hd; clear hd; subst d4; clear hs; simp only [fillG, List.set_cons_zero, List.set_cons_succ]; have hKW := Keep.tr (Keep.dr (Keep.rf _)) (hE rfl); have e1 := Keep.cell hKW e1; have e2 := hW.2 _ (Keep.cell (Keep.dr (Keep.rf _)) E2); have x0 := hW.1.cell HNB.out (Keep.cell (Keep.dr (Keep.rf _)) X0); have x1 := hW.1.cell HNB.out (Keep.cell (Keep.dr (Keep.rf _)) X1); have x2 := hW.1.cell HNB.out (Keep.cell (Keep.dr (Keep.rf _)) X2); refine want_n rfl ?_; go_wp2_with (first | fail); simp only [DoneG, fillG, List.set_cons_zero, List.set_cons_succ, relG, eqG, eqG1, eqG2, eqG3, gdG, gdG1, gnG, gnG1, List.getD_cons_zero, List.getD_cons_succ, List.getElem?_cons_succ, List.getElem?_cons_zero, Option.map_some, Option.getD_some, valsG, List.map_cons, List.map_nil, List.length_cons, List.length_nil]; exact ⟨_, rfl, (by first | with_reducible assumption | exact krg _ | exact Keep.al (krg _) _), fun _ _ => rfl⟩)
        · ((try clear hd); clear hs; simp only [fillG, List.set_cons_zero, List.set_cons_succ]; refine want_n rfl ?_; go_wp2_with (first | fail); simp only [DoneG, fillG, List.set_cons_zero, List.set_cons_succ, relG, eqG, eqG1, eqG2, eqG3, gdG, gdG1, gnG, gnG1, List.getD_cons_zero, List.getD_cons_succ, List.getElem?_cons_succ, List.getElem?_cons_zero, Option.map_some, Option.getD_some, valsG, List.map_cons, List.map_nil, List.length_cons, List.length_nil]; exact ⟨_, rfl, (by first | with_reducible assumption | exact krg _ | exact Keep.al (krg _) _), fun _ _ => rfl⟩)
        · (have d6 := hd; clear hd; subst d6; clear hs; simp only [fillG, List.set_cons_zero, List.set_cons_succ]; have hKW := Keep.tr (Keep.dr (Keep.rf _)) (hE rfl); have e1 := Keep.cell hKW e1; refine want_n rfl ?_; go_wp2_with (first | fail); simp only [DoneG, fillG, List.set_cons_zero, List.set_cons_succ, relG, eqG, eqG1, eqG2, eqG3, gdG, gdG1, gnG, gnG1, List.getD_cons_zero, List.getD_cons_succ, List.getElem?_cons_succ, List.getElem?_cons_zero, Option.map_some, Option.getD_some, valsG, List.map_cons, List.map_nil, List.length_cons, List.length_nil]; exact ⟨_, rfl, (by first | with_reducible assumption | exact krg _ | exact Keep.al (krg _) _), fun _ _ => rfl⟩)
        · (have d7 := hd; clear hd; subst d7; clear hs; simp only [fillG, List.set_cons_zero, List.set_cons_succ]; have hKW := Keep.tr (Keep.dr (Keep.rf _)) (hE rfl); have e1 := Keep.cell hKW e1; refine want_n rfl ?_; go_wp2_with (first | fail); simp only [DoneG, fillG, List.set_cons_zero, List.set_cons_succ, relG, eqG, eqG1, eqG2, eqG3, gdG, gdG1, gnG, gnG1, List.getD_cons_zero, List.getD_cons_succ, List.getElem?_cons_succ, List.getElem?_cons_zero, Option.map_some, Option.getD_some, valsG, List.map_cons, List.map_nil, List.length_cons, List.length_nil]; exact ⟨_, rfl, (by first | with_reducible assumption | exact krg _ | exact Keep.al (krg _) _), fun W9 hk9 => OneN.frm ⟨_, hW.1.size, rfl, heap_alloc_new _ _⟩ hk9.1 HLT.out⟩)
        · (obtain ⟨d5, d8⟩ := hd; subst d5; clear hs; simp only [fillG, List.set_cons_zero, List.set_cons_succ]; have hKW := Keep.tr (Keep.dr (Keep.rf _)) (hE rfl); have e1 := Keep.cell hKW e1; have e2 := hW.2 _ (Keep.cell (Keep.dr (Keep.rf _)) E2); have x0 := hW.1.cell HNB.out (Keep.cell (Keep.dr (Keep.rf _)) X0); have x1 := hW.1.cell HNB.out (Keep.cell (Keep.dr (Keep.rf _)) X1); have x2 := hW.1.cell HNB.out (Keep.cell (Keep.dr (Keep.rf _)) X2); refine want_n rfl ?_; refine wp_app (.tmp 35) (.tmp 38) 60 rfl B 72 _ 3 48 Tryz.underlying60 infoBlk rfl (by omega) _ its.length _ rfl (own_keep HM3.out.row hKW) _ 1 _ rfl (OneN.src d8) (fun u hu => by simp at hu; rcases hu with rfl | rfl | rfl <;> rfl) (by simp only [maxLen]; omega) (by omega) (Nat.le_trans HBW.out hW.1.size) ?_; intro v9 w9 ha9; have hrel9 : RelP p (.slice A0 its.length c0) (.slice At tys.length ct) W w9 := RelP.app ha9 (fun k e => ⟨.inl e, (HD1.out k e).1⟩); refine hK _ _ ?_; simp only [DoneG, fillG, List.set_cons_zero, List.set_cons_succ, relG, eqG, eqG1, eqG2, eqG3, gdG, gdG1, gnG, gnG1, List.getD_cons_zero, List.getD_cons_succ, List.getElem?_cons_succ, List.getElem?_cons_zero, Option.map_some, Option.getD_some, valsG, List.map_cons, List.map_nil, List.length_cons, List.length_nil]; exact ⟨_, rfl, (by first | with_reducible assumption | exact trivial), fun W9 hk9 => (BPush.mk hKW ha9).keep hk9⟩)
        · ((try clear hd); clear hs; simp only [fillG, List.set_cons_zero, List.set_cons_succ]; refine want_n rfl ?_; go_wp2_with (first | fail); simp only [DoneG, fillG, List.set_cons_zero, List.set_cons_succ, relG, eqG, eqG1, eqG2, eqG3, gdG, gdG1, gnG, gnG1, List.getD_cons_zero, List.getD_cons_succ, List.getElem?_cons_succ, List.getElem?_cons_zero, Option.map_some, Option.getD_some, valsG, List.map_cons, List.map_nil, List.length_cons, List.length_nil]; exact ⟨_, rfl, (by first | with_reducible assumption | exact krg _ | exact Keep.al (krg _) _), fun _ _ => rfl⟩)
        · (have d10 := hd; clear hd; subst d10; clear hs; simp only [fillG, List.set_cons_zero, List.set_cons_succ]; refine want_n rfl ?_; go_wp2_with (first | fail); simp only [DoneG, fillG, List.set_cons_zero, List.set_cons_succ, relG, eqG, eqG1, eqG2, eqG3, gdG, gdG1, gnG, gnG1, List.getD_cons_zero, List.getD_cons_succ, List.getElem?_cons_succ, List.getElem?_cons_zero, Option.map_some, Option.getD_some, valsG, List.map_cons, List.map_nil, List.length_cons, List.length_nil]; exact ⟨_, rfl, (by first | with_reducible assumption | exact krg _ | exact Keep.al (krg _) _), fun _ _ => rfl⟩)
        · (have d11 := hd; clear hd; subst d11; clear hs; simp only [fillG, List.set_cons_zero, List.set_cons_succ]; refine want_n rfl ?_; go_wp2_with (first | fail); simp only [DoneG, fillG, List.set_cons_zero, List.set_cons_succ, relG, eqG, eqG1, eqG2, eqG3, gdG, gdG1, gnG, gnG1, List.getD_cons_zero, List.getD_cons_succ, List.getElem?_cons_succ, List.getElem?_cons_zero, Option.map_some, Option.getD_some, valsG, List.map_cons, List.map_nil, List.length_cons, List.length_nil]; exact ⟨_, rfl, (by first | with_reducible assumption | exact krg _ | exact Keep.al (krg _) _), fun _ _ => rfl⟩)
        · (have d12 := hd; clear hd; subst d12; clear hs; simp only [fillG, List.set_cons_zero, List.set_cons_succ]; have e2 := hW.2 _ (Keep.cell (Keep.dr (Keep.rf _)) E2); have x0 := hW.1.cell HNB.out (Keep.cell (Keep.dr (Keep.rf _)) X0); have x1 := hW.1.cell HNB.out (Keep.cell (Keep.dr (Keep.rf _)) X1); have x2 := hW.1.cell HNB.out (Keep.cell (Keep.dr (Keep.rf _)) X2); refine want_n rfl ?_; go_wp2_with (first | fail); simp only [DoneG, fillG, List.set_cons_zero, List.set_cons_succ, relG, eqG, eqG1, eqG2, eqG3, gdG, gdG1, gnG, gnG1, List.getD_cons_zero, List.getD_cons_succ, List.getElem?_cons_succ, List.getElem?_cons_zero, Option.map_some, Option.getD_some, valsG, List.map_cons, List.map_nil, List.length_cons, List.length_nil]; exact ⟨_, rfl, (by first | with_reducible assumption | exact krg _ | exact Keep.al (krg _) _), fun _ _ => rfl⟩)
        · ((try clear hd); clear hs; simp only [fillG, List.set_cons_zero, List.set_cons_succ]; have e2 := hW.2 _ (Keep.cell (Keep.dr (Keep.rf _)) E2); have x0 := hW.1.cell HNB.out (Keep.cell (Keep.dr (Keep.rf _)) X0); have x1 := hW.1.cell HNB.out (Keep.cell (Keep.dr (Keep.rf _)) X1); have x2 := hW.1.cell HNB.out (Keep.cell (Keep.dr (Keep.rf _)) X2); refine want_n rfl ?_; go_wp2_with (first | fail); simp only [DoneG, fillG, List.set_cons_zero, List.set_cons_succ, relG, eqG, eqG1, eqG2, eqG3, gdG, gdG1, gnG, gnG1, List.getD_cons_zero, List.getD_cons_succ, List.getElem?_cons_succ, List.getElem?_cons_zero, Option.map_some, Option.getD_some, valsG, List.map_cons, List.map_nil, List.length_cons, List.length_nil]; exact ⟨_, rfl, (by first | with_reducible assumption | exact krg _ | exact Keep.al (krg _) _), fun _ _ => rfl⟩)
        · (have d14 := hd; clear hd; subst d14; clear hs; simp only [fillG, List.set_cons_zero, List.set_cons_succ]; refine want_n rfl ?_; go_wp2_with (first | fail); simp only [DoneG, fillG, List.set_cons_zero, List.set_cons_succ, relG, eqG, eqG1, eqG2, eqG3, gdG, gdG1, gnG, gnG1, List.getD_cons_zero, List.getD_cons_succ, List.getElem?_cons_succ, List.getElem?_cons_zero, Option.map_some, Option.getD_some, valsG, List.map_cons, List.map_nil, List.length_cons, List.length_nil]; exact ⟨_, rfl, (by first | with_reducible assumption | exact krg _ | exact Keep.al (krg _) _), fun W9 hk9 => OneN.frm ⟨_, hW.1.size, rfl, heap_alloc_new _ _⟩ hk9.1 HLT.out⟩)
        · (obtain ⟨d9, d13, d15⟩ := hd; subst d13; clear hs; simp only [fillG, List.set_cons_zero, List.set_cons_succ]; have e2 := hW.2 _ (Keep.cell (Keep.dr (Keep.rf _)) E2); have x0 := hW.1.cell HNB.out (Keep.cell (Keep.dr (Keep.rf _)) X0); have x1 := hW.1.cell HNB.out (Keep.cell (Keep.dr (Keep.rf _)) X1); have x2 := hW.1.cell HNB.out (Keep.cell (Keep.dr (Keep.rf _)) X2); refine want_n rfl ?_; refine wp_app (.tmp 43) (.tmp 45) 23 rfl B 25 _ 3 48 Tryz.underlying23 infoTyR rfl (by omega) _ tys.length _ rfl (BPush.other d9 HM3.out.tow (fun k e e2 => (HD1.out k e2).2 e)) _ 1 _ rfl (OneN.src d15) (fun u hu => by simp at hu; rcases hu with rfl | rfl | rfl <;> rfl) (by simp only [maxLen]; omega) (by omega) (Nat.le_trans HBW.out hW.1.size) ?_; intro v9 w9 ha9; have hrel9 : RelP p (.slice A0 its.length c0) (.slice At tys.length ct) W w9 := RelP.app ha9 (fun k e => ⟨.inr e, HD2.out k e⟩); refine hK _ _ ?_; simp only [DoneG, fillG, List.set_cons_zero, List.set_cons_succ, relG, eqG, eqG1, eqG2, eqG3, gdG, gdG1, gnG, gnG1, List.getD_cons_zero, List.getD_cons_succ, List.getElem?_cons_succ, List.getElem?_cons_zero, Option.map_some, Option.getD_some, valsG, List.map_cons, List.map_nil, List.length_cons, List.length_nil]; exact ⟨_, rfl, (by first | with_reducible assumption | exact trivial), fun W9 hk9 => (Psh2.mk d9 ha9).keep hk9⟩)
        · (have d0 := hd; clear hd; subst d0; clear hs; simp only [fillG, List.set_cons_zero, List.set_cons_succ]; refine want_n rfl ?_; go_wp2_with (first | fail); simp only [DoneG, fillG, List.set_cons_zero, List.set_cons_succ, relG, eqG, eqG1, eqG2, eqG3, gdG, gdG1, gnG, gnG1, List.getD_cons_zero, List.getD_cons_succ, List.getElem?_cons_succ, List.getElem?_cons_zero, Option.map_some, Option.getD_some, valsG, List.map_cons, List.map_nil, List.length_cons, List.length_nil]; exact ⟨_, rfl, (by first | with_reducible assumption | exact krg _ | exact Keep.al (krg _) _), fun _ _ => rfl⟩)
        · (have d17 := hd; clear hd; subst d17; clear hs; simp only [fillG, List.set_cons_zero, List.set_cons_succ]; refine want_n rfl ?_; go_wp2_with (first | fail); simp only [DoneG, fillG, List.set_cons_zero, List.set_cons_succ, relG, eqG, eqG1, eqG2, eqG3, gdG, gdG1, gnG, gnG1, List.getD_cons_zero, List.getD_cons_succ, List.getElem?_cons_succ, List.getElem?_cons_zero, Option.map_some, Option.getD_some, valsG, List.map_cons, List.map_nil, List.length_cons, List.length_nil]; exact ⟨_, rfl, (by first | with_reducible assumption | exact krg _ | exact Keep.al (krg _) _), fun _ _ => rfl⟩)
        · (obtain ⟨d16, d18⟩ := hd; subst d18; clear hs; simp only [fillG, List.set_cons_zero, List.set_cons_succ]; have e2 := hW.2 _ (Keep.cell (Keep.dr (Keep.rf _)) E2); have x0 := hW.1.cell HNB.out (Keep.cell (Keep.dr (Keep.rf _)) X0); have x1 := hW.1.cell HNB.out (Keep.cell (Keep.dr (Keep.rf _)) X1); have x2 := hW.1.cell HNB.out (Keep.cell (Keep.dr (Keep.rf _)) X2); refine want_n rfl ?_; have q16 := d16; obtain ⟨A9, n9, c9, e9⟩ : ∃ A n c, u9 = Value.slice A n c := (by obtain ⟨W1, W2, _, a1, _⟩ := q16; obtain ⟨A, c, e⟩ := own_slice a1.1; exact ⟨_, _, _, e⟩); subst e9; have hT := Psh2.top HM3.out d16; have q0 := top_cells hT 1; have q1 := top_free hT 1; have hrel9 : RelP p (.slice A0 its.length c0) (.slice At tys.length ct) W (W.setCell ⟨p, 1, none⟩ (.slice A9 n9 c9)) := ⟨(Frm.rf _ W).st (p := ⟨p, 1, none⟩) (.inl (.inl rfl)) _, fun v e => (by rw [top_cells hT 2] at e; rw [top_cells (heap_set hT (.slice A9 n9 c9) (j := 1)) 2]; simpa using e)⟩; simp only [List.getElem?_toArray, List.getElem?_cons_succ, List.getElem?_cons_zero] at q0; go_wp2_with fail; simp only [DoneG, fillG, List.set_cons_zero, List.set_cons_succ, relG, eqG, eqG1, eqG2, eqG3, gdG, gdG1, gnG, gnG1, List.getD_cons_zero, List.getD_cons_succ, List.getElem?_cons_succ, List.getElem?_cons_zero, Option.map_some, Option.getD_some, valsG, List.map_cons, List.map_nil, List.length_cons, List.length_nil]; exact ⟨.slice A9 n9 c9, trivial, (by first | with_reducible assumption | exact trivial), fun W9 hk9 => (Psh3.mk HM3.out d16).keep hk9⟩)
        · (have d1 := hd; clear hd; subst d1; clear hs; simp only [fillG, List.set_cons_zero, List.set_cons_succ]; refine want_n rfl ?_; go_wp2_with (first | fail); simp only [DoneG, fillG, List.set_cons_zero, List.set_cons_succ, relG, eqG, eqG1, eqG2, eqG3, gdG, gdG1, gnG, gnG1, List.getD_cons_zero, List.getD_cons_succ, List.getElem?_cons_succ, List.getElem?_cons_zero, Option.map_some, Option.getD_some, valsG, List.map_cons, List.map_nil, List.length_cons, List.length_nil]; exact ⟨_, rfl, (by first | with_reducible assumption | exact krg _ | exact Keep.al (krg _) _), fun _ _ => rfl⟩)
        · (have d20 := hd; clear hd; subst d20; clear hs; simp only [fillG, List.set_cons_zero, List.set_cons_succ]; refine want_n rfl ?_; go_wp2_with (first | fail); simp only [DoneG, fillG, List.set_cons_zero, List.set_cons_succ, relG, eqG, eqG1, eqG2, eqG3, gdG, gdG1, gnG, gnG1, List.getD_cons_zero, List.getD_cons_succ, List.getElem?_cons_succ, List.getElem?_cons_zero, Option.map_some, Option.getD_some, valsG, List.map_cons, List.map_nil, List.length_cons, List.length_nil]; exact ⟨_, rfl, (by first | with_reducible assumption | exact krg _ | exact Keep.al (krg _) _), fun _ _ => rfl⟩)
      (intro us W5 h9 hW hE hA hl9; obtain ⟨u0, u1, u2, u3, u4, u5, u6, u7, u8, u9, u10, u11, u12, u13, u14, u15, u16, u17, u18, u19, u20, u21, u22, rfl⟩ := rog 23 h9 rfl; clear h9; clear hl9; simp only [AllG, AtG, and_true, relG, eqG, eqG1, eqG2, eqG3, gdG, gdG1, gnG, gnG1, List.getD_cons_zero, List.getD_cons_succ, List.getElem?_cons_succ, List.getElem?_cons_zero, Option.map_some, Option.getD_some, valsG, List.map_cons, List.map_nil, List.length_cons, List.length_nil] at hA; obtain ⟨d8, d15, d19, d21⟩ := hA; subst d21; simp only [fillG, List.set_cons_zero, List.set_cons_succ]; refine want_n rfl ?_)
      have hl20 : its.length < 2000 := by simp at hmb; omega
      obtain ⟨hdP, hwP⟩ := Psh3.done HM3.out (tagT_wf _) ⟨_, HT3.out⟩ hl20 d19
      have HWP := hide (HW3.out.tr hwP)
      obtain ⟨Af, nf, cf, ef⟩ : ∃ A n c, u16 = Value.slice A n c := by
        obtain ⟨A, c, e⟩ := own_slice hdP.tow
        exact ⟨_, _, _, e⟩
      subst ef
      obtain ⟨W4, _, _, htp⟩ := id d19
      have tpc := top_cells htp 2
      have tpf := top_free htp 2
      simp only [List.getElem?_toArray, List.getElem?_cons_succ, List.getElem?_cons_zero] at tpc
      have HR6 := hide (hwP.heap HNR.out HR3'.out)
      have HB6 := hide (hwP.heap HNBX.out HB3'.out)
      have HNR6 := hide (hwP.out (by omega) HNR.out)
      have HNB6 := hide (hwP.out (by omega) HNBX.out)
      have HS6 := hide (HS8.out.frmI HI8.out hwP.frm (fun k hk e => HM3.out.apart hk (sub_own e)) fun cs x h => h.frm hwP.frm fun k hk e => HM3.out.apart hk (sub_own e))
      have HD6 := hide hdP
      have hsz6 := hwP.frm.size
      clear hdP hwP d19 htp hW hE e1 E2 X0 X1 X2
      have hbl6 : s.bl.length = its.length := HBL.out
      have HITI := hide (show (its ++ [((⟨Em.tagT t.op, [], []⟩, .slice none 0 0) : Em.Blk × Value)])[its.length]? = some (⟨Em.tagT t.op, [], []⟩, .slice none 0 0) from by simp)
      have hili : (its.length : Int) < (its.length : Int) + 1 := by omega
      by_cases hstr : t.op = Em.wString
      · have htag : (Em.tagT t.op == 1) = true := by
          unfold Em.tagT
          rw [if_pos hstr]
          rfl
        have HXE := hide (show ∀ c, Em.strP (s.push t) = .err c → Em.blkP (Em.valP f) t s = .err c from fun c e => by
            unfold Em.blkP
            rw [if_neg (by omega), if_pos hstr, e])
        have HXO := hide (show ∀ x s', Em.strP (s.push t) = .ok x s' → Em.blkP (Em.valP f) t s = .ok (false, (its.length : Int)) ⟨s'.b, s'.bl.modify its.length fun b => b.str! x, s'.ty⟩ from fun x s' e => by
            unfold Em.blkP
            rw [if_neg (by omega), if_pos hstr, e, hbl6])
        have HSTR := hide (rdStr HD6.out)
        clear hbl6 hstr
        generalize Em.strP (s.push t) = os at *
        go_wp2_with fail
        clear tpc tpf htag
        generalize World.setCell W5 _ _ = W6 at *
        refine HSTR.out.mono ?_
        intro e W7 hA
        have hst : ∃ x9 v9 s9, e = .returned (.tuple #[.string (str x9), v9]) ∧ RdS 76 B Z3 w0 W7 p u19 (.slice Af nf cf) [] (its ++ [(⟨Em.tagT t.op, [], []⟩, .slice none 0 0)]) (tys ++ [(t, [.string (str t.op), .int .i64 t.n, .slice A t.kids.length c])]) s9 ∧ RWent Z3 Z3 W6 W7 p u19 (.slice Af nf cf) u19 (.slice Af nf cf) (its ++ [(⟨Em.tagT t.op, [], []⟩, .slice none 0 0)]) (its ++ [(⟨Em.tagT t.op, [], []⟩, .slice none 0 0)]) ∧ ((∃ c9, os = .err c9 ∧ v9 = errV c9 ∧ c9 = 2) ∨ (os = .ok x9 s9 ∧ v9 = .nilIface)) := by
          cases os with
          | err c9 =>
            obtain ⟨rfl, h2, ⟨s2, h3⟩, h4⟩ := hA
            exact ⟨_, _, s2, h2, h3, h4, .inl ⟨_, rfl, rfl, rfl⟩⟩
          | ok x s' =>
            obtain ⟨h2, h3, h4⟩ := hA
            exact ⟨_, _, s', h2, h3, h4, .inr ⟨rfl, rfl⟩⟩
        clear hA
        obtain ⟨x9, v9, s9, rfl, ⟨bv9, hm9⟩, hw9, hend⟩ := hst
        obtain ⟨g9, c9, rfl⟩ := hm9.at_ (i := its.length) (by simp)
        have hR7 := hw9.heap HNR6.out HR6.out
        have HNR7 := hide (hw9.out (Array.getElem?_eq_some_iff.1 HR6.out).1 HNR6.out)
        have hz1 := top_cells hm9.top 1
        obtain ⟨y0, y1⟩ := row_at hm9.row HITI.out 1 _ rfl
        obtain ⟨hmS, hwS⟩ := hm9.setStr HITI.out x9
        have hR8 := hwS.heap HNR7.out hR7
        have HR8 := hide hR8
        have HNR8 := hide (hwS.out (Array.getElem?_eq_some_iff.1 hR7).1 HNR7.out)
        have r0 := top_cells hR8 0
        have r1 := top_cells hR8 1
        have f0 := top_free hR8 0
        have f1 := top_free hR8 1
        simp only [List.getElem?_toArray, List.getElem?_cons_succ, List.getElem?_cons_zero, List.length_append, List.length_singleton] at r0 r1 hz1
        have HMS := hide hmS
        have HWS := hide ((HWP.out.tr hw9).tr hwS)
        have HEND := hide hend
        clear hmS hwS hw9 hm9 hend hR7 hR8 HSTR
        go_wp2_with fail
        refine bodyPost_ret_by (results_cell2 rfl _ _ (w.heap.size + 1) 59 _ (0, 0) _ rfl (heap_set2R HR8.out _ _) Tryz.underlying59 rfl ?_) rfl ?_
        · kernel_rfl
        · rcases HEND.out with ⟨c7, e1, e2, e3⟩ | ⟨e1, e2⟩
          · rw [HXE.out _ e1]
            exact ⟨(false, (its.length : Int)), _, 0, rfl, e2, Z3, _, _, _, HWS.out.far (by omega) (frm_set2R _ _ _ _)⟩
          · rw [HXO.out _ _ e1, e2]
            exact ⟨rfl, imm_wf (by omega) (by omega), Z3, _, _, _, _, ⟨_, HMS.out.far (frm_set2R _ _ _ _) HNR8.out H0R.out⟩, HWS.out.far (by omega) (frm_set2R _ _ _ _)⟩
      · have htag : (Em.tagT t.op == 1) = false := by
          unfold Em.tagT
          rw [if_neg hstr]
          split
          · rfl
          · split
            · rfl
            · split <;> rfl
        have HXA := hide (show ∀ o, Em.kidsA (Em.valP f) [] (Em.kidsT t) (s.push t) = o → Em.blkP (Em.valP f) t s = match o with
          | .err c => .err c
          | .ok ks s' => .ok (false, (its.length : Int)) ⟨s'.b, s'.bl.modify its.length fun b => b.kids! ks, s'.ty⟩ from fun o e => by
            unfold Em.blkP
            rw [if_neg (by omega), if_neg hstr, e, hbl6]
            cases o <;> rfl)
        have HKS := hide (Em.okS_kidsT HOK.out)
        have hlenk : (Em.kidsT t).length ≤ 2 := kidsT_len HOK.out
        clear d8 d15
        generalize Em.kidsT t = kt at *
        generalize Em.blkP (Em.valP f) t s = res at *
        clear hbl6 hstr
        go_wp2_with fail
        clear tpc tpf htag
        generalize World.setCell W5 _ _ = W6 at *
        have hsz6w : w.heap.size + 2 ≤ W6.heap.size := by omega
        have h06 : w0.heap.size ≤ W6.heap.size := by have := H0R.out; omega
        have hB6 : B ≤ W6.heap.size := by have := HBW.out; omega
        clear hsz6 hsz3
        go_loopw [11, 71] (fun v i W => ∃ (j : Nat) (xs : List (Bool × Int)) (s1 : Em.Rd), j ≤ kt.length ∧ i = .int .i64 (j : Int) ∧ xs.length = j ∧ Em.kidsA (Em.valP f) [] kt (s.push t) = Em.kidsA (Em.valP f) xs (kt.drop j) s1 ∧ KidR 76 B Z3 w0 W6 p u19 (.slice Af nf cf) [] (its ++ [(⟨Em.tagT t.op, [], []⟩, .slice none 0 0)]) xs s1 v W) (fun _ i _ => kt.length - (intOf i).toNat)
        case atStart => exact ⟨0, [], s.push t, Nat.zero_le _, rfl, rfl, rfl, Z3, _, _, _, _, _, HD6.out, RWent.rf, own_nilR _ _, by simp [Value.ownBlock], by simp⟩
        case round =>
          obtain ⟨j, xs, s1, hj, rfl, hxl, hka, Z1, bv1, lv1, tv1, its1, tys1, hd1, hw1, ho1, hn1, hwf1⟩ := hrel
          obtain ⟨A1, c1, rfl⟩ := own_slice ho1
          have HXL := hide hxl
          have HKA := hide hka
          have HD1x := hide hd1
          have HW1 := hide hw1
          have HO1 := hide ho1
          have HN1 := hide hn1
          have HWF1 := hide hwf1
          have HR1 := hide (hw1.heap HNR6.out HR6.out)
          have HB1 := hide (hw1.heap HNB6.out HB6.out)
          have HNB1 := hide (hw1.out (Array.getElem?_eq_some_iff.1 HB6.out).1 HNB6.out)
          have HNR1 := hide (hw1.out (Array.getElem?_eq_some_iff.1 HR6.out).1 HNR6.out)
          have HSL := hide (HS6.out.frmI HI8.out hw1.frm (fun k hk e => HD6.out.apart hk (sub_own e)) fun cs x h => h.frm hw1.frm fun k hk e => HD6.out.apart hk (sub_own e))
          have hszw : W6.heap.size ≤ wr.heap.size := hw1.frm.size
          have hlt1 : its.length + 1 ≤ its1.length := by have := hw1.len; simpa using this
          have hxb : xs.length ≤ 2 := by omega
          clear hd1 hw1 ho1 hn1 hwf1 hka hxl
          by_cases hlt : j < kt.length
          · have hlti : (j : Int) < (kt.length : Int) := by omega
            obtain ⟨A8', c8', e8, _, _, hr8⟩ := id HSL.out
            cases e8
            obtain ⟨ad, rfl, hcell⟩ := hr8 (by omega)
            obtain ⟨cs, hcs, hcl, hkt⟩ := hcell j hlt
            have HKT := hide (hkt.mono fun k hk => hk.imp id (HW1.out.zs k))
            have HOKk := hide (HKS.out _ (List.getElem_mem hlt))
            have HKD := hide (kidsA_drop (Em.valP f) xs kt j s1 hlt)
            generalize kt[j] = k at *
            cases dk with
            | zero => exact hkt.elim
            | succ dk =>
              obtain ⟨kv, rfl, kn, kS, _⟩ := hkt
              obtain ⟨kA, kc, rfl, _⟩ := kS
              have q0 := hcl 0 _ rfl
              rw [Nat.add_zero] at q0
              have q1 := cell_off (hcl 1 _ rfl)
              have q2 := cell_off (hcl 2 _ rfl)
              clear hcell hcl hr8
              have kW : Keep wr (wr.alloc (.cells #[.string (str k.op), .int .i64 k.n, .slice kA k.kids.length kc] 25)) := (by repeat (first | exact Keep.rf _ | assumption | apply Keep.al | apply Keep.dr | apply Keep.dn))
              have HVAL := hide (hval _ _ _ _ _ _ _ _ _ _ _ (HD1x.out.keep kW) (HKT.out.keep kW) HOKk.out (by have := HF.out; omega))
              have KW := hide kW
              clear kW
              go_wp2_with fail
              generalize World.alloc wr _ = wa at *
              have hsa : wr.heap.size ≤ wa.heap.size := KW.out.size
              refine HVAL.out.mono ?_
              intro e W2 hA
              generalize hy : Em.valP f k s1 = y at *
              cases y with
              | err c9 =>
                obtain ⟨x9, v9, d9, rfl, he9, Z2, lv2, tv2, its2, hw2⟩ := hA
                obtain ⟨t9, y9, rfl⟩ := he9.ifc
                have HRES := hide (show res = .err c9 from by
                  have h1 := HKD.out
                  rw [← HKA.out] at h1
                  rw [HXA.out _ h1])
                have hR2 := hw2.heap (fun e => HNR1.out e) ((KW.out.frm fun _ => False).heap (fun h => h) HR1.out)
                have hB2 := hw2.heap (fun e => HNB1.out e) ((KW.out.frm fun _ => False).heap (fun h => h) HB1.out)
                have b0 := top_cells hB2 0
                have HR2 := hide hR2
                have HE9 := hide he9
                have hs2 : wa.heap.size ≤ W2.heap.size := hw2.frm.size
                have HW2 := hide (((HWP.out.tr HW1.out).tr (RWent.of_keep KW.out)).tr hw2)
                have q9 := errNeNil
                simp only [List.getElem?_toArray, List.getElem?_cons_succ, List.getElem?_cons_zero] at b0
                clear hR2 hB2 he9 hw2 q0 q1 q2 HVAL HKD HSL
                have kb : Keep W2 (W2.alloc (.cells #[.bool x9.1, .int .i64 x9.2] 59)) := (by repeat (first | exact Keep.rf _ | assumption | apply Keep.al | apply Keep.dr | apply Keep.dn))
                have HRB := hide ((kb.frm fun _ => False).heap (fun h => h) HR2.out)
                have B0 := Keep.cell kb b0
                clear b0
                have KB := hide kb
                clear kb
                go_wp2_with fail
                generalize World.alloc W2 _ = wb at *
                have hsb : W2.heap.size ≤ wb.heap.size := KB.out.size
                have hrb : w.heap.size + 1 < W2.heap.size := by omega
                apply region_all (by kernel_rfl) Keep (Frm (· = w.heap.size + 1)) krg ktg (Frm.rf _) (fun _ _ _ => Frm.tr) (fun _ _ h => Keep.frm h _) [some 83, some 84, some 85, some 86, some 87, some 88, some 89, none, some 5] [eqG _ , eqG _ , eqG _ , eqG _ , eqG _ , fun us W v => InE W2.heap.size (.iface t9 y9) W v, eqG1 _ 0, fun us W v => W.heap[w.heap.size + 1]? = some (.cells #[.bool false, .int .i64 0] 59), eqG1 _ 0] [⟨[], [], true, false, false⟩, ⟨[], [], false, false, false⟩, ⟨[1], [], false, false, false⟩, ⟨[], [], false, false, false⟩, ⟨[2, 3], [], false, false, false⟩, ⟨[4], [], false, false, false⟩, ⟨[5], [], false, false, false⟩, ⟨[0], [], true, true, true⟩, ⟨[5, 6], [], false, false, false⟩] [5, 7, 8] (by kernel_rfl) (by kernel_rfl) 
                · refine ⟨?_, ?_, ?_, ?_, ?_, ?_, ?_, ?_, ?_, trivial⟩ <;> (intro us W h9 hW hE hd hs K hK; obtain ⟨u0, u1, u2, u3, u4, u5, u6, u7, u8, rfl⟩ := rog 9 h9 rfl; clear h9; try simp only [DepG, AtG, and_true, relG, eqG, eqG1, eqG2, eqG3, gdG, gdG1, gnG, gnG1, List.getD_cons_zero, List.getD_cons_succ, List.getElem?_cons_succ, List.getElem?_cons_zero, Option.map_some, Option.getD_some, valsG, List.map_cons, List.map_nil, List.length_cons, List.length_nil] at hd)
                  · ((try clear hd); clear hs; simp only [fillG, List.set_cons_zero, List.set_cons_succ]; refine want_n rfl ?_; go_wp2_with (first | fail); simp only [DoneG, fillG, List.set_cons_zero, List.set_cons_succ, relG, eqG, eqG1, eqG2, eqG3, gdG, gdG1, gnG, gnG1, List.getD_cons_zero, List.getD_cons_succ, List.getElem?_cons_succ, List.getElem?_cons_zero, Option.map_some, Option.getD_some, valsG, List.map_cons, List.map_nil, List.length_cons, List.length_nil]; exact ⟨_, rfl, (by first | with_reducible assumption | exact krg _ | exact Keep.al (krg _) _), fun _ _ => rfl⟩)
                  · ((try clear hd); clear hs; simp only [fillG, List.set_cons_zero, List.set_cons_succ]; refine want_n rfl ?_; go_wp2_with (first | fail); simp only [DoneG, fillG, List.set_cons_zero, List.set_cons_succ, relG, eqG, eqG1, eqG2, eqG3, gdG, gdG1, gnG, gnG1, List.getD_cons_zero, List.getD_cons_succ, List.getElem?_cons_succ, List.getElem?_cons_zero, Option.map_some, Option.getD_some, valsG, List.map_cons, List.map_nil, List.length_cons, List.length_nil]; exact ⟨_, rfl, (by first | with_reducible assumption | exact krg _ | exact Keep.al (krg _) _), fun _ _ => rfl⟩)
                  · (have d1 := hd; clear hd; subst d1; clear hs; simp only [fillG, List.set_cons_zero, List.set_cons_succ]; have b0 := hW.cell (show ¬ w.heap.size = w.heap.size + 1 by omega) (Keep.cell (Keep.dr (Keep.rf _)) B0); refine want_n rfl ?_; go_wp2_with (first | fail); simp only [DoneG, fillG, List.set_cons_zero, List.set_cons_succ, relG, eqG, eqG1, eqG2, eqG3, gdG, gdG1, gnG, gnG1, List.getD_cons_zero, List.getD_cons_succ, List.getElem?_cons_succ, List.getElem?_cons_zero, Option.map_some, Option.getD_some, valsG, List.map_cons, List.map_nil, List.length_cons, List.length_nil]; exact ⟨_, rfl, (by first | with_reducible assumption | exact krg _ | exact Keep.al (krg _) _), fun _ _ => rfl⟩)
                  · ((try clear hd); clear hs; simp only [fillG, List.set_cons_zero, List.set_cons_succ]; refine want_n rfl ?_; go_wp2_with (first | fail); simp only [DoneG, fillG, List.set_cons_zero, List.set_cons_succ, relG, eqG, eqG1, eqG2, eqG3, gdG, gdG1, gnG, gnG1, List.getD_cons_zero, List.getD_cons_succ, List.getElem?_cons_succ, List.getElem?_cons_zero, Option.map_some, Option.getD_some, valsG, List.map_cons, List.map_nil, List.length_cons, List.length_nil]; exact ⟨_, rfl, (by first | with_reducible assumption | exact krg _ | exact Keep.al (krg _) _), fun _ _ => rfl⟩)
                  · (obtain ⟨d2, d3⟩ := hd; subst d2; subst d3; clear hs; simp only [fillG, List.set_cons_zero, List.set_cons_succ]; refine want_n rfl ?_; go_wp2_with (first | fail); simp only [DoneG, fillG, List.set_cons_zero, List.set_cons_succ, relG, eqG, eqG1, eqG2, eqG3, gdG, gdG1, gnG, gnG1, List.getD_cons_zero, List.getD_cons_succ, List.getElem?_cons_succ, List.getElem?_cons_zero, Option.map_some, Option.getD_some, valsG, List.map_cons, List.map_nil, List.length_cons, List.length_nil]; exact ⟨_, rfl, (by first | with_reducible assumption | exact krg _ | exact Keep.al (krg _) _), fun _ _ => rfl⟩)
                  · (have d4 := hd; clear hd; subst d4; clear hs; simp only [fillG, List.set_cons_zero, List.set_cons_succ]; refine want_n rfl ?_; go_wp2_with (first | fail); simp only [DoneG, fillG, List.set_cons_zero, List.set_cons_succ, relG, eqG, eqG1, eqG2, eqG3, gdG, gdG1, gnG, gnG1, List.getD_cons_zero, List.getD_cons_succ, List.getElem?_cons_succ, List.getElem?_cons_zero, Option.map_some, Option.getD_some, valsG, List.map_cons, List.map_nil, List.length_cons, List.length_nil]; exact ⟨_, rfl, (by first | with_reducible assumption | exact krg _ | exact Keep.al (krg _) _), fun W9 hk9 => InE.mk (Nat.le_trans hsb hW.size) hrb hk9⟩)
                  · (have d5 := hd; clear hd; clear hs; simp only [fillG, List.set_cons_zero, List.set_cons_succ]; refine want_n rfl ?_; go_wp2_with (first | fail); simp only [DoneG, fillG, List.set_cons_zero, List.set_cons_succ, relG, eqG, eqG1, eqG2, eqG3, gdG, gdG1, gnG, gnG1, List.getD_cons_zero, List.getD_cons_succ, List.getElem?_cons_succ, List.getElem?_cons_zero, Option.map_some, Option.getD_some, valsG, List.map_cons, List.map_nil, List.length_cons, List.length_nil]; exact ⟨_, rfl, (by first | with_reducible assumption | exact krg _ | exact Keep.al (krg _) _), fun _ _ => rfl⟩)
                  · (have d0 := hd; clear hd; subst d0; clear hs; simp only [fillG, List.set_cons_zero, List.set_cons_succ]; have hKW := Keep.tr (Keep.dr (Keep.rf _)) (hE rfl); have b0 := hW.cell (show ¬ w.heap.size = w.heap.size + 1 by omega) (Keep.cell (Keep.dr (Keep.rf _)) B0); refine want_n rfl ?_; have hg9 := (hKW.frm fun _ => False).heap (fun h => h) HRB.out; have f0 := top_free hg9 0; have f1 := top_free hg9 1; have c0 := top_cells hg9 0; have c1 := top_cells hg9 1; simp only [List.getElem?_toArray, List.getElem?_cons_succ, List.getElem?_cons_zero] at c0 c1; have hrel9 := frm_set2R W (w.heap.size + 1) (.bool false) (.int .i64 0); go_wp2_with fail; simp only [DoneG, fillG, List.set_cons_zero, List.set_cons_succ, relG, eqG, eqG1, eqG2, eqG3, gdG, gdG1, gnG, gnG1, List.getD_cons_zero, List.getD_cons_succ, List.getElem?_cons_succ, List.getElem?_cons_zero, Option.map_some, Option.getD_some, valsG, List.map_cons, List.map_nil, List.length_cons, List.length_nil]; exact ⟨undef, trivial, (by first | with_reducible assumption | exact trivial), fun W9 hk9 => ((hk9.frm fun _ => False).heap (fun h => h) (heap_set2R ((hKW.frm fun _ => False).heap (fun h => h) HRB.out) _ _))⟩)
                  · (obtain ⟨d5, d6⟩ := hd; subst d6; clear hs; simp only [fillG, List.set_cons_zero, List.set_cons_succ]; refine want_n rfl ?_; go_wp2_with (first | fail); simp only [DoneG, fillG, List.set_cons_zero, List.set_cons_succ, relG, eqG, eqG1, eqG2, eqG3, gdG, gdG1, gnG, gnG1, List.getD_cons_zero, List.getD_cons_succ, List.getElem?_cons_succ, List.getElem?_cons_zero, Option.map_some, Option.getD_some, valsG, List.map_cons, List.map_nil, List.length_cons, List.length_nil]; exact ⟨_, rfl, (by first | with_reducible assumption | exact krg _ | exact Keep.al (krg _) _), fun _ _ => rfl⟩)
                (intro us W9 h9 hW hE hA; obtain ⟨u0, u1, u2, u3, u4, u5, u6, u7, u8, rfl⟩ := rog 9 h9 rfl; clear h9; simp only [AllG, AtG, and_true, relG, eqG, eqG1, eqG2, eqG3, gdG, gdG1, gnG, gnG1, List.getD_cons_zero, List.getD_cons_succ, List.getElem?_cons_succ, List.getElem?_cons_zero, Option.map_some, Option.getD_some, valsG, List.map_cons, List.map_nil, List.length_cons, List.length_nil] at hA; obtain ⟨d5, d7, d8⟩ := hA; subst d8; simp only [fillG, List.set_cons_zero, List.set_cons_succ])
                obtain ⟨b5, hb5, rfl, hc5⟩ := d5
                go_wp2_with fail
                refine bodyPost_ret_by (results_cell2 rfl _ _ (w.heap.size + 1) 59 _ (0, 0) _ rfl d7 Tryz.underlying59 rfl ?_) rfl ?_
                · kernel_rfl
                · rw [HRES.out]
                  have F9 : Frm (· = w.heap.size + 1) W2 W9 := ((KB.out.frm _).tr ((Keep.dr (Keep.rf wb)).frm _)).tr hW
                  exact ⟨(false, 0), _, d9 + 1, rfl, ⟨b5, _, rfl, by omega, hc5, (HE9.out.frm F9 fun k e => by have e : k = w.heap.size + 1 := e; omega).le (by omega)⟩, Z2, lv2, tv2, its2, HW2.out.far (by omega) F9⟩
              | ok x s2 =>
                obtain ⟨rfl, hx9, Z2, lv2, tv2, its2, tys2, ⟨bv2, hd2⟩, hw2⟩ := hA
                have HX9 := hide hx9
                have HD2x := hide hd2
                have HW2 := hide hw2
                have HO2 := hide (hw2.own (own_keep HO1.out KW.out) HN1.out)
                have hs2 : wa.heap.size ≤ W2.heap.size := hw2.frm.size
                have HKA2 := hide (show Em.kidsA (Em.valP f) [] kt (s.push t) = Em.kidsA (Em.valP f) (xs ++ [x]) (kt.drop (j + 1)) s2 from by rw [HKA.out, HKD.out])
                have q9 := errNeNN
                obtain ⟨x1, x2⟩ := x
                clear hx9 hd2 hw2 q0 q1 q2 HVAL HKD HSL
                go_wp2_with (first
                  | (at_builtin; go_loud (refine wpList_app rfl (.tmp 90) (.tmp 92) 70 rfl W6.heap.size 59 _ 2 16 Tryz.underlying70 infoRf rfl (by omega) _ xs.length _ rfl (own_keep HO2.out (by repeat (first | exact Keep.rf _ | assumption | apply Keep.al | apply Keep.dr | apply Keep.dn))) _ 1 (refCells (x1, x2)) rfl (src_new2 (W2.alloc _) _ _ _ (by simp only [size_alloc])) (ref_one _) (by simp only [maxLen]; omega) (by omega) (by simp only [size_alloc]; omega) ?_); intro v3 w3' ha3; obtain ⟨A3, c3, e3⟩ := own_slice ha3.1; subst e3; have HA3 := hide ha3; clear ha3)
                  | fail)
                have HKR := hide (KidR.push (x := (x1, x2)) HD1x.out HW1.out HN1.out HWF1.out HO1.out KW.out HD2x.out HW2.out HX9.out (Keep.al (Keep.al (Keep.rf W2) _) _) h06 HA3.out)
                go_roundw
                case rel => exact ⟨j + 1, xs ++ [(x1, x2)], s2, by omega, by go_num, by simp [HXL.out], HKA2.out, HKR.out⟩
                case measure => simp [intOf]; omega
          · have hjk : j = kt.length := by omega
            have HRES := hide (show res = .ok (false, (its.length : Int)) ⟨s1.b, s1.bl.modify its.length fun b => b.kids! xs, s1.ty⟩ from by
              have h1 := HKA.out
              rw [List.drop_of_length_le (by omega)] at h1
              rw [HXA.out _ h1]
              rfl)
            have hlti : ¬ (j : Int) < (kt.length : Int) := by omega
            have hd1 := HD1x.out
            obtain ⟨g1, c1', rfl⟩ := hd1.at_ (i := its.length) (by omega)
            have hi1 : its.length < its1.length := by omega
            have hili2 : (its.length : Int) < (its1.length : Int) := by omega
            have hit1 : its1[its.length]? = some (its1[its.length].1, its1[its.length].2) := List.getElem?_eq_getElem hi1
            obtain ⟨e0, e1⟩ := row_at hd1.row hit1 2 _ rfl
            have p1 := top_cells hd1.top 1
            obtain ⟨hmK, hwK⟩ := hd1.setKids hit1 (own_lower HO1.out hB6) HWF1.out HN1.out HW1.out fun k e => (World.ownsRow.lt HO1.out k e).1
            have hR9 := HR1.out
            have F9 : ¬ w.heap.size + 1 = g1 := fun e => HNR1.out (.inl (.inr (.inl (by rw [e]; rfl))))
            have hR9 := ((Frm.rf (· = g1) wr).st (p := ⟨g1, its.length * 3 + 2, none⟩) (.inl rfl) (.slice A1 xs.length c1)).heap F9 HR1.out
            have HR9 := hide hR9
            have f0' := top_free HR1.out 0
            have f1' := top_free HR1.out 1
            have r0' := top_cells HR1.out 0
            have r1' := top_cells HR1.out 1
            have r0 := top_cells hR9 0
            have r1 := top_cells hR9 1
            have f0 := top_free hR9 0
            have f1 := top_free hR9 1
            simp only [List.getElem?_toArray, List.getElem?_cons_succ, List.getElem?_cons_zero] at r0 r1 r0' r1' p1
            have HNR9 := hide (hwK.out (by omega) HNR6.out)
            have HMK := hide hmK
            have HWK := hide (HWP.out.tr hwK)
            clear hmK hwK hd1 hR9 hjk
            go_wp2_with fail
            refine bodyPost_ret_by (results_cell2 rfl _ _ (w.heap.size + 1) 59 _ (0, 0) _ rfl (heap_set2R HR9.out _ _) Tryz.underlying59 rfl ?_) rfl ?_
            · kernel_rfl
            · rw [HRES.out]
              exact ⟨rfl, imm_wf (by omega) (by omega), _, _, _, _, _, ⟨_, HMK.out.far (frm_set2R _ _ _ _) HNR9.out H0R.out⟩, HWK.out.far (by omega) (frm_set2R _ _ _ _)⟩
end
end Go.Proofs.YtoehaijmkmdggaaGreat
