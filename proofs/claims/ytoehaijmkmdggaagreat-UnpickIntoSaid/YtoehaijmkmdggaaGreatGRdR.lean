/- A reader in memory: bytes, blocks, types. -/
import Derived.Test.YtoehaijmkmdggaaGreatGRdP
import Derived.Test.YtoehaijmkmdggaaGreatGTyW
import Derived.Test.YtoehaijmkmdggaaGreatGBldP
set_option linter.unusedSimpArgs false
set_option linter.unusedVariables false
namespace Go.Proofs.YtoehaijmkmdggaaGreat
open Go.RowKit
open Em (Ty)
set_option linter.unusedVariables false
set_option maxRecDepth 100000
theorem Sl.blk_lt {α : Type} {sz : Nat} {K : World → List Value → α → Prop} {w : World} {v : Value} {xs : List α} (h : Sl sz K w v xs) (hz : 0 < sz) : ∀ ad n c, v = .slice (some ad) n c → 0 < n → ad.block < w.heap.size := by
  obtain ⟨A, c, e, h1, h2, h3⟩ := h
  intro ad n c' e2 hn
  rw [e] at e2
  injection e2 with ea en ec
  obtain ⟨ad', ea', hc⟩ := h3 (by omega)
  rw [ea'] at ea
  injection ea with ea
  subst ea
  obtain ⟨cs, hl, hcell, _⟩ := hc 0 (by omega)
  have h0 : cs[0]? = some cs[0] := List.getElem?_eq_getElem (by omega)
  have h9 := World.block_lt_of_cell? w _ (hcell 0 _ h0)
  rwa [add_block] at h9
/-- A slice lies in I. -/
def InX (I : Nat → Prop) (v : Value) : Prop := ∀ ad n c, v = .slice (some ad) n c → 0 < n → I ad.block
theorem Sl.frmI {α : Type} {sz : Nat} {K K' : World → List Value → α → Prop} {w w' : World} {v : Value} {xs : List α} {I T : Nat → Prop} (h : Sl sz K w v xs) (ha : InX I v) (F : Frm T w w') (hT : ∀ k, I k → ¬ T k) (hK : ∀ cs x, K w cs x → K' w' cs x) : Sl sz K' w' v xs := by
  obtain ⟨A, c, e, h1, h2, h3⟩ := h
  refine ⟨A, c, e, h1, h2, fun hp => (h3 hp).imp fun ad ⟨ea, hc⟩ => ⟨ea, fun j hj => (hc j hj).imp fun cs ⟨hl, hcell, hk⟩ => ⟨hl, fun i u hu => F.cell (fun ht => ?_) (hcell i u hu), hK _ _ hk⟩⟩⟩
  rw [add_block] at ht
  exact hT _ (ha ad xs.length c (by rw [e, ea]) hp) ht
/-- A type's cells, whose rows lie in I. -/
def TyI (I : Nat → Prop) : Nat → World → List Value → Ty → Prop
  | 0, _, _, _ => False
  | d + 1, w, cs, t => ∃ v, cs = [.string (str t.op), .int .i64 t.n, v] ∧ (Lit.int .i64 t.n).wf = true ∧ Sl 3 (TyI I d) w v t.kids ∧ InX I v
theorem TyI.ty : ∀ {I : Nat → Prop} {d : Nat} {w : World} {cs : List Value} {t : Ty}, TyI I d w cs t → TyK d w cs t
  | _, 0, _, _, _, h => h
  | I, d + 1, w, cs, t, ⟨v, h1, h2, h3, _⟩ => ⟨v, h1, h2, h3.mono fun _ _ h => TyI.ty h⟩
theorem TyI.frm : ∀ {I T : Nat → Prop} {d : Nat} {w w' : World} {cs : List Value} {t : Ty}, TyI I d w cs t → Frm T w w' → (∀ k, I k → ¬ T k) → TyI I d w' cs t
  | _, _, 0, _, _, _, _, h, _, _ => h
  | I, T, d + 1, w, w', cs, t, ⟨v, h1, h2, h3, h4⟩, F, hT => ⟨v, h1, h2, h3.frmI h4 F hT fun _ _ h => TyI.frm h F hT, h4⟩
theorem TyI.keep {I : Nat → Prop} {d : Nat} {w w' : World} {cs : List Value} {t : Ty} (h : TyI I d w cs t) (k : Keep w w') : TyI I d w' cs t := h.frm (k.frm fun _ => False) fun _ _ h => h
theorem TyI.mono : ∀ {I I' : Nat → Prop} {d : Nat} {w : World} {cs : List Value} {t : Ty}, TyI I d w cs t → (∀ k, I k → I' k) → TyI I' d w cs t
  | _, _, 0, _, _, _, h, _ => h
  | I, I', d + 1, w, cs, t, ⟨v, h1, h2, h3, h4⟩, hx => ⟨v, h1, h2, h3.mono fun _ _ h => TyI.mono h hx, fun ad n c e hn => hx _ (h4 ad n c e hn)⟩
theorem TyI.of : ∀ {d : Nat} {w : World} {cs : List Value} {t : Ty}, TyK d w cs t → TyI (fun k => k < w.heap.size) d w cs t
  | 0, _, _, _, h => h.elim
  | d + 1, w, cs, t, ⟨v, h1, h2, h3⟩ => ⟨v, h1, h2, h3.mono fun _ _ h => TyI.of h, fun ad n c e hn => h3.blk_lt (by omega) ad n c e hn⟩
theorem TyI.succ : ∀ {I : Nat → Prop} {d : Nat} {w : World} {cs : List Value} {t : Ty}, TyI I d w cs t → TyI I (d + 1) w cs t
  | _, 0, _, _, _, h => h.elim
  | I, d + 1, w, cs, t, ⟨v, h1, h2, h3, h4⟩ => ⟨v, h1, h2, h3.mono fun _ _ h => TyI.succ h, h4⟩
theorem TyI.le {I : Nat → Prop} {d e : Nat} {w : World} {cs : List Value} {t : Ty} (h : TyI I d w cs t) (hle : d ≤ e) : TyI I e w cs t := by
  induction hle with
  | refl => exact h
  | step _ ih => exact ih.succ
theorem TyI.three {I : Nat → Prop} {d : Nat} {w : World} {cs : List Value} {t : Ty} (h : TyI I d w cs t) : cs.length = 3 := by
  cases d with
  | zero => exact h.elim
  | succ d =>
    obtain ⟨v, rfl, _⟩ := h
    rfl
/-- The blocks of memory that a reader has, those of types aside. -/
def OwnR (p : Nat) (lv tv : Value) (its : List (Em.Blk × Value)) (k : Nat) : Prop := k = p ∨ lv.ownBlock = some k ∨ tv.ownBlock = some k ∨ ∃ it ∈ its, it.2.ownBlock = some k
/-- The blocks of memory that a reader has; Z: those of types. -/
def HasR (Z : Nat → Prop) (p : Nat) (lv tv : Value) (its : List (Em.Blk × Value)) (k : Nat) : Prop := OwnR p lv tv its k ∨ Z k
structure RdM (tt B : Nat) (Z : Nat → Prop) (w0 w : World) (p : Nat) (bv lv tv : Value) (ex : List Value) (its : List (Em.Blk × Value)) (tys : List (Ty × List Value)) (s : Em.Rd) : Prop where
  top : w.heap[p]? = some (.cells (bv :: lv :: tv :: ex).toArray tt)
  byt : Bs w0 bv s.b
  k0 : Keep w0 w
  p0 : w0.heap.size ≤ B ∧ B ≤ p
  row : w.ownsRow B 72 3 lv its.length (its.map blkCells).flatten
  kid : ∀ it ∈ its, w.ownsRow B 59 2 it.2 it.1.kids.length (it.1.kids.map refCells).flatten
  wf : ∀ it ∈ its, (Lit.int .i64 it.1.tag).wf = true ∧ ∀ k ∈ it.1.kids, (Lit.int .i64 k.2).wf = true
  tow : w.ownsRow B 25 3 tv tys.length (tys.map (·.2)).flatten
  tya : ∀ y ∈ tys, ∃ d, TyI (fun k => k < w0.heap.size ∨ Z k) d w y.2 y.1
  z : ∀ k, Z k → w0.heap.size ≤ k ∧ k < w.heap.size ∧ ¬ OwnR p lv tv its k
  d1 : ∀ k, lv.ownBlock = some k → k ≠ p ∧ tv.ownBlock ≠ some k
  d2 : ∀ k, tv.ownBlock = some k → k ≠ p
  d3 : ∀ it ∈ its, ∀ k, it.2.ownBlock = some k → k ≠ p ∧ lv.ownBlock ≠ some k ∧ tv.ownBlock ≠ some k
  bl : s.bl = its.map (·.1)
  ty : s.ty = tys.map (·.1)
  len : its.length = tys.length
  lim : its.length ≤ 2000
/-- A reading went on. -/
structure RWent (Z Z' : Nat → Prop) (w w' : World) (p : Nat) (lv tv lv' tv' : Value) (its its' : List (Em.Blk × Value)) : Prop where
  frm : Frm (fun k => k = p ∨ lv.ownBlock = some k ∨ tv.ownBlock = some k) w w'
  rl : ∀ k, lv'.ownBlock = some k → lv.ownBlock = some k ∨ w.heap.size ≤ k
  rt : ∀ k, tv'.ownBlock = some k → tv.ownBlock = some k ∨ w.heap.size ≤ k
  has : ∀ k, HasR Z' p lv' tv' its' k → HasR Z p lv tv its k ∨ w.heap.size ≤ k
  zs : ∀ k, Z k → Z' k
  len : its.length ≤ its'.length
section
variable {tt B : Nat} {Z Z1 Z' : Nat → Prop} {w0 w w1 w' : World} {p : Nat} {bv lv tv lv1 tv1 lv' tv' : Value} {ex : List Value} {its its1 its' : List (Em.Blk × Value)} {tys : List (Ty × List Value)} {s : Em.Rd}
theorem RdM.ltO (h : RdM tt B Z w0 w p bv lv tv ex its tys s) : ∀ k, OwnR p lv tv its k → B ≤ k ∧ k < w.heap.size := by
  rintro k (rfl | e | e | ⟨it, hit, e⟩)
  · exact ⟨h.p0.2, (Array.getElem?_eq_some_iff.1 h.top).1⟩
  · exact World.ownsRow.lt h.row k e
  · exact World.ownsRow.lt h.tow k e
  · exact World.ownsRow.lt (h.kid it hit) k e
theorem RdM.lt (h : RdM tt B Z w0 w p bv lv tv ex its tys s) : ∀ k, HasR Z p lv tv its k → w0.heap.size ≤ k ∧ k < w.heap.size := by
  rintro k (e | e)
  · have := h.ltO k e
    exact ⟨Nat.le_trans h.p0.1 this.1, this.2⟩
  · exact ⟨(h.z k e).1, (h.z k e).2.1⟩
/-- Where the types' rows lie is not what changes. -/
theorem RdM.apart (h : RdM tt B Z w0 w p bv lv tv ex its tys s) {k : Nat} (hk : k < w0.heap.size ∨ Z k) : ¬ OwnR p lv tv its k := fun e => by
  rcases hk with hk | hk
  · have := h.ltO k e
    have := h.p0.1
    omega
  · exact (h.z k hk).2.2 e
theorem RdM.frm {S : Nat → Prop} (h : RdM tt B Z w0 w p bv lv tv ex its tys s) (F : Frm S w w') (hs : ∀ k, HasR Z p lv tv its k → ¬ S k) (h0 : ∀ k, S k → w0.heap.size ≤ k) : RdM tt B Z w0 w' p bv lv tv ex its tys s :=
  { h with
    top := F.heap (hs _ (.inl (.inl rfl))) h.top, k0 := Frm.keep h.k0 F h0
    row := F.own h.row fun k e => hs k (.inl (.inr (.inl e)))
    kid := fun it hit => F.own (h.kid it hit) fun k e => hs k (.inl (.inr (.inr (.inr ⟨it, hit, e⟩))))
    tow := F.own h.tow fun k e => hs k (.inl (.inr (.inr (.inl e))))
    tya := fun y hy => (h.tya y hy).imp fun d hd => hd.frm F fun k hk hS => by
      rcases hk with hk | hk
      · have := h0 k hS; omega
      · exact hs k (.inr hk) hS
    z := fun k hk => ⟨(h.z k hk).1, Nat.lt_of_lt_of_le (h.z k hk).2.1 F.size, (h.z k hk).2.2⟩ }
theorem RdM.keep (h : RdM tt B Z w0 w p bv lv tv ex its tys s) (k : Keep w w') : RdM tt B Z w0 w' p bv lv tv ex its tys s :=
  h.frm (k.frm fun _ => False) (fun _ _ h => h) fun _ h => h.elim
/-- More blocks of types. -/
theorem RdM.moreZ (h : RdM tt B Z w0 w p bv lv tv ex its tys s) (h1 : ∀ k, Z k → Z' k) (h2 : ∀ k, Z' k → Z k ∨ (w0.heap.size ≤ k ∧ k < w.heap.size ∧ ¬ OwnR p lv tv its k)) : RdM tt B Z' w0 w p bv lv tv ex its tys s :=
  { h with
    tya := fun y hy => (h.tya y hy).imp fun d hd => hd.mono fun k hk => hk.imp id (h1 k)
    z := fun k hk => by
      rcases h2 k hk with e | e
      · exact h.z k e
      · exact e }
theorem RWent.rf : RWent Z Z w w p lv tv lv tv its its := ⟨Frm.rf _ _, fun k h => .inl h, fun k h => .inl h, fun k h => .inl h, fun k h => h, Nat.le_refl _⟩
theorem RWent.of_keep (k : Keep w w') : RWent Z Z w w' p lv tv lv tv its its := ⟨k.frm _, fun k h => .inl h, fun k h => .inl h, fun k h => .inl h, fun k h => h, Nat.le_refl _⟩
theorem RWent.tr (h : RWent Z Z1 w w1 p lv tv lv1 tv1 its its1) (h2 : RWent Z1 Z' w1 w' p lv1 tv1 lv' tv' its1 its') : RWent Z Z' w w' p lv tv lv' tv' its its' := by
  have hsz := h.frm.size
  refine ⟨h.frm.trn h2.frm ?_, fun k e => ?_, fun k e => ?_, fun k e => ?_, fun k e => h2.zs k (h.zs k e), Nat.le_trans h.len h2.len⟩
  · rintro k (e | e | e)
    · exact .inl (.inl e)
    · rcases h.rl k e with e | e
      · exact .inl (.inr (.inl e))
      · exact .inr e
    · rcases h.rt k e with e | e
      · exact .inl (.inr (.inr e))
      · exact .inr e
  · rcases h2.rl k e with e | e
    · exact h.rl k e
    · exact .inr (by omega)
  · rcases h2.rt k e with e | e
    · exact h.rt k e
    · exact .inr (by omega)
  · rcases h2.has k e with e | e
    · exact h.has k e
    · exact .inr (by omega)
theorem RWent.low (h : RWent Z Z' w w' p lv tv lv' tv' its its') (hd : RdM tt B Z w0 w p bv lv tv ex its tys s) : Keep w0 w' :=
  Frm.keep hd.k0 h.frm fun i e => by
    have := (hd.ltO i (by rcases e with e | e | e; exact .inl e; exact .inr (.inl e); exact .inr (.inr (.inl e)))).1
    have := hd.p0.1
    omega
theorem RWent.out (h : RWent Z Z' w w' p lv tv lv' tv' its its') {k : Nat} (hk : k < w.heap.size) (hn : ¬ HasR Z p lv tv its k) : ¬ HasR Z' p lv' tv' its' k := fun e => by
  rcases h.has k e with e | e
  · exact hn e
  · omega
theorem sub_own {k : Nat} (e : k = p ∨ lv.ownBlock = some k ∨ tv.ownBlock = some k) : OwnR p lv tv its k := by
  rcases e with e | e | e
  · exact .inl e
  · exact .inr (.inl e)
  · exact .inr (.inr (.inl e))
theorem RWent.heap (h : RWent Z Z' w w' p lv tv lv' tv' its its') {k : Nat} {o : Obj} (hn : ¬ HasR Z p lv tv its k) (ho : w.heap[k]? = some o) : w'.heap[k]? = some o := h.frm.heap (fun e => hn (.inl (sub_own e))) ho
theorem RWent.own (h : RWent Z Z' w w' p lv tv lv' tv' its its') {base e size n : Nat} {v : Value} {xs : List Value} (ho : w.ownsRow base e size v n xs) (hn : ∀ k, v.ownBlock = some k → ¬ HasR Z p lv tv its k) : w'.ownsRow base e size v n xs :=
  h.frm.own ho fun k hk e => hn k hk (.inl (sub_own e))
/-- A type that lies where types lie stays as it is. -/
theorem RWent.ty (h : RWent Z Z' w w' p lv tv lv' tv' its its') (hd : RdM tt B Z w0 w p bv lv tv ex its tys s) {d : Nat} {cs : List Value} {t : Ty} (ht : TyI (fun k => k < w0.heap.size ∨ Z k) d w cs t) : TyI (fun k => k < w0.heap.size ∨ Z' k) d w' cs t :=
  (ht.frm h.frm fun k hk e => hd.apart hk (sub_own e)).mono fun k hk => hk.imp id (h.zs k)
/-- Bytes were taken. -/
theorem RdM.setB (h : RdM tt B Z w0 w p bv lv tv ex its tys s) {bv' : Value} {b' : List UInt8} (hb : Bs w0 bv' b') : RdM tt B Z w0 (w.setCell ⟨p, 0, none⟩ bv') p bv' lv tv ex its tys ⟨b', s.bl, s.ty⟩ ∧ RWent Z Z w (w.setCell ⟨p, 0, none⟩ bv') p lv tv lv tv its its := by
  have F : Frm (· = p) w (w.setCell ⟨p, 0, none⟩ bv') := (Frm.rf (· = p) w).st (p := ⟨p, 0, none⟩) (.inl rfl) _
  have hw : RWent Z Z w (w.setCell ⟨p, 0, none⟩ bv') p lv tv lv tv its its := ⟨F.mono fun k _ e => .inl e, fun k h => .inl h, fun k h => .inl h, fun k h => .inl h, fun k h => h, Nat.le_refl _⟩
  refine ⟨{ h with top := ?_, byt := hb, k0 := hw.low h, row := F.own h.row fun k e => (h.d1 k e).1, kid := fun it hit => F.own (h.kid it hit) fun k e => (h.d3 it hit k e).1, tow := F.own h.tow fun k e => h.d2 k e, tya := fun y hy => (h.tya y hy).imp fun d hd => hw.ty h hd, z := fun k hk => ⟨(h.z k hk).1, Nat.lt_of_lt_of_le (h.z k hk).2.1 F.size, (h.z k hk).2.2⟩ }, hw⟩
  have := heap_set h.top bv' (j := 0)
  simpa using this
/-- A store into what is none of the reader's. -/
theorem RdM.far {r : Nat} (h : RdM tt B Z w0 w p bv lv tv ex its tys s) (F : Frm (· = r) w w') (hr : ¬ HasR Z p lv tv its r) (hw : w0.heap.size ≤ r) : RdM tt B Z w0 w' p bv lv tv ex its tys s :=
  h.frm F (fun k hk e => hr (by have e : k = r := e; exact e ▸ hk)) fun k e => by have e : k = r := e; omega
/-- A block, and its type, were pushed. -/
theorem RdM.pushed {W1 W2 W3 W4 : World} {v3 v4 : Value} {ty : Ty} {cs : List Value} (h : RdM tt B Z w0 w p bv lv tv ex its tys s) (ht : (Lit.int .i64 (Em.tagT ty.op)).wf = true) (hcs : ∃ d, TyI (fun k => k < w0.heap.size ∨ Z k) d w cs ty) (hl : its.length < 2000)
    (k1 : Keep w W1) (a1 : App W1 B 72 3 lv (its.length + 1) ((its.map blkCells).flatten ++ blkCells (⟨Em.tagT ty.op, [], []⟩, .slice none 0 0)) v3 W2) (k2 : Keep W2 W3) (a2 : App W3 B 25 3 tv (tys.length + 1) ((tys.map (·.2)).flatten ++ cs) v4 W4) {W5 : World} (Fs : Frm (· = p) W4 W5) (ht5 : W5.heap[p]? = some (.cells (bv :: v3 :: v4 :: ex).toArray tt)) :
    RdM tt B Z w0 W5 p bv v3 v4 ex (its ++ [(⟨Em.tagT ty.op, [], []⟩, .slice none 0 0)]) (tys ++ [(ty, cs)]) (s.push ty) ∧ RWent Z Z w W5 p lv tv v3 v4 its (its ++ [(⟨Em.tagT ty.op, [], []⟩, .slice none 0 0)]) := by
  obtain ⟨o1, g1, m1⟩ := a1
  obtain ⟨o2, g2, m2⟩ := a2
  have F1 : Frm (fun k => lv.ownBlock = some k) W1 W2 := Frm.of_grown g1 fun _ e => e
  have F2 : Frm (fun k => tv.ownBlock = some k) W3 W4 := Frm.of_grown g2 fun _ e => e
  have z1 := k1.size
  have z2 := F1.size
  have z3 := k2.size
  have z4 := F2.size
  have hlt := h.lt
  have hp := (hlt p (.inl (.inl rfl))).2
  have hv3 : ∀ k, v3.ownBlock = some k → lv.ownBlock = some k ∨ k = W1.heap.size := fun k e => by
    rcases m1 with m | m
    · exact .inl (by rw [← m, e])
    · rw [m] at e
      injection e with e
      exact .inr e.symm
  have hv4 : ∀ k, v4.ownBlock = some k → tv.ownBlock = some k ∨ k = W3.heap.size := fun k e => by
    rcases m2 with m | m
    · exact .inl (by rw [← m, e])
    · rw [m] at e
      injection e with e
      exact .inr e.symm
  have hl3 : ∀ k, v3.ownBlock = some k → k ≠ p ∧ tv.ownBlock ≠ some k := fun k e => by
    rcases hv3 k e with e | e
    · exact h.d1 k e
    · exact ⟨by omega, fun e2 => by have := (hlt k (.inl (.inr (.inr (.inl e2))))).2; omega⟩
  have hl4 : ∀ k, v4.ownBlock = some k → k ≠ p := fun k e => by
    rcases hv4 k e with e | e
    · exact h.d2 k e
    · omega
  have hk3 := World.ownsRow.lt o1
  have hw : RWent Z Z w W5 p lv tv v3 v4 its (its ++ [(⟨Em.tagT ty.op, [], []⟩, .slice none 0 0)]) := by
    refine ⟨((((k1.frm _).trn F1 fun i e => .inl (.inr (.inl e))).tr (k2.frm _)).trn F2 fun i e => .inl (.inr (.inr e))).trn Fs fun i e => .inl (.inl e), fun k e => ?_, fun k e => ?_, fun k e => ?_, fun k e => e, by simp⟩
    · rcases hv3 k e with e | e
      · exact .inl e
      · exact .inr (by omega)
    · rcases hv4 k e with e | e
      · exact .inl e
      · exact .inr (by omega)
    · rcases e with (e | e | e | ⟨it, hit, e⟩) | e
      · exact .inl (.inl (.inl e))
      · rcases hv3 k e with e | e
        · exact .inl (.inl (.inr (.inl e)))
        · exact .inr (by omega)
      · rcases hv4 k e with e | e
        · exact .inl (.inl (.inr (.inr (.inl e))))
        · exact .inr (by omega)
      · rcases List.mem_append.1 hit with hit | hit
        · exact .inl (.inl (.inr (.inr (.inr ⟨it, hit, e⟩))))
        · obtain rfl := List.mem_singleton.1 hit
          simp [Value.ownBlock] at e
      · exact .inl (.inr e)
  refine ⟨{ top := ?_, byt := h.byt, k0 := hw.low h, p0 := h.p0, row := ?_, kid := ?_, wf := ?_, tow := ?_, tya := ?_, z := ?_, d1 := ?_, d2 := hl4, d3 := ?_, bl := ?_, ty := ?_, len := by simp [h.len], lim := by simp; omega }, hw⟩
  · exact ht5
  · have := Fs.own (F2.own (own_keep o1 k2) fun k e => (hl3 k e).2) fun k e => (hl3 k e).1
    simpa using this
  · intro it hit
    rcases List.mem_append.1 hit with hit | hit
    · exact Fs.own (F2.own (own_keep (F1.own (own_keep (h.kid it hit) k1) fun k e => (h.d3 it hit k e).2.1) k2) fun k e => (h.d3 it hit k e).2.2) fun k e => (h.d3 it hit k e).1
    · obtain rfl := List.mem_singleton.1 hit
      exact ⟨by simp, .inl ⟨rfl, rfl⟩⟩
  · intro it hit
    rcases List.mem_append.1 hit with hit | hit
    · exact h.wf it hit
    · obtain rfl := List.mem_singleton.1 hit
      exact ⟨ht, by simp⟩
  · have := Fs.own o2 fun k e => hl4 k e
    simpa using this
  · intro y hy
    rcases List.mem_append.1 hy with hy | hy
    · exact (h.tya y hy).imp fun d hd => hw.ty h hd
    · obtain rfl := List.mem_singleton.1 hy
      exact hcs.imp fun d hd => hw.ty h hd
  · intro k hk
    obtain ⟨a, b, c⟩ := h.z k hk
    refine ⟨a, Nat.lt_of_lt_of_le b hw.frm.size, ?_⟩
    rintro (e | e | e | ⟨it, hit, e⟩)
    · exact c (.inl e)
    · rcases hv3 k e with e | e
      · exact c (.inr (.inl e))
      · omega
    · rcases hv4 k e with e | e
      · exact c (.inr (.inr (.inl e)))
      · omega
    · rcases List.mem_append.1 hit with hit | hit
      · exact c (.inr (.inr (.inr ⟨it, hit, e⟩)))
      · obtain rfl := List.mem_singleton.1 hit
        simp [Value.ownBlock] at e
  · intro k e
    refine ⟨(hl3 k e).1, fun e2 => ?_⟩
    rcases hv4 k e2 with e3 | e3
    · exact (hl3 k e).2 e3
    · have := (hk3 k e).2
      omega
  · intro it hit k hk
    rcases List.mem_append.1 hit with hit | hit
    · obtain ⟨a, b, c⟩ := h.d3 it hit k hk
      have hkl := (hlt k (.inl (.inr (.inr (.inr ⟨it, hit, hk⟩))))).2
      refine ⟨a, fun e => ?_, fun e => ?_⟩
      · rcases hv3 k e with e | e
        · exact b e
        · omega
      · rcases hv4 k e with e | e
        · exact c e
        · omega
    · obtain rfl := List.mem_singleton.1 hit
      simp [Value.ownBlock] at hk
  · simp [Em.Rd.push, h.bl]
  · simp [Em.Rd.push, h.ty]
theorem RdM.topped {W1 W2 W3 W4 : World} {v3 v4 : Value} {xs ys : List Value} {a b : Nat} (h : RdM tt B Z w0 w p bv lv tv ex its tys s) (k1 : Keep w W1) (a1 : App W1 B 72 3 lv a xs v3 W2) (k2 : Keep W2 W3) (a2 : App W3 B 25 3 tv b ys v4 W4) : W4.heap[p]? = some (.cells (bv :: lv :: tv :: ex).toArray tt) :=
  (Frm.of_grown (S := fun k => tv.ownBlock = some k) a2.2.1 fun _ e => e).heap (fun e => h.d2 p e rfl) ((k2.frm fun _ => False).heap (fun h => h) ((Frm.of_grown (S := fun k => lv.ownBlock = some k) a1.2.1 fun _ e => e).heap (fun e => (h.d1 p e).1 rfl) ((k1.frm fun _ => False).heap (fun h => h) h.top)))
theorem RdM.setStr {g n c i : Nat} {b : Em.Blk} {v : Value} (h : RdM tt B Z w0 w p bv (.slice (some ⟨g, 0, none⟩) n c) tv ex its tys s) (hi : its[i]? = some (b, v)) (x : List UInt8) :
    RdM tt B Z w0 (w.setCell ⟨g, i * 3 + 1, none⟩ (.string (str x))) p bv (.slice (some ⟨g, 0, none⟩) n c) tv ex (its.set i (b.str! x, v)) tys ⟨s.b, s.bl.modify i fun b => b.str! x, s.ty⟩ ∧ RWent Z Z w (w.setCell ⟨g, i * 3 + 1, none⟩ (.string (str x))) p (.slice (some ⟨g, 0, none⟩) n c) tv (.slice (some ⟨g, 0, none⟩) n c) tv its (its.set i (b.str! x, v)) := by
  have F : Frm (· = g) w (w.setCell ⟨g, i * 3 + 1, none⟩ (.string (str x))) := (Frm.rf (· = g) w).st (p := ⟨g, i * 3 + 1, none⟩) (.inl rfl) _
  have hn : n = its.length := by
    obtain ⟨_, ⟨e, _⟩ | ⟨_, _, _, e, _⟩⟩ := h.row
    · cases e
    · injection e
  subst hn
  have hmem := List.mem_of_getElem? hi
  have hx : ∀ it, it ∈ its.set i (b.str! x, v) → ∃ it' ∈ its, it'.2 = it.2 ∧ it'.1.kids = it.1.kids ∧ it'.1.tag = it.1.tag := by
    intro it hit
    rcases mem_set_or hit with hit | rfl
    · exact ⟨it, hit, rfl, rfl, rfl⟩
    · exact ⟨_, hmem, rfl, rfl, rfl⟩
  have hso : ∀ k, OwnR p (.slice (some ⟨g, 0, none⟩) its.length c) tv (its.set i (b.str! x, v)) k → OwnR p (.slice (some ⟨g, 0, none⟩) its.length c) tv its k := by
    rintro k (e | e | e | ⟨it, hit, e⟩)
    · exact .inl e
    · exact .inr (.inl e)
    · exact .inr (.inr (.inl e))
    · obtain ⟨it', h1, h2, _⟩ := hx it hit
      exact .inr (.inr (.inr ⟨it', h1, by rw [h2]; exact e⟩))
  have hw : RWent Z Z w (w.setCell ⟨g, i * 3 + 1, none⟩ (.string (str x))) p (.slice (some ⟨g, 0, none⟩) its.length c) tv (.slice (some ⟨g, 0, none⟩) its.length c) tv its (its.set i (b.str! x, v)) := by
    refine ⟨F.mono fun k _ e => .inr (.inl (by rw [show k = g from e]; rfl)), fun k h => .inl h, fun k h => .inl h, ?_, fun k h => h, by simp⟩
    rintro k (e | e)
    · exact .inl (.inl (hso k e))
    · exact .inl (.inr e)
  have hg : (Value.slice (some ⟨g, 0, none⟩) its.length c).ownBlock = some g := rfl
  refine ⟨{ top := F.heap (fun e => (h.d1 g hg).1 e.symm) h.top, byt := h.byt, k0 := hw.low h, p0 := h.p0, row := ?_, kid := ?_, wf := ?_, tow := ?_, tya := fun y hy => (h.tya y hy).imp fun d hd => hw.ty h hd, z := fun k hk => ⟨(h.z k hk).1, Nat.lt_of_lt_of_le (h.z k hk).2.1 F.size, fun e => (h.z k hk).2.2 (hso k e)⟩, d1 := h.d1, d2 := h.d2, d3 := ?_, bl := ?_, ty := h.ty, len := by simpa using h.len, lim := by simpa using h.lim }, hw⟩
  · have := (World.ownsRow.stored h.row (i * 3 + 1) (.string (str x))).1
    rw [flat_set (it' := (b.str! x, v)) hi rfl (by omega)] at this
    simpa using this
  · intro it hit
    obtain ⟨it', h1, h2, h3, _⟩ := hx it hit
    rw [← h2, ← h3]
    exact F.own (h.kid it' h1) fun k e e2 => (h.d3 it' h1 k e).2.1 (by rw [e2]; rfl)
  · intro it hit
    obtain ⟨it', h1, _, h3, h4⟩ := hx it hit
    rw [← h3, ← h4]
    exact h.wf it' h1
  · exact F.own h.tow fun k e e2 => (h.d1 g hg).2 (by rw [← show k = g from e2]; exact e)
  · intro it hit k hk
    obtain ⟨it', h1, h2, _⟩ := hx it hit
    exact h.d3 it' h1 k (by rw [h2]; exact hk)
  · rw [bl_set hi fun b => b.str! x, h.bl]
theorem RdM.setKids {g n c i : Nat} {b : Em.Blk} {v u : Value} {ks : List (Bool × Int)} (h : RdM tt B Z w0 w p bv (.slice (some ⟨g, 0, none⟩) n c) tv ex its tys s) (hi : its[i]? = some (b, v)) (hu : w.ownsRow B 59 2 u ks.length (ks.map refCells).flatten) (hwk : ∀ k ∈ ks, (Lit.int .i64 k.2).wf = true)
    (hd : ∀ k, u.ownBlock = some k → ¬ HasR Z p (.slice (some ⟨g, 0, none⟩) n c) tv its k) {ZA : Nat → Prop} {wA : World} {lvA tvA : Value} {itsA : List (Em.Blk × Value)} (hA : RWent ZA Z wA w p lvA tvA (.slice (some ⟨g, 0, none⟩) n c) tv itsA its) (hnew : ∀ k, u.ownBlock = some k → wA.heap.size ≤ k) :
    RdM tt B Z w0 (w.setCell ⟨g, i * 3 + 2, none⟩ u) p bv (.slice (some ⟨g, 0, none⟩) n c) tv ex (its.set i (b.kids! ks, u)) tys ⟨s.b, s.bl.modify i fun b => b.kids! ks, s.ty⟩ ∧ RWent ZA Z wA (w.setCell ⟨g, i * 3 + 2, none⟩ u) p lvA tvA (.slice (some ⟨g, 0, none⟩) n c) tv itsA (its.set i (b.kids! ks, u)) := by
  have F : Frm (· = g) w (w.setCell ⟨g, i * 3 + 2, none⟩ u) := (Frm.rf (· = g) w).st (p := ⟨g, i * 3 + 2, none⟩) (.inl rfl) _
  have hn : n = its.length := by
    obtain ⟨_, ⟨e, _⟩ | ⟨_, _, _, e, _⟩⟩ := h.row
    · cases e
    · injection e
  subst hn
  have hmem := List.mem_of_getElem? hi
  have hg : (Value.slice (some ⟨g, 0, none⟩) its.length c).ownBlock = some g := rfl
  have hsub : ∀ k, OwnR p (.slice (some ⟨g, 0, none⟩) its.length c) tv (its.set i (b.kids! ks, u)) k → OwnR p (.slice (some ⟨g, 0, none⟩) its.length c) tv its k ∨ u.ownBlock = some k := by
    rintro k (e | e | e | ⟨it, hit, e⟩)
    · exact .inl (.inl e)
    · exact .inl (.inr (.inl e))
    · exact .inl (.inr (.inr (.inl e)))
    · rcases mem_set_or hit with hit | rfl
      · exact .inl (.inr (.inr (.inr ⟨it, hit, e⟩)))
      · exact .inr e
  have hF2 : Frm (fun k => k = p ∨ (Value.slice (some ⟨g, 0, none⟩) its.length c).ownBlock = some k ∨ tv.ownBlock = some k) w (w.setCell ⟨g, i * 3 + 2, none⟩ u) := F.mono fun k _ e => .inr (.inl (by rw [show k = g from e]; rfl))
  have hw : RWent ZA Z wA (w.setCell ⟨g, i * 3 + 2, none⟩ u) p lvA tvA (.slice (some ⟨g, 0, none⟩) its.length c) tv itsA (its.set i (b.kids! ks, u)) := by
    refine ⟨hA.frm.trn hF2 fun k e => ?_, hA.rl, hA.rt, fun k e => ?_, hA.zs, by simpa using hA.len⟩
    · rcases e with e | e | e
      · exact .inl (.inl e)
      · rcases hA.rl k e with e | e
        · exact .inl (.inr (.inl e))
        · exact .inr e
      · rcases hA.rt k e with e | e
        · exact .inl (.inr (.inr e))
        · exact .inr e
    · rcases e with e | e
      · rcases hsub k e with e | e
        · exact hA.has k (.inl e)
        · exact .inr (hnew k e)
      · exact hA.has k (.inr e)
  have hk0 : Keep w0 (w.setCell ⟨g, i * 3 + 2, none⟩ u) := Frm.keep h.k0 F fun k e => by
    have := (h.ltO g (.inr (.inl hg))).1
    have := h.p0.1
    have e : k = g := e
    omega
  refine ⟨{ top := F.heap (fun e => (h.d1 g hg).1 e.symm) h.top, byt := h.byt, k0 := hk0, p0 := h.p0, row := ?_, kid := ?_, wf := ?_, tow := ?_, tya := fun y hy => (h.tya y hy).imp fun d hd => hd.frm F fun k hk e => h.apart hk (.inr (.inl (by rw [show k = g from e]; rfl))), z := fun k hk => ⟨(h.z k hk).1, Nat.lt_of_lt_of_le (h.z k hk).2.1 F.size, fun e => ?_⟩, d1 := h.d1, d2 := h.d2, d3 := ?_, bl := ?_, ty := h.ty, len := by simpa using h.len, lim := by simpa using h.lim }, hw⟩
  · have := (World.ownsRow.stored h.row (i * 3 + 2) u).1
    rw [flat_set (it' := (b.kids! ks, u)) hi rfl (by omega)] at this
    simpa using this
  · intro it hit
    rcases mem_set_or hit with hit | rfl
    · exact F.own (h.kid it hit) fun k e e2 => (h.d3 it hit k e).2.1 (by rw [e2]; rfl)
    · exact F.own hu fun k e e2 => hd k e (.inl (.inr (.inl (by rw [e2]; rfl))))
  · intro it hit
    rcases mem_set_or hit with hit | rfl
    · exact h.wf it hit
    · exact ⟨(h.wf _ hmem).1, hwk⟩
  · exact F.own h.tow fun k e e2 => (h.d1 g hg).2 (by rw [← show k = g from e2]; exact e)
  · rcases hsub k e with e | e
    · exact (h.z k hk).2.2 e
    · exact hd k e (.inr hk)
  · intro it hit k hk
    rcases mem_set_or hit with hit | rfl
    · exact h.d3 it hit k hk
    · have := hd k hk
      simp only [HasR, OwnR, not_or] at this
      exact ⟨this.1.1, this.1.2.1, this.1.2.2.1⟩
  · rw [bl_set hi fun b => b.kids! ks, h.bl]
/-- The row of blocks, where it lies. -/
theorem RdM.at_ (h : RdM tt B Z w0 w p bv lv tv ex its tys s) {i : Nat} (hi : i < its.length) : ∃ g c, lv = .slice (some ⟨g, 0, none⟩) its.length c := by
  obtain ⟨_, ⟨_, h00⟩ | ⟨g, c, cur, e, _⟩⟩ := h.row
  · omega
  · exact ⟨g, c, e⟩
/-- The reading's end: its graph. -/
theorem RdM.sl (h : RdM tt B Z w0 w p bv lv tv ex its tys s) : Sl 3 KBk w lv s.bl := by
  refine sl_of_own h.row (by rw [h.bl]; simp) (by rw [h.bl]; simp) (fun cs hcs => ?_) fun j h1 h2 => ?_
  · obtain ⟨it, _, rfl⟩ := List.mem_map.1 hcs
    rfl
  · rw [List.length_map] at h1
    have hmem := List.getElem_mem h1
    have e : s.bl[j] = its[j].1 := by simp [h.bl]
    rw [List.getElem_map, e]
    refine ⟨_, rfl, (h.wf _ hmem).1, ?_⟩
    refine sl_of_own (h.kid _ hmem) rfl (by simp) (fun cs hcs => ?_) fun q g1 g2 => ?_
    · obtain ⟨it, _, rfl⟩ := List.mem_map.1 hcs
      rfl
    · rw [List.getElem_map]
      exact ⟨rfl, (h.wf _ hmem).2 _ (List.getElem_mem _)⟩
end
end Go.Proofs.YtoehaijmkmdggaaGreat
