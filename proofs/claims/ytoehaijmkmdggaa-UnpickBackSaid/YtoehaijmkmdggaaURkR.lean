/- The picker of the reference in memory: a heap, a map, types, bytes; no error. -/
import Derived.Test.YtoehaijmkmdggaaUPkR
import Derived.Test.YtoehaijmkmdggaaURvR
set_option linter.unusedSimpArgs false
set_option linter.unusedVariables false
namespace Go.Proofs.Ytoehaijmkmdggaa
open Go.RowKit Go.Maps
open Em (Ty)
set_option linter.unusedVariables false
set_option maxRecDepth 100000
/-- What the map has for a word: its number. -/
def posKV (ws : List Int) (n : Int) : Option Value := (Em.posK ws n).map fun i => .int .i64 (i : Int)
theorem posKV_snoc {ws : List Int} {n : Int} (h : Em.posK ws n = none) : posKV (ws ++ [n]) = fun m => if m = n then some (.int .i64 (ws.length : Int)) else posKV ws m := by
  funext m
  unfold posKV
  rw [Em.posK_snoc h m]
  split <;> rfl
/-- The blocks of memory that the picker has. -/
def OwnK (p mb : Nat) (tv ov : Value) (k : Nat) : Prop := k = p ∨ k = mb ∨ tv.ownBlock = some k ∨ ov.ownBlock = some k
structure RkM (tt B : Nat) (Z : Nat → Prop) (w0 w : World) (p mb : Nat) (hv tv ov : Value) (f : Int → Option Value) (tys : List (Ty × List Value)) (b : List UInt8) : Prop where
  top : w.heap[p]? = some (.cells #[hv, .map (some mb), tv, ov, .int .i64 0] tt)
  k0 : Keep w0 w
  p0 : w0.heap.size ≤ B ∧ B ≤ p ∧ B ≤ mb
  own : Ob w B 5 ov b
  tow : w.ownsRow B 25 3 tv tys.length (tys.map (·.2)).flatten
  map : MapF w mb f
  tya : ∀ y ∈ tys, ∃ d, TyI (fun k => k < w0.heap.size ∨ Z k) d w y.2 y.1
  z : ∀ k, Z k → w0.heap.size ≤ k ∧ k < w.heap.size ∧ ¬ OwnK p mb tv ov k
  d1 : ∀ k, ov.ownBlock = some k → k ≠ p ∧ k ≠ mb ∧ tv.ownBlock ≠ some k
  d2 : mb ≠ p
  d3 : ∀ k, tv.ownBlock = some k → k ≠ p ∧ k ≠ mb
/-- A picking went on. -/
structure KWent (Z Z' : Nat → Prop) (w w' : World) (p mb : Nat) (tv ov tv' ov' : Value) : Prop where
  frm : Frm (OwnK p mb tv ov) w w'
  rt : ∀ k, tv'.ownBlock = some k → tv.ownBlock = some k ∨ w.heap.size ≤ k
  ro : ∀ k, ov'.ownBlock = some k → ov.ownBlock = some k ∨ w.heap.size ≤ k
  zs : ∀ k, Z k → Z' k
  zn : ∀ k, Z' k → Z k ∨ w.heap.size ≤ k
section
variable {tt B : Nat} {Z Z1 Z' : Nat → Prop} {w0 w w1 w' : World} {p mb : Nat} {hv tv ov tv1 ov1 tv' ov' : Value} {f f' : Int → Option Value} {tys tys' : List (Ty × List Value)} {b b' : List UInt8}
theorem RkM.ltO (h : RkM tt B Z w0 w p mb hv tv ov f tys b) : ∀ k, OwnK p mb tv ov k → B ≤ k ∧ k < w.heap.size := by
  rintro k (rfl | rfl | e | e)
  · exact ⟨h.p0.2.1, (Array.getElem?_eq_some_iff.1 h.top).1⟩
  · obtain ⟨es, clock, h1, _⟩ := h.map
    exact ⟨h.p0.2.2, (Array.getElem?_eq_some_iff.1 h1).1⟩
  · exact World.ownsRow.lt h.tow k e
  · exact World.ownsRow.lt h.own k e
theorem RkM.apart (h : RkM tt B Z w0 w p mb hv tv ov f tys b) {k : Nat} (hk : k < w0.heap.size ∨ Z k) : ¬ OwnK p mb tv ov k := fun e => by
  rcases hk with hk | hk
  · have := h.ltO k e
    have := h.p0.1
    omega
  · exact (h.z k hk).2.2 e
theorem RkM.frm {S : Nat → Prop} (h : RkM tt B Z w0 w p mb hv tv ov f tys b) (F : Frm S w w') (hs : ∀ k, OwnK p mb tv ov k ∨ Z k → ¬ S k) (h0 : ∀ k, S k → w0.heap.size ≤ k) : RkM tt B Z w0 w' p mb hv tv ov f tys b :=
  { h with
    top := F.heap (hs _ (.inl (.inl rfl))) h.top, k0 := Frm.keep h.k0 F h0
    own := F.own h.own fun k e => hs k (.inl (.inr (.inr (.inr e))))
    tow := F.own h.tow fun k e => hs k (.inl (.inr (.inr (.inl e))))
    map := h.map.frm F (hs _ (.inl (.inr (.inl rfl))))
    tya := fun y hy => (h.tya y hy).imp fun d hd => hd.frm F fun k hk hS => by
      rcases hk with hk | hk
      · have := h0 k hS; omega
      · exact hs k (.inr hk) hS
    z := fun k hk => ⟨(h.z k hk).1, Nat.lt_of_lt_of_le (h.z k hk).2.1 F.size, (h.z k hk).2.2⟩ }
theorem RkM.keep (h : RkM tt B Z w0 w p mb hv tv ov f tys b) (k : Keep w w') : RkM tt B Z w0 w' p mb hv tv ov f tys b :=
  h.frm (k.frm fun _ => False) (fun _ _ h => h) fun _ h => h.elim
/-- More blocks of types. -/
theorem RkM.moreZ (h : RkM tt B Z w0 w p mb hv tv ov f tys b) (h1 : ∀ k, Z k → Z' k) (h2 : ∀ k, Z' k → Z k ∨ (w0.heap.size ≤ k ∧ k < w.heap.size ∧ ¬ OwnK p mb tv ov k)) : RkM tt B Z' w0 w p mb hv tv ov f tys b :=
  { h with
    tya := fun y hy => (h.tya y hy).imp fun d hd => hd.mono fun k hk => hk.imp id (h1 k)
    z := fun k hk => by
      rcases h2 k hk with e | e
      · exact h.z k e
      · exact e }
theorem KWent.rf : KWent Z Z w w p mb tv ov tv ov := ⟨Frm.rf _ _, fun k h => .inl h, fun k h => .inl h, fun k h => h, fun k h => .inl h⟩
theorem KWent.of_keep (k : Keep w w') : KWent Z Z w w' p mb tv ov tv ov := ⟨k.frm _, fun k h => .inl h, fun k h => .inl h, fun k h => h, fun k h => .inl h⟩
theorem KWent.more (k : Keep w w') (h1 : ∀ k, Z k → Z' k) (h2 : ∀ k, Z' k → Z k ∨ w.heap.size ≤ k) : KWent Z Z' w w' p mb tv ov tv ov := ⟨k.frm _, fun k h => .inl h, fun k h => .inl h, h1, h2⟩
theorem KWent.tr (h : KWent Z Z1 w w1 p mb tv ov tv1 ov1) (h2 : KWent Z1 Z' w1 w' p mb tv1 ov1 tv' ov') : KWent Z Z' w w' p mb tv ov tv' ov' := by
  have hsz := h.frm.size
  refine ⟨h.frm.trn h2.frm ?_, fun k e => ?_, fun k e => ?_, fun k e => h2.zs k (h.zs k e), fun k e => ?_⟩
  · rintro k (e | e | e | e)
    · exact .inl (.inl e)
    · exact .inl (.inr (.inl e))
    · rcases h.rt k e with e | e
      · exact .inl (.inr (.inr (.inl e)))
      · exact .inr e
    · rcases h.ro k e with e | e
      · exact .inl (.inr (.inr (.inr e)))
      · exact .inr e
  · rcases h2.rt k e with e | e
    · exact h.rt k e
    · exact .inr (by omega)
  · rcases h2.ro k e with e | e
    · exact h.ro k e
    · exact .inr (by omega)
  · rcases h2.zn k e with e | e
    · exact h.zn k e
    · exact .inr (by omega)
theorem KWent.low (h : KWent Z Z' w w' p mb tv ov tv' ov') (hd : RkM tt B Z w0 w p mb hv tv ov f tys b) : Keep w0 w' :=
  Frm.keep hd.k0 h.frm fun i e => by
    have := (hd.ltO i e).1
    have := hd.p0.1
    omega
theorem KWent.heap (h : KWent Z Z' w w' p mb tv ov tv' ov') {k : Nat} {o : Obj} (hn : ¬ OwnK p mb tv ov k) (ho : w.heap[k]? = some o) : w'.heap[k]? = some o := h.frm.heap hn ho
theorem KWent.out (h : KWent Z Z' w w' p mb tv ov tv' ov') {k : Nat} (hk : k < w.heap.size) (hn : ¬ OwnK p mb tv ov k) : ¬ OwnK p mb tv' ov' k := by
  rintro (e | e | e | e)
  · exact hn (.inl e)
  · exact hn (.inr (.inl e))
  · rcases h.rt k e with e | e
    · exact hn (.inr (.inr (.inl e)))
    · omega
  · rcases h.ro k e with e | e
    · exact hn (.inr (.inr (.inr e)))
    · omega
/-- A type that lies where types lie stays as it is. -/
theorem KWent.ty (h : KWent Z Z' w w' p mb tv ov tv' ov') (hd : RkM tt B Z w0 w p mb hv tv ov f tys b) {d : Nat} {cs : List Value} {t : Ty} (ht : TyI (fun k => k < w0.heap.size ∨ Z k) d w cs t) : TyI (fun k => k < w0.heap.size ∨ Z' k) d w' cs t :=
  (ht.frm h.frm fun k hk e => hd.apart hk e).mono fun k hk => hk.imp id (h.zs k)
/-- A step: what it leaves. -/
theorem RkM.went (h : RkM tt B Z w0 w p mb hv tv ov f tys b) (F : Frm (OwnK p mb tv ov) w w') (ht : w'.heap[p]? = some (.cells #[hv, .map (some mb), tv', ov', .int .i64 0] tt)) (ho : Ob w' B 5 ov' b')
    (hw : w'.ownsRow B 25 3 tv' tys'.length (tys'.map (·.2)).flatten) (hm : MapF w' mb f') (rt : ∀ k, tv'.ownBlock = some k → tv.ownBlock = some k ∨ w.heap.size ≤ k) (ro : ∀ k, ov'.ownBlock = some k → ov.ownBlock = some k ∨ w.heap.size ≤ k)
    (hne : ∀ k, ov'.ownBlock = some k → tv'.ownBlock ≠ some k) (hty : ∀ y ∈ tys', y ∈ tys ∨ ∃ d, TyI (fun k => k < w0.heap.size ∨ Z k) d w y.2 y.1) :
    RkM tt B Z w0 w' p mb hv tv' ov' f' tys' b' ∧ KWent Z Z w w' p mb tv ov tv' ov' := by
  have hlt := h.ltO
  have hp := (hlt p (.inl rfl)).2
  have hmb := (hlt mb (.inr (.inl rfl))).2
  have hg : KWent Z Z w w' p mb tv ov tv' ov' := ⟨F, rt, ro, fun k h => h, fun k h => .inl h⟩
  refine ⟨{ top := ht, k0 := hg.low h, p0 := h.p0, own := ho, tow := hw, map := hm, tya := fun y hy => ?_, z := fun k hk => ⟨(h.z k hk).1, Nat.lt_of_lt_of_le (h.z k hk).2.1 F.size, hg.out (h.z k hk).2.1 (h.z k hk).2.2⟩, d1 := fun k e => ?_, d2 := h.d2, d3 := fun k e => ?_ }, hg⟩
  · rcases hty y hy with hy | hy
    · exact (h.tya y hy).imp fun d hd => hg.ty h hd
    · exact hy.imp fun d hd => hg.ty h hd
  · refine ⟨?_, ?_, hne k e⟩
    · rcases ro k e with e | e
      · exact (h.d1 k e).1
      · omega
    · rcases ro k e with e | e
      · exact (h.d1 k e).2.1
      · omega
  · rcases rt k e with e | e
    · exact h.d3 k e
    · exact ⟨by omega, by omega⟩
theorem RkM.topG {l : List UInt8} {W : World} {v : Value} (h : RkM tt B Z w0 w p mb hv tv ov f tys b) (hg : BGrow w B ov l W v) : W.heap[p]? = some (.cells #[hv, .map (some mb), tv, ov, .int .i64 0] tt) := by
  obtain ⟨Wb, k1, g1, _⟩ := hg
  exact (Frm.of_grown (S := fun k => ov.ownBlock = some k) g1 fun _ e => e).heap (fun e => (h.d1 p e).1 rfl) ((k1.frm fun _ => False).heap (fun h => h) h.top)
/-- Bytes were appended. -/
theorem RkM.grew {x : List UInt8} {W : World} {v : Value} (h : RkM tt B Z w0 w p mb hv tv ov f tys b) (hg : BGrow w B ov (b ++ x) W v) :
    RkM tt B Z w0 (W.setCell ⟨p, 3, none⟩ v) p mb hv tv v f tys (b ++ x) ∧ KWent Z Z w (W.setCell ⟨p, 3, none⟩ v) p mb tv ov tv v := by
  have htop := h.topG hg
  obtain ⟨Wb, k1, g1, g2, g3⟩ := hg
  have hz := k1.size
  have hlt := h.ltO
  have hp := (hlt p (.inl rfl)).2
  have hv3 : ∀ k, v.ownBlock = some k → ov.ownBlock = some k ∨ w.heap.size ≤ k := fun k e => by
    rcases g2 with m | m
    · exact .inl (by rw [← m, e])
    · rw [m] at e
      injection e with e
      exact .inr (by omega)
  have F1 : Frm (fun k => ov.ownBlock = some k) w W := (k1.frm _).tr (Frm.of_grown g1 fun _ e => e)
  have Fp : Frm (· = p) W (W.setCell ⟨p, 3, none⟩ v) := (Frm.rf (· = p) W).st (p := ⟨p, 3, none⟩) (.inl rfl) _
  refine h.went ((F1.mono fun k _ e => .inr (.inr (.inr e))).trn Fp fun i e => .inl (.inl e)) ?_ (Fp.own g3 fun k e => ?_) (Fp.own (F1.own h.tow fun k e e2 => (h.d1 k e2).2.2 e) fun k e => (h.d3 k e).1) ((h.map.frm F1 fun e => (h.d1 mb e).2.1 rfl).frm Fp h.d2) (fun k e => .inl e) hv3 (fun k e e2 => ?_) fun y hy => .inl hy
  · have := heap_set htop v (j := 3)
    simpa using this
  · rcases hv3 k e with e | e
    · exact (h.d1 k e).1
    · omega
  · rcases hv3 k e with e | e
    · exact (h.d1 k e).2.2 e2
    · have := (hlt k (.inr (.inr (.inl e2)))).2
      omega
/-- A word was put into the map. -/
theorem RkM.mapped (h : RkM tt B Z w0 w p mb hv tv ov f tys b) (F : Frm (· = mb) w w') (hm : MapF w' mb f') : RkM tt B Z w0 w' p mb hv tv ov f' tys b ∧ KWent Z Z w w' p mb tv ov tv ov :=
  h.went (F.mono fun k _ e => .inr (.inl e)) (F.heap (fun e => h.d2 e.symm) h.top) (F.own h.own fun k e => (h.d1 k e).2.1) (F.own h.tow fun k e => (h.d3 k e).2) hm (fun k e => .inl e) (fun k e => .inl e) (fun k e => (h.d1 k e).2.2) fun y hy => .inl hy
theorem RkM.flat3 (h : RkM tt B Z w0 w p mb hv tv ov f tys b) : (tys.map (·.2)).flatten.length = tys.length * 3 := by
  have key : ∀ l : List (Ty × List Value), (∀ y ∈ l, y.2.length = 3) → (l.map (·.2)).flatten.length = l.length * 3 := by
    intro l
    induction l with
    | nil => intro _; rfl
    | cons a t ih =>
      intro h
      rw [List.map_cons, List.flatten_cons, List.length_append, h a List.mem_cons_self, ih fun y hy => h y (List.mem_cons_of_mem _ hy), List.length_cons]
      omega
  exact key tys fun y hy => (h.tya y hy).elim fun d hd => hd.three
/-- A type is stored into the row that has grown: both orders. -/
theorem RkM.pushT {Wb w4 W : World} {g c4 m : Nat} {z0 z1 z2 a1 b1 c1 : Value} {t : Ty} (h : RkM tt B Z w0 w p mb hv tv ov f tys b) (k : Keep w Wb) (ha : App Wb B 25 3 tv (tys.length + 1) ((tys.map (·.2)).flatten ++ [z0, z1, z2]) (.slice (some ⟨g, 0, none⟩) m c4) w4) (hm : m = tys.length + 1)
    (hW : W = (((w4.setCell ⟨g, tys.length * 3, none⟩ a1).setCell ⟨g, tys.length * 3 + 1, none⟩ b1).setCell ⟨g, tys.length * 3 + 2, none⟩ c1).setCell ⟨p, 2, none⟩ (.slice (some ⟨g, 0, none⟩) m c4) ∨ W = ((((w4.setCell ⟨p, 2, none⟩ (.slice (some ⟨g, 0, none⟩) m c4)).setCell ⟨g, tys.length * 3, none⟩ a1).setCell ⟨g, tys.length * 3 + 1, none⟩ b1).setCell ⟨g, tys.length * 3 + 2, none⟩ c1))
    (hcs : ∃ d, TyI (fun k => k < w0.heap.size ∨ Z k) d w [a1, b1, c1] t) :
    RkM tt B Z w0 W p mb hv (.slice (some ⟨g, 0, none⟩) m c4) ov f (tys ++ [(t, [a1, b1, c1])]) b ∧ KWent Z Z w W p mb tv ov (.slice (some ⟨g, 0, none⟩) m c4) ov := by
  subst hm
  obtain ⟨h1, h2, h3⟩ := ha
  have hlt := h.ltO
  have hp := (hlt p (.inl rfl)).2
  have hmb := (hlt mb (.inr (.inl rfl))).2
  have F2 : Frm (fun k => tv.ownBlock = some k) w w4 := (k.frm _).tr (Frm.of_grown h2 fun _ e => e)
  have hs4 := F2.size
  have hg : tv.ownBlock = some g ∨ w.heap.size ≤ g := by
    rcases h3 with e | e
    · exact .inl (by rw [← e]; rfl)
    · have e : some g = some Wb.heap.size := e
      injection e with e
      have := k.size
      exact .inr (by omega)
  have hgp : g ≠ p ∧ g ≠ mb := by
    rcases hg with e | e
    · exact h.d3 g e
    · exact ⟨by omega, by omega⟩
  have hgo : ov.ownBlock ≠ some g := fun e2 => by
    rcases hg with e | e
    · exact (h.d1 g e2).2.2 e
    · have := (hlt g (.inr (.inr (.inr e2)))).2
      omega
  have htop : w4.heap[p]? = some (.cells #[hv, .map (some mb), tv, ov, .int .i64 0] tt) := F2.heap (fun e => (h.d3 p e).1 rfl) h.top
  have hfl := set_three ((tys.map (·.2)).flatten) z0 z1 z2 a1 b1 c1 h.flat3
  have FX : Frm (fun i => i = g ∨ i = p) w4 W ∧ W.heap[p]? = some (.cells #[hv, .map (some mb), .slice (some ⟨g, 0, none⟩) (tys.length + 1) c4, ov, .int .i64 0] tt) ∧ W.ownsRow B 25 3 (.slice (some ⟨g, 0, none⟩) (tys.length + 1) c4) (tys.length + 1) ((tys.map (·.2)).flatten ++ [a1, b1, c1]) := by
    rcases hW with rfl | rfl
    · have hs := RdM.stored3 h1 (tys.length * 3) a1 b1 c1
      rw [hfl] at hs
      refine ⟨(hs.2.mono fun k _ e => .inl e).st (p := ⟨p, 2, none⟩) (.inl (.inr rfl)) _, ?_, ?_⟩
      · have := heap_set (hs.2.heap (fun e => hgp.1 e.symm) htop) (.slice (some ⟨g, 0, none⟩) (tys.length + 1) c4) (j := 2)
        simpa using this
      · exact ((Frm.rf (· = p) _).st (p := ⟨p, 2, none⟩) (.inl rfl) _).own hs.1 fun k e e2 => hgp.1 (by have e2 : k = p := e2; have e : some g = some k := e; injection e with e; omega)
    · have hs := RdM.stored3 (((Frm.rf (· = p) w4).st (p := ⟨p, 2, none⟩) (.inl rfl) (.slice (some ⟨g, 0, none⟩) (tys.length + 1) c4)).own h1 fun k e e2 => hgp.1 (by have e2 : k = p := e2; have e : some g = some k := e; injection e with e; omega)) (tys.length * 3) a1 b1 c1
      rw [hfl] at hs
      refine ⟨(((Frm.rf (fun i => i = g ∨ i = p) w4).st (p := ⟨p, 2, none⟩) (.inl (.inr rfl)) _).trn (hs.2.mono fun k _ e => .inl e) fun i e => .inl e), ?_, hs.1⟩
      have := heap_set htop (.slice (some ⟨g, 0, none⟩) (tys.length + 1) c4) (j := 2)
      exact hs.2.heap (fun e => hgp.1 e.symm) (by simpa using this)
  obtain ⟨F3, ht3, ho3⟩ := FX
  have hno : ∀ k, ov.ownBlock = some k → ¬ (k = g ∨ k = p) := fun k e e2 => by
    rcases e2 with e2 | e2
    · exact hgo (e2 ▸ e)
    · exact (h.d1 k e).1 e2
  refine h.went ((F2.mono fun k _ e => .inr (.inr (.inl e))).trn F3 fun i e => ?_) ht3 (F3.own (F2.own h.own fun k e => (h.d1 k e).2.2) hno) (by simpa using ho3) ((h.map.frm F2 fun e => (h.d3 mb e).2 rfl).frm F3 fun e => e.elim (fun e => hgp.2 e.symm) h.d2) (fun k e => ?_) (fun k e => .inl e) (fun k e e2 => ?_) fun y hy => ?_
  · rcases e with e | e
    · subst e
      exact hg.imp (fun e => .inr (.inr (.inl e))) id
    · exact .inl (.inl e)
  · have e : some g = some k := e
    injection e with e
    exact e ▸ hg
  · have e2 : some g = some k := e2
    injection e2 with e2
    exact hgo (e2 ▸ e)
  · rcases List.mem_append.1 hy with hy | hy
    · exact .inl hy
    · obtain rfl := List.mem_singleton.1 hy
      exact .inr hcs
/-- A type that came. -/
theorem RkM.ty_at (h : RkM tt B Z w0 w p mb hv tv ov f tys b) {i : Nat} {t : Ty} (hi : (tys.map (·.1))[i]? = some t) : i < tys.length ∧ ∃ (g c' d' : Nat) (o : List UInt8) (n : Int) (A : Option Addr) (m c2 : Nat), tv = .slice (some ⟨g, 0, none⟩) tys.length c' ∧ TyK d' w [.string (str o), .int .i64 n, .slice A m c2] t ∧ w.cell? ⟨g, i * 3, none⟩ = some (.string (str o)) ∧ w.cell? ⟨g, i * 3 + 1, none⟩ = some (.int .i64 n) ∧ w.cell? ⟨g, i * 3 + 2, none⟩ = some (.slice A m c2) := by
  rw [List.getElem?_map] at hi
  cases hy : tys[i]? with
  | none => rw [hy] at hi; cases hi
  | some y =>
    rw [hy] at hi
    injection hi with hi
    have hil := (List.getElem?_eq_some_iff.1 hy).1
    refine ⟨by omega, ?_⟩
    obtain ⟨d', hd'⟩ := h.tya y (List.mem_of_getElem? hy)
    have hd2 := hd'.ty
    rw [show y.1 = t from hi] at hd2
    cases d' with
    | zero => exact hd2.elim
    | succ d' =>
      obtain ⟨v, hy2, hn, hs⟩ := id hd2
      obtain ⟨A, c, rfl, _⟩ := id hs
      obtain ⟨_, ⟨_, h00⟩ | ⟨g, c', cur, e, he⟩⟩ := id h.tow
      · omega
      · refine ⟨g, c', d' + 1, _, _, A, _, c, e, by rw [← hy2]; exact hd2, ?_, ?_, ?_⟩
        · exact cell_at (j := 0) h.tow (fun x hx => (h.tya x hx).elim fun _ h => h.three) hy (by rw [hy2]; rfl) e
        · exact cell_at (j := 1) h.tow (fun x hx => (h.tya x hx).elim fun _ h => h.three) hy (by rw [hy2]; rfl) e
        · exact cell_at (j := 2) h.tow (fun x hx => (h.tya x hx).elim fun _ h => h.three) hy (by rw [hy2]; rfl) e
/-- What the stores behind the append want: the row's cells are not frozen, and are there; the picker's third cell. -/
theorem RkM.push_facts {Wb w4 : World} {g c4 : Nat} {z0 z1 z2 : Value} (h : RkM tt B Z w0 w p mb hv tv ov f tys b) (k : Keep w Wb) (ha : App Wb B 25 3 tv (tys.length + 1) ((tys.map (·.2)).flatten ++ [z0, z1, z2]) (.slice (some ⟨g, 0, none⟩) (tys.length + 1) c4) w4) :
    (w4.cell? ⟨p, 2, none⟩ = some tv ∧ w4.frozen? ⟨p, 2, none⟩ = false) ∧ (w4.cell? ⟨g, tys.length * 3, none⟩ = some z0 ∧ w4.frozen? ⟨g, tys.length * 3, none⟩ = false) ∧ (w4.cell? ⟨g, tys.length * 3 + 1, none⟩ = some z1 ∧ w4.frozen? ⟨g, tys.length * 3 + 1, none⟩ = false) ∧ (w4.cell? ⟨g, tys.length * 3 + 2, none⟩ = some z2 ∧ w4.frozen? ⟨g, tys.length * 3 + 2, none⟩ = false) ∧ ¬ g = p ∧ ¬ p = g ∧ True := by
  obtain ⟨h1, h2, h3⟩ := ha
  have hg : tv.ownBlock = some g ∨ w.heap.size ≤ g := by
    rcases h3 with e | e
    · exact .inl (by rw [← e]; rfl)
    · have e : some g = some Wb.heap.size := e
      injection e with e
      have := k.size
      exact .inr (by omega)
  have hp := (h.ltO p (.inl rfl)).2
  have hgp : ¬ g = p := by
    rcases hg with e | e
    · exact (h.d3 g e).1
    · omega
  have htop : w4.heap[p]? = some (.cells #[hv, .map (some mb), tv, ov, .int .i64 0] tt) := (Frm.of_grown (S := fun k => tv.ownBlock = some k) h2 fun _ e => e).heap (fun e => (h.d3 p e).1 rfl) ((k.frm fun _ => False).heap (fun h => h) h.top)
  have hfl := h.flat3
  have hc : ∀ j u, [z0, z1, z2][j]? = some u → w4.cell? ⟨g, tys.length * 3 + j, none⟩ = some u := fun j u hu => by
    have := h1.cells (g := g) rfl (tys.length * 3 + j) u (by rw [List.getElem?_append_right (by omega), hfl, Nat.add_sub_cancel_left]; exact hu)
    rwa [add_pl] at this
  have e2 := top_cells htop 2
  simp only [List.getElem?_toArray, List.getElem?_cons_succ, List.getElem?_cons_zero] at e2
  exact ⟨⟨e2, top_free htop 2⟩, ⟨hc 0 _ rfl, World.ownsRow.frozenAt h1 _⟩, ⟨hc 1 _ rfl, World.ownsRow.frozenAt h1 _⟩, ⟨hc 2 _ rfl, World.ownsRow.frozenAt h1 _⟩, hgp, fun e => hgp e.symm, trivial⟩
end
/-- The picker, as it stands between two values. -/
def RkS (tt B : Nat) (Z : Nat → Prop) (w0 w : World) (p mb : Nat) (hv tv ov : Value) (tys : List (Ty × List Value)) (s : Em.Pk) : Prop :=
  RkM tt B Z w0 w p mb hv tv ov (posKV s.ws) tys s.b ∧ s.ty = tys.map (·.1) ∧ tys.length = s.ws.length ∧ s.ws.length ≤ 2000
/-- What a value comes to, if it comes to bytes. -/
def NodA (tt B : Nat) (Z : Nat → Prop) (w0 w : World) (p mb : Nat) (hv tv ov : Value) (s' : Em.Pk) (e : Ending) (w' : World) : Prop :=
  e = .returned (.tuple #[]) ∧ ∃ Z' tv' ov' tys', RkS tt B Z' w0 w' p mb hv tv' ov' tys' s' ∧ KWent Z Z' w w' p mb tv ov tv' ov'
end Go.Proofs.Ytoehaijmkmdggaa
