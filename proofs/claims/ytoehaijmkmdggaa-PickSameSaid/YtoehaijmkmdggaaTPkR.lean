/- A picker in memory: bytes, the blocks that came. -/
import Derived.Test.YtoehaijmkmdggaaTPkP
import Derived.Test.YtoehaijmkmdggaaTRdR
set_option linter.unusedSimpArgs false
set_option linter.unusedVariables false
namespace Go.Proofs.Ytoehaijmkmdggaa
open Go.RowKit Go.Maps
open Em (Ty)
set_option linter.unusedVariables false
set_option maxRecDepth 100000
/-- A map whose lookup is f, of so many keys. -/
def MapN (w : World) (b : Nat) (f : Int → Option Value) (n : Nat) : Prop :=
  ∃ es clock, w.heap[b]? = some (.map es clock) ∧ (∀ e ∈ es.toList, ∃ n, e.key = .int .i64 n ∧ (Lit.int .i64 n).wf = true ∧ f n = some e.val) ∧ (∀ n v, f n = some v → ∃ e ∈ es.toList, e.key = .int .i64 n) ∧ es.size = n
theorem MapN.f {w : World} {b n : Nat} {f : Int → Option Value} (h : MapN w b f n) : MapF w b f := by
  obtain ⟨es, clock, h1, h2, h3, _⟩ := h
  exact ⟨es, clock, h1, h2, h3⟩
theorem MapN.frm {S : Nat → Prop} {w w' : World} {b n : Nat} {f : Int → Option Value} (h : MapN w b f n) (k : Frm S w w') (hs : ¬ S b) : MapN w' b f n := by
  obtain ⟨es, clock, h1, h2⟩ := h
  exact ⟨es, clock, k.heap hs h1, h2⟩
theorem MapN.new (w : World) {b : Nat} (hb : w.heap.size = b) : MapN (w.alloc (.map #[] 0)) b (fun _ => none) 0 := by
  subst hb
  exact ⟨#[], 0, heap_alloc_new w _, by simp, by simp, rfl⟩
section
variable {P : Program}
/-- A new key is put. -/
theorem MapN.put {w : World} {b c : Nat} {f : Int → Option Value} {t k e : TypeId} (h : MapN w b f c) (ht : P.underlying t = some (.map k e)) (hu : P.underlying k = some (.int .i64)) (n : Int) (hn : (Lit.int .i64 n).wf = true) (hf : f n = none) (v : Value) :
    ∃ w', (Instr.mapUpdate t (.map (some b)) (.int .i64 n) v).run P w = .ok () w' ∧ MapN w' b (fun m => if m = n then some v else f m) (c + 1) ∧ Frm (· = b) w w' := by
  obtain ⟨es, clock, h1, h2, h3, h4⟩ := h
  have law : Keyed P k := int_keyed hu
  have hc := law.check w false (keyOf_int_mk hu hn)
  rcases MapF.find (w := w) hu h2 h3 n hn with ⟨g1, g2⟩ | ⟨j, u, g1, g2⟩
  · have hb : b < w.heap.size := (Array.getElem?_eq_some_iff.1 h1).1
    refine ⟨{ w with heap := w.heap.setIfInBounds b (.map (es.push { key := .int .i64 n, val := v, born := clock }) (clock + 1)) }, ?_, ?_, ?_⟩
    · simp [Instr.mapUpdate, run_underlying ht, MapKept.run_getObj_map h1, hc, g1, MapKept.run_setObj_map _ h1]
    · refine ⟨es.push { key := .int .i64 n, val := v, born := clock }, clock + 1, by simp [hb], ?_, ?_, by simp [h4]⟩
      · intro x hx
        simp only [Array.toList_push, List.mem_append, List.mem_singleton] at hx
        rcases hx with hx | rfl
        · obtain ⟨m, i1, i2, i3⟩ := h2 x hx
          refine ⟨m, i1, i2, ?_⟩
          have hne : m ≠ n := fun e => by
            rw [e, hf] at i3
            cases i3
          simpa [hne] using i3
        · exact ⟨n, rfl, hn, by simp⟩
      · intro m u hm
        by_cases e : m = n
        · subst e
          exact ⟨⟨.int .i64 m, v, clock⟩, by simp, rfl⟩
        · simp only [if_neg e] at hm
          obtain ⟨x, hx, hk⟩ := h3 m u hm
          exact ⟨x, by simp [hx], hk⟩
    · refine ⟨rfl, rfl, rfl, by simp, fun i hi hne => ?_⟩
      simp [Array.getElem?_setIfInBounds, Ne.symm hne]
  · rw [hf] at g2
    cases g2
end
/-- What the map of the blocks that came has for a word. -/
def seenV (ws : List Int) (tys : List (Ty × List Value)) (n : Int) : Option Value := (Em.posK ws n).bind fun i => (tys[i]?).map fun y => .agg (.int .i64 (i : Int) :: y.2).toArray
structure PkM (tt B : Nat) (Z : Nat → Prop) (w0 w : World) (p mb : Nat) (hv ov : Value) (tys : List (Ty × List Value)) (s : Em.Pk) : Prop where
  top : w.heap[p]? = some (.cells #[hv, ov, .map (some mb)] tt)
  k0 : Keep w0 w
  p0 : w0.heap.size ≤ B ∧ B ≤ p ∧ B ≤ mb
  own : Ob w B 5 ov s.b
  map : MapN w mb (seenV s.ws tys) s.ws.length
  ty : s.ty = tys.map (·.1)
  len : tys.length = s.ws.length
  tya : ∀ y ∈ tys, ∃ d, TyI (fun k => k < w0.heap.size ∨ Z k) d w y.2 y.1
  z : ∀ k, Z k → w0.heap.size ≤ k ∧ k < w.heap.size ∧ ¬ (k = p ∨ k = mb ∨ ov.ownBlock = some k)
  d1 : ∀ k, ov.ownBlock = some k → k ≠ p ∧ k ≠ mb
  d2 : mb ≠ p
  lim : s.ws.length ≤ 2000
/-- A picking went on. -/
structure PWent (Z Z' : Nat → Prop) (w w' : World) (p mb : Nat) (ov ov' : Value) : Prop where
  frm : Frm (fun k => k = p ∨ k = mb ∨ ov.ownBlock = some k) w w'
  ro : ∀ k, ov'.ownBlock = some k → ov.ownBlock = some k ∨ w.heap.size ≤ k
  zs : ∀ k, Z k → Z' k
  zn : ∀ k, Z' k → Z k ∨ w.heap.size ≤ k
section
variable {tt B : Nat} {Z Z1 Z' : Nat → Prop} {w0 w w1 w' : World} {p mb : Nat} {hv ov ov1 ov' : Value} {tys : List (Ty × List Value)} {s : Em.Pk}
/-- The blocks of memory that a picker has. -/
def OwnP (p mb : Nat) (ov : Value) (k : Nat) : Prop := k = p ∨ k = mb ∨ ov.ownBlock = some k
theorem PkM.ltO (h : PkM tt B Z w0 w p mb hv ov tys s) : ∀ k, OwnP p mb ov k → B ≤ k ∧ k < w.heap.size := by
  rintro k (rfl | rfl | e)
  · exact ⟨h.p0.2.1, (Array.getElem?_eq_some_iff.1 h.top).1⟩
  · obtain ⟨es, clock, h1, _⟩ := h.map
    exact ⟨h.p0.2.2, (Array.getElem?_eq_some_iff.1 h1).1⟩
  · exact World.ownsRow.lt h.own k e
theorem PkM.apart (h : PkM tt B Z w0 w p mb hv ov tys s) {k : Nat} (hk : k < w0.heap.size ∨ Z k) : ¬ OwnP p mb ov k := fun e => by
  rcases hk with hk | hk
  · have := h.ltO k e
    have := h.p0.1
    omega
  · exact (h.z k hk).2.2 e
theorem PkM.frm {S : Nat → Prop} (h : PkM tt B Z w0 w p mb hv ov tys s) (F : Frm S w w') (hs : ∀ k, OwnP p mb ov k ∨ Z k → ¬ S k) (h0 : ∀ k, S k → w0.heap.size ≤ k) : PkM tt B Z w0 w' p mb hv ov tys s :=
  { h with
    top := F.heap (hs _ (.inl (.inl rfl))) h.top, k0 := Frm.keep h.k0 F h0
    own := F.own h.own fun k e => hs k (.inl (.inr (.inr e)))
    map := h.map.frm F (hs _ (.inl (.inr (.inl rfl))))
    tya := fun y hy => (h.tya y hy).imp fun d hd => hd.frm F fun k hk hS => by
      rcases hk with hk | hk
      · have := h0 k hS; omega
      · exact hs k (.inr hk) hS
    z := fun k hk => ⟨(h.z k hk).1, Nat.lt_of_lt_of_le (h.z k hk).2.1 F.size, (h.z k hk).2.2⟩ }
theorem PkM.keep (h : PkM tt B Z w0 w p mb hv ov tys s) (k : Keep w w') : PkM tt B Z w0 w' p mb hv ov tys s :=
  h.frm (k.frm fun _ => False) (fun _ _ h => h) fun _ h => h.elim
/-- More blocks of types. -/
theorem PkM.moreZ (h : PkM tt B Z w0 w p mb hv ov tys s) (h1 : ∀ k, Z k → Z' k) (h2 : ∀ k, Z' k → Z k ∨ (w0.heap.size ≤ k ∧ k < w.heap.size ∧ ¬ OwnP p mb ov k)) : PkM tt B Z' w0 w p mb hv ov tys s :=
  { h with
    tya := fun y hy => (h.tya y hy).imp fun d hd => hd.mono fun k hk => hk.imp id (h1 k)
    z := fun k hk => by
      rcases h2 k hk with e | e
      · exact h.z k e
      · exact e }
theorem PWent.rf : PWent Z Z w w p mb ov ov := ⟨Frm.rf _ _, fun k h => .inl h, fun k h => h, fun k h => .inl h⟩
theorem PWent.of_keep (k : Keep w w') : PWent Z Z w w' p mb ov ov := ⟨k.frm _, fun k h => .inl h, fun k h => h, fun k h => .inl h⟩
theorem PWent.more (k : Keep w w') (h1 : ∀ k, Z k → Z' k) (h2 : ∀ k, Z' k → Z k ∨ w.heap.size ≤ k) : PWent Z Z' w w' p mb ov ov := ⟨k.frm _, fun k h => .inl h, h1, h2⟩
theorem PWent.tr (h : PWent Z Z1 w w1 p mb ov ov1) (h2 : PWent Z1 Z' w1 w' p mb ov1 ov') : PWent Z Z' w w' p mb ov ov' := by
  have hsz := h.frm.size
  refine ⟨h.frm.trn h2.frm ?_, fun k e => ?_, fun k e => h2.zs k (h.zs k e), fun k e => ?_⟩
  · rintro k (e | e | e)
    · exact .inl (.inl e)
    · exact .inl (.inr (.inl e))
    · rcases h.ro k e with e | e
      · exact .inl (.inr (.inr e))
      · exact .inr e
  · rcases h2.ro k e with e | e
    · exact h.ro k e
    · exact .inr (by omega)
  · rcases h2.zn k e with e | e
    · exact h.zn k e
    · exact .inr (by omega)
theorem PWent.low (h : PWent Z Z' w w' p mb ov ov') (hd : PkM tt B Z w0 w p mb hv ov tys s) : Keep w0 w' :=
  Frm.keep hd.k0 h.frm fun i e => by
    have := (hd.ltO i e).1
    have := hd.p0.1
    omega
theorem PWent.heap (h : PWent Z Z' w w' p mb ov ov') {k : Nat} {o : Obj} (hn : ¬ OwnP p mb ov k) (ho : w.heap[k]? = some o) : w'.heap[k]? = some o := h.frm.heap hn ho
theorem PWent.out (h : PWent Z Z' w w' p mb ov ov') {k : Nat} (hk : k < w.heap.size) (hn : ¬ OwnP p mb ov k) : ¬ OwnP p mb ov' k := by
  rintro (e | e | e)
  · exact hn (.inl e)
  · exact hn (.inr (.inl e))
  · rcases h.ro k e with e | e
    · exact hn (.inr (.inr e))
    · omega
/-- A type that lies where types lie stays as it is. -/
theorem PWent.ty (h : PWent Z Z' w w' p mb ov ov') (hd : PkM tt B Z w0 w p mb hv ov tys s) {d : Nat} {cs : List Value} {t : Ty} (ht : TyI (fun k => k < w0.heap.size ∨ Z k) d w cs t) : TyI (fun k => k < w0.heap.size ∨ Z' k) d w' cs t :=
  (ht.frm h.frm fun k hk e => hd.apart hk e).mono fun k hk => hk.imp id (h.zs k)
/-- Bytes were appended; the picker does not know yet. -/
def BGrow (w : World) (B : Nat) (ov : Value) (l : List UInt8) (W : World) (v : Value) : Prop := ∃ Wb, Keep w Wb ∧ Wb.grownBy W ov.ownBlock ∧ (v.ownBlock = ov.ownBlock ∨ v.ownBlock = some Wb.heap.size) ∧ Ob W B 5 v l
theorem BGrow.keep {l : List UInt8} {W W' : World} {v : Value} (h : BGrow w B ov l W v) (k : Keep W W') : BGrow w B ov l W' v := by
  obtain ⟨Wb, h1, h2, h3, h4⟩ := h
  exact ⟨Wb, h1, grown_keep h2 k, h3, h4.keep k⟩
theorem PkM.topG {l : List UInt8} {W : World} {v : Value} (h : PkM tt B Z w0 w p mb hv ov tys s) (hg : BGrow w B ov l W v) : W.heap[p]? = some (.cells #[hv, ov, .map (some mb)] tt) := by
  obtain ⟨Wb, k1, g1, _⟩ := hg
  exact (Frm.of_grown (S := fun k => ov.ownBlock = some k) g1 fun _ e => e).heap (fun e => (h.d1 p e).1 rfl) ((k1.frm fun _ => False).heap (fun h => h) h.top)
theorem PkM.grew {x : List UInt8} {W : World} {v : Value} (h : PkM tt B Z w0 w p mb hv ov tys s) (hg : BGrow w B ov (s.b ++ x) W v) :
    PkM tt B Z w0 (W.setCell ⟨p, 1, none⟩ v) p mb hv v tys ⟨s.b ++ x, s.ws, s.ty⟩ ∧ PWent Z Z w (W.setCell ⟨p, 1, none⟩ v) p mb ov v := by
  have htop := h.topG hg
  obtain ⟨Wb, k1, g1, g2, g3⟩ := hg
  have hz := k1.size
  have hv3 : ∀ k, v.ownBlock = some k → ov.ownBlock = some k ∨ w.heap.size ≤ k := fun k e => by
    rcases g2 with m | m
    · exact .inl (by rw [← m, e])
    · rw [m] at e
      injection e with e
      exact .inr (by omega)
  have hlt := h.ltO
  have hp := (hlt p (.inl rfl)).2
  have hm := (hlt mb (.inr (.inl rfl))).2
  have hd1 : ∀ k, v.ownBlock = some k → k ≠ p ∧ k ≠ mb := fun k e => by
    rcases hv3 k e with e | e
    · exact h.d1 k e
    · omega
  have F1 : Frm (fun k => ov.ownBlock = some k) w W := (k1.frm _).tr (Frm.of_grown g1 fun _ e => e)
  have Fp : Frm (· = p) W (W.setCell ⟨p, 1, none⟩ v) := (Frm.rf (· = p) W).st (p := ⟨p, 1, none⟩) (.inl rfl) _
  have hw : PWent Z Z w (W.setCell ⟨p, 1, none⟩ v) p mb ov v := ⟨(F1.mono fun k _ e => .inr (.inr e)).trn Fp fun i e => .inl (.inl e), hv3, fun k e => e, fun k e => .inl e⟩
  refine ⟨{ h with top := ?_, k0 := hw.low h, own := Fp.own g3 fun k e => (hd1 k e).1, map := (h.map.frm F1 fun e => (h.d1 mb e).2 rfl).frm Fp h.d2, tya := fun y hy => (h.tya y hy).imp fun d hd => hw.ty h hd, z := ?_, d1 := hd1 }, hw⟩
  · have := heap_set htop v (j := 1)
    simpa using this
  · intro k hk
    obtain ⟨a, b, c⟩ := h.z k hk
    refine ⟨a, Nat.lt_of_lt_of_le b hw.frm.size, ?_⟩
    rintro (e | e | e)
    · exact c (.inl e)
    · exact c (.inr (.inl e))
    · rcases hv3 k e with e | e
      · exact c (.inr (.inr e))
      · omega
theorem seenV_snoc {ws : List Int} {tys : List (Ty × List Value)} (hl : tys.length = ws.length) {n : Int} (hn : Em.posK ws n = none) (t : Ty) (cs : List Value) : seenV (ws ++ [n]) (tys ++ [(t, cs)]) = fun m => if m = n then some (.agg (.int .i64 (ws.length : Int) :: cs).toArray) else seenV ws tys m := by
  funext m
  unfold seenV
  rw [Em.posK_snoc hn m]
  by_cases e : m = n
  · rw [if_pos e, if_pos e]
    simp [← hl]
  · rw [if_neg e, if_neg e]
    cases hp : Em.posK ws m with
    | none => rfl
    | some i =>
      have := (Em.posK_lt hp).1
      simp only [Option.bind_some]
      rw [List.getElem?_append_left (by omega)]
/-- A block came. -/
theorem PkM.came {W : World} {n : Int} {t : Ty} {cs : List Value} (h : PkM tt B Z w0 w p mb hv ov tys s) (hn : Em.posK s.ws n = none) (hl : s.ws.length < 2000) (hcs : ∃ d, TyI (fun k => k < w0.heap.size ∨ Z k) d w cs t) (F : Frm (· = mb) w W) (hm : MapN W mb (fun m => if m = n then some (.agg (.int .i64 (s.ws.length : Int) :: cs).toArray) else seenV s.ws tys m) (s.ws.length + 1)) :
    PkM tt B Z w0 W p mb hv ov (tys ++ [(t, cs)]) ⟨s.b, s.ws ++ [n], s.ty ++ [t]⟩ ∧ PWent Z Z w W p mb ov ov := by
  have hw : PWent Z Z w W p mb ov ov := ⟨F.mono fun k _ e => .inr (.inl e), fun k e => .inl e, fun k e => e, fun k e => .inl e⟩
  refine ⟨{ h with top := F.heap (fun e => h.d2 e.symm) h.top, k0 := hw.low h, own := F.own h.own fun k e => (h.d1 k e).2, map := ?_, ty := by simp [h.ty], len := by simp [h.len], tya := ?_, z := fun k hk => ⟨(h.z k hk).1, Nat.lt_of_lt_of_le (h.z k hk).2.1 F.size, (h.z k hk).2.2⟩, lim := by simp; omega }, hw⟩
  · rw [seenV_snoc h.len hn]
    simpa using hm
  · intro y hy
    rcases List.mem_append.1 hy with hy | hy
    · exact (h.tya y hy).imp fun d hd => hw.ty h hd
    · obtain rfl := List.mem_singleton.1 hy
      exact hcs.imp fun d hd => hw.ty h hd
/-- What the map has of a block that came. -/
theorem PkM.at_ (h : PkM tt B Z w0 w p mb hv ov tys s) {n : Int} {i : Nat} (hi : Em.posK s.ws n = some i) : ∃ (t : Ty) (d : Nat) (o : List UInt8) (m : Int) (A : Option Addr) (k c : Nat), i < s.ws.length ∧ s.ty[i]? = some t ∧ seenV s.ws tys n = some (.agg #[.int .i64 (i : Int), .string (str o), .int .i64 m, .slice A k c]) ∧ TyI (fun k => k < w0.heap.size ∨ Z k) d w [.string (str o), .int .i64 m, .slice A k c] t := by
  have hl := (Em.posK_lt hi).1
  have hl2 : i < tys.length := by rw [h.len]; exact hl
  obtain ⟨d, hd⟩ := h.tya _ (List.getElem_mem hl2)
  cases d with
  | zero => exact hd.elim
  | succ d =>
    obtain ⟨v, h1, h2, h3, h4⟩ := id hd
    obtain ⟨A, c, rfl, _⟩ := id h3
    refine ⟨tys[i].1, d + 1, _, _, A, _, c, hl, by rw [h.ty, List.getElem?_map, List.getElem?_eq_getElem hl2]; rfl, ?_, by rw [← h1]; exact hd⟩
    unfold seenV
    rw [hi]
    simp only [Option.bind_some]
    rw [List.getElem?_eq_getElem hl2]
    simp only [Option.map_some]
    rw [h1]
end
end Go.Proofs.Ytoehaijmkmdggaa
