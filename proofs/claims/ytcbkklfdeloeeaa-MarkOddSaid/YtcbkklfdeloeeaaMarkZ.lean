/- Walk: the type that comes next, of the reference (mark): its kids. -/
import Derived.Test.YtcbkklfdeloeeaaMarkY
namespace Go.Proofs.Ytcbkklfdeloeeaa
open Go.RowKit
open Em (Ty)
set_option linter.unusedVariables false
set_option maxRecDepth 100000
theorem refOps12b (w : World) : Calls Try.prog 117 #[] w fun e w' => ∃ g, e = .returned (.slice (some ⟨g, 0, none⟩) 11 11) ∧ w.heap.size ≤ g ∧ g < w'.heap.size ∧ (∀ (j : Nat), j < 11 → w'.cell? ⟨g, j, none⟩ = some (.string (str (Em.opAt j)))) ∧ Keep w w' := by
  go_enter Try.func117, Try.ntmps117
  go_wp2
  go_ret
  refine ⟨_, rfl, Nat.le_refl _, by simp, fun j hj => lit_cells rfl j ?_, (by repeat (first | exact Keep.rf _ | assumption | apply Keep.al | apply Keep.dr | apply Keep.dn))⟩
  rcases j with _ | _ | _ | _ | _ | _ | _ | _ | _ | _ | _ | j
  all_goals first | rfl | omega
/-- What the region's operations may change. -/
def TP12 (p : Nat) (v : Value) (k : Nat) : Prop := k = p ∨ v.ownBlock = some k
/-- A kid was read. -/
def RdAt (w0 w : World) (p f : Nat) (s : Option (Nat × List UInt8)) (u : Value) (W : World) : Prop :=
  ∃ o n A m c, u = .agg #[.string o, .int .i64 n, .slice A m c] ∧ Frm (· = p) w W ∧ St12 w0 W p ((rdS f s).map fun x => x.2) ∧
    ∀ t L' r, rdS f s = some (t, L', r) → TyF (fun k => w.heap.size ≤ k ∧ k < W.heap.size) f W [.string o, .int .i64 n, .slice A m c] t
theorem RdAt.keep {w0 w W W' : World} {p f : Nat} {s : Option (Nat × List UInt8)} {u : Value} (h : RdAt w0 w p f s u W) (k : Keep W W') : RdAt w0 w p f s u W' := by
  obtain ⟨o, n, A, m, c, h1, h2, h3, h4⟩ := h
  exact ⟨o, n, A, m, c, h1, h2.tr (k.frm _), h3.frm (k.frm fun _ => False) (fun h => h), fun t L' r e => ((h4 t L' r e).frm (k.frm fun _ => False) fun _ _ h => h).mono fun q hq => ⟨hq.1, Nat.lt_of_lt_of_le hq.2 k.size⟩⟩
/-- Where the loop over the kids stands. -/
structure Kid12 (w0 w W5 W : World) (p b5 f K L : Nat) (s o : List UInt8) (j : Nat) (st : Option (Nat × List UInt8)) (vb v : Value) (css : List (List Value)) : Prop where
  own : W.ownsRow W5.heap.size 26 3 v css.length css.flatten
  blk : W.heap[b5]? = some (.cells #[.string (str o), .int .i64 0, vb] 26)
  zero : W.heap[w.heap.size]? = some (.cells #[.string ⟨#[]⟩, .int .i64 0, .slice none 0 0] 26)
  frm : Frm (· = p) w W
  size : W5.heap.size ≤ W.heap.size
  stt : St12 w0 W p st
  no : st = none → Em.rdL (Em.rd f) K L s = none
  yes : ∀ Lj r, st = some (Lj, r) → Lj ≤ L ∧ ∃ ts, Row3 W5 W v css f ts ∧ ts.length = j ∧
    Em.rdL (Em.rd f) K L s = (match Em.rdL (Em.rd f) (K - j) Lj r with | none => none | some (us, L', r') => some (ts ++ us, L', r'))
theorem Kid12.keep {w0 w W5 W W' : World} {p b5 f K L : Nat} {s o : List UInt8} {j : Nat} {st : Option (Nat × List UInt8)} {vb v : Value} {css : List (List Value)} (h : Kid12 w0 w W5 W p b5 f K L s o j st vb v css) (k : Keep W W') : Kid12 w0 w W5 W' p b5 f K L s o j st vb v css where
  own := own_keep h.own k
  blk := (k.frm fun _ => False).heap (fun h => h) h.blk
  zero := (k.frm fun _ => False).heap (fun h => h) h.zero
  frm := h.frm.tr (k.frm _)
  size := Nat.le_trans h.size k.size
  stt := h.stt.frm (k.frm fun _ => False) (fun h => h)
  no := h.no
  yes := fun Lj r e => by
    obtain ⟨h1, ts, h2, h3⟩ := h.yes Lj r e
    exact ⟨h1, ts, h2.keep k, h3⟩
/-- One kid more, not put back yet. -/
def Psh12 (w0 w W5 : World) (p b5 f K L : Nat) (s o : List UInt8) (j : Nat) (st : Option (Nat × List UInt8)) (vb : Value) (css : List (List Value)) (W : World) (v : Value) : Prop :=
  ∃ cs A n c, v = .slice A n c ∧ Kid12 w0 w W5 W p b5 f K L s o j st vb (.slice A n c) (css ++ [cs])
theorem Psh12.keep {w0 w W5 W W' : World} {p b5 f K L : Nat} {s o : List UInt8} {j : Nat} {st : Option (Nat × List UInt8)} {vb v : Value} {css : List (List Value)} (h : Psh12 w0 w W5 p b5 f K L s o j st vb css W v) (k : Keep W W') : Psh12 w0 w W5 p b5 f K L s o j st vb css W' v := by
  obtain ⟨cs, A, n, c, e, h⟩ := h
  exact ⟨cs, A, n, c, e, h.keep k⟩
theorem Kid12.push {w0 w W5 wr W w' : World} {p b5 f K L : Nat} {s o : List UInt8} {st : Option (Nat × List UInt8)} {v v' A9 : Value} {css : List (List Value)} {o9 : ByteArray} {n9 : Int}
    (hI : Kid12 w0 w W5 wr p b5 f K L s o css.length st v v css) (hp : p < w.heap.size) (hb5 : w.heap.size < b5) (h5 : b5 < W5.heap.size) (hjK : css.length < K)
    (F : Frm (· = p) wr W) (hS : St12 w0 W p ((rdS f st).map fun x => x.2))
    (hY : ∀ t L' r, rdS f st = some (t, L', r) → TyF (fun k => wr.heap.size ≤ k ∧ k < W.heap.size) f W [.string o9, .int .i64 n9, A9] t)
    (ha : App W W5.heap.size 26 3 v (css.length + 1) (css.flatten ++ [.string o9, .int .i64 n9, A9]) v' w') :
    Psh12 w0 w W5 p b5 f K L s o (css.length + 1) ((rdS f st).map fun x => x.2) v css w' v' := by
  obtain ⟨vA, vc, rfl⟩ := own_slice ha.1
  have hsz : W5.heap.size ≤ wr.heap.size := hI.size
  have hown : ∀ k, v.ownBlock = some k → W5.heap.size ≤ k ∧ k < wr.heap.size := World.ownsRow.lt hI.own
  have Fa : Frm (fun k => v.ownBlock = some k) W w' := Frm.of_grown ha.2.1 fun _ e => e
  have hs2 : W.heap.size ≤ w'.heap.size := Fa.size
  have hs1 : wr.heap.size ≤ W.heap.size := F.size
  refine ⟨_, _, _, _, rfl, by simpa using ha.1, Fa.heap (fun e => by have := hown _ e; omega) (F.heap (fun e => by have e : b5 = p := e; omega) hI.blk), Fa.heap (fun e => by have := hown _ e; omega) (F.heap (fun e => by have e : w.heap.size = p := e; omega) hI.zero),
    (hI.frm.tr F).trn Fa fun i e => .inr (by have := hown _ e; have := hI.frm.size; omega), by omega, hS.frm Fa (fun e => by have := hown _ e; omega), fun h => ?_, fun Lj r h => ?_⟩
  · cases hst : st with
    | none => exact hI.no hst
    | some x =>
      obtain ⟨Lj, r9⟩ := x
      obtain ⟨hLj, ts, hrow, htl, hrest⟩ := hI.yes Lj r9 hst
      rw [hrest, show K - css.length = (K - (css.length + 1)) + 1 by omega, Em.rdL]
      rw [hst] at h
      cases hx : Em.rd f Lj r9 with
      | none => rfl
      | some y => simp [rdS, hx] at h
  · cases hst : st with
    | none => rw [hst] at h; cases h
    | some x =>
      obtain ⟨L0, r9⟩ := x
      obtain ⟨hLj, ts, hrow, htl, hrest⟩ := hI.yes L0 r9 hst
      cases hx : Em.rd f L0 r9 with
      | none => rw [hst] at h; simp [rdS, hx] at h
      | some y =>
        obtain ⟨t, L', r'⟩ := y
        have hy : rdS f st = some (t, L', r') := by rw [hst]; exact hx
        rw [hy] at h
        injection h with h
        injection h with e1 e2
        subst e1 e2
        have hle := rd_le f _ _ _ _ _ hx
        have hr6 : Row3 W5 W v css f ts := hrow.frm F fun i e => by have e : i = p := e; omega
        have hps := hr6.push (cs := [.string o9, .int .i64 n9, A9]) (t := t) rfl (hY t _ _ hy) (fun k hk => ⟨by omega, hk.2, fun e => by have := hown _ e; omega⟩) ha
        refine ⟨by omega, ts ++ [t], hps, by simp [htl], ?_⟩
        rw [hrest, show K - css.length = (K - (css.length + 1)) + 1 by omega, Em.rdL, hx]
        simp only
        cases Em.rdL (Em.rd f) (K - (css.length + 1)) L' r' with
        | none => rfl
        | some q =>
          obtain ⟨us, L2, r2⟩ := q
          simp
theorem Kid12.put {w0 w W5 W : World} {p b5 f K L : Nat} {s o : List UInt8} {j : Nat} {st : Option (Nat × List UInt8)} {vb v : Value} {css : List (List Value)} (h : Kid12 w0 w W5 W p b5 f K L s o j st vb v css) (hp : p < w.heap.size) (hb5 : w.heap.size < b5) (h5 : b5 < W5.heap.size) :
    Kid12 w0 w W5 (W.setCell ⟨b5, 2, none⟩ v) p b5 f K L s o j st v v css := by
  have FS : Frm (· = b5) W (W.setCell ⟨b5, 2, none⟩ v) := Frm.st (S := (· = b5)) (p := ⟨b5, 2, none⟩) (Frm.rf _ W) (.inl rfl) _
  have hlt := World.ownsRow.lt h.own
  refine ⟨FS.own h.own fun q hq e => by have e : q = b5 := e; have := hlt q hq; omega, heap_setT (j := 2) h.blk v, FS.heap (fun e => by have e : w.heap.size = b5 := e; omega) h.zero, h.frm.trn FS fun i e => .inr (by have e : i = b5 := e; omega), by rw [size_set]; exact h.size,
    h.stt.frm FS (fun e => by have e : p = b5 := e; omega), h.no, fun Lj r e => ?_⟩
  obtain ⟨h1, ts, h2, h3⟩ := h.yes Lj r e
  exact ⟨h1, ts, h2.frm FS fun i e => by have e : i = b5 := e; omega, h3⟩
theorem Kid12.done {w0 w W5 wr : World} {p b5 f K L j : Nat} {s o l : List UInt8} {v : Value} {st : Option (Nat × List UInt8)} {css : List (List Value)}
    (hI : Kid12 w0 w W5 wr p b5 f K L s o j st v v css) (hj : j = K) (hp : p < w.heap.size) (h5 : w.heap.size < W5.heap.size)
    (hr : Em.rd (f + 1) (L + 1) l = match Em.rdL (Em.rd f) K L s with
        | none => none
        | some (ts, L', r2) => some (.mk o 0 ts, L', r2)) :
    Rd12 w0 w p (f + 1) (some (L + 1, l)) (.returned (.agg #[.string (str o), .int .i64 0, v])) (((wr.setCell ⟨w.heap.size, 0, none⟩ (.string (str o))).setCell ⟨w.heap.size, 1, none⟩ (.int .i64 0)).setCell ⟨w.heap.size, 2, none⟩ v) := by
  obtain ⟨A, c, e⟩ := own_slice hI.own
  have F8 := frm_set3 wr w.heap.size (.string (str o)) (.int .i64 0) v
  have hF := hI.frm.trn F8 fun i e => .inr (by have e : i = w.heap.size := e; omega)
  have hS := hI.stt.frm F8 (fun e => by have e : p = w.heap.size := e; omega)
  have hx : rdS (f + 1) (some (L + 1, l)) = Em.rd (f + 1) (L + 1) l := rfl
  cases hst : st with
  | none =>
    have hn : Em.rd (f + 1) (L + 1) l = none := by rw [hr, hI.no hst]
    subst e
    refine ⟨_, _, _, _, _, rfl, hF, ?_, fun t L' r e => by rw [hx, hn] at e; cases e⟩
    rw [hx, hn]
    rw [hst] at hS
    exact hS
  | some y =>
    obtain ⟨Lj, r⟩ := y
    obtain ⟨hLj, ts, hrow, htl, hrest⟩ := hI.yes Lj r hst
    rw [hj, Nat.sub_self, Em.rdL] at hrest
    simp only [List.append_nil] at hrest
    rw [hrest] at hr
    simp only at hr
    have hr2 := hrow.frm F8 fun i e => by have e : i = w.heap.size := e; omega
    have hs2 := hI.frm.size
    have hlt : ∀ k, v.ownBlock = some k → W5.heap.size ≤ k ∧ k < wr.heap.size := World.ownsRow.lt hI.own
    have hsz : (((wr.setCell ⟨w.heap.size, 0, none⟩ (.string (str o))).setCell ⟨w.heap.size, 1, none⟩ (.int .i64 0)).setCell ⟨w.heap.size, 2, none⟩ v).heap.size = wr.heap.size := by simp only [size_set]
    subst e
    refine ⟨_, _, _, _, _, rfl, hF, ?_, fun t L' r' e => ?_⟩
    · rw [hx, hr]
      rw [hst] at hS
      exact hS
    · rw [hx, hr] at e
      injection e with e
      injection e with e1 e
      injection e with e2 e3
      subst e1 e2 e3
      refine ⟨_, rfl, (show (Lit.int .i64 0).wf = true from by decide), fun k hk => ?_, hr2.sl.mono fun _ _ h => h.mono fun k hk => ⟨by omega, hk.2⟩⟩
      have := hlt k hk
      rw [hsz]
      exact ⟨by omega, this.2⟩
end Go.Proofs.Ytcbkklfdeloeeaa
