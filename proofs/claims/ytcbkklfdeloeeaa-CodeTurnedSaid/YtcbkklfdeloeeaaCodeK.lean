/- Walk: the reader of package code: an instruction. -/
import Derived.Test.YtcbkklfdeloeeaaCodeJ
import Derived.Test.YtcbkklfdeloeeaaLibK
namespace Go.Proofs.Ytcbkklfdeloeeaa
open Go.RowKit
open Em (Prg)
set_option linter.unusedVariables false
set_option maxRecDepth 100000
theorem heap_set2 {w : World} {b : Nat} {x y : Value} {ty : TypeId} (h : w.heap[b]? = some (.cells #[x, y] ty)) (u v : Value) : ((w.setCell ⟨b, 0, none⟩ u).setCell ⟨b, 1, none⟩ v).heap[b]? = some (.cells #[u, v] ty) := heap_setT (j := 1) (heap_setT (j := 0) h u) v
theorem frm_set2 (w : World) (b : Nat) (u v : Value) : Frm (· = b) w ((w.setCell ⟨b, 0, none⟩ u).setCell ⟨b, 1, none⟩ v) :=
  Frm.st (S := (· = b)) (p := ⟨b, 1, none⟩) (Frm.st (S := (· = b)) (p := ⟨b, 0, none⟩) (Frm.rf _ w) (.inl rfl) _) (.inl rfl) _
def insS (st : Option (List UInt8)) : Option ((Int × Int) × List UInt8) := st.bind Em.rdI
/-- What instr gives. -/
def InsR (tt : Nat) (w0 w : World) (p : Nat) (st : Option (List UInt8)) (e : Ending) (w' : World) : Prop :=
  ∃ o n, e = .returned (.agg #[.int .i64 o, .int .i64 n]) ∧ (Lit.int .i64 o).wf = true ∧ (Lit.int .i64 n).wf = true ∧ (∀ x r, insS st = some (x, r) → (o, n) = x) ∧ StC tt w0 w' p ((insS st).map fun x => x.2) ∧ Frm (· = p) w w'
theorem wf_byte (c : UInt8) : (Lit.int .i64 (c.toNat : Int)).wf = true := by
  have := c.toNat_lt
  simp [Lit.wf, IntKind.min, IntKind.max, IntKind.bits, IntKind.signed]
  omega
theorem wf_of {n : Int} (h : In64 n) : (Lit.int .i64 n).wf = true := by
  have := h.1
  have := h.2
  simp [Lit.wf, IntKind.min, IntKind.max, IntKind.bits, IntKind.signed]
  omega
theorem StC.keep {tt : Nat} {w0 W W' : World} {p : Nat} {s : Option (List UInt8)} (h : StC tt w0 W p s) (k : Keep W W') : StC tt w0 W' p s := h.frm (k.frm fun _ => False) fun h => h
theorem StC.cell1 {tt : Nat} {w0 W : World} {p : Nat} {s : Option (List UInt8)} (h : StC tt w0 W p s) : W.cell? ⟨p, 1, none⟩ = some (.bool s.isSome) := by
  cases s with
  | none =>
    obtain ⟨A, c, l, h1, h2⟩ := h
    exact (top_cells h2 1).trans rfl
  | some l =>
    obtain ⟨A, c, h1, h2⟩ := h
    exact (top_cells h2 1).trans rfl
theorem StC.lt {tt : Nat} {w0 W : World} {p : Nat} {s : Option (List UInt8)} (h : StC tt w0 W p s) : p < W.heap.size := by
  cases s with
  | none =>
    obtain ⟨A, c, l, h1, h2⟩ := h
    exact (Array.getElem?_eq_some_iff.1 h2).1
  | some l =>
    obtain ⟨A, c, h1, h2⟩ := h
    exact (Array.getElem?_eq_some_iff.1 h2).1
set_option maxHeartbeats 4000000 in
theorem codeInstr (w0 w : World) (p : Nat) (st : Option (List UInt8)) (hk : Keep w0 w) (hp0 : w0.heap.size ≤ p) (h : StC 87 w0 w p st) : Calls Try.prog 65 #[.pointer (some ⟨p, 0, none⟩)] w (InsR 87 w0 w p st) := by
  have hp := h.lt
  have hz := heap_alloc_new w (.cells #[.int .i64 0, .int .i64 0] 91)
  have k1 : Keep w (w.alloc (.cells #[.int .i64 0, .int .i64 0] 91)) := (by repeat (first | exact Keep.rf _ | assumption | apply Keep.al | apply Keep.dr | apply Keep.dn))
  have HT := hide (codeTake w0 _ p 1 st (by omega) (Keep.tr hk k1) (h.keep k1))
  clear h
  go_enter Try.func65, Try.ntmps65
  go_wp2_with fail
  generalize World.alloc w _ = W1 at *
  refine HT.out.mono ?_
  rintro e w2 ⟨⟨A, m, c, x, rfl, hbx, hxl, hxt⟩, hst, hF⟩
  have F2 := (k1.frm (· = p)).tr hF
  have hz2 := hF.heap (fun e => by have e : w.heap.size = p := e; omega) hz
  have hc1 := hst.cell1
  have y0 := top_cells hz2 0
  have y1 := top_cells hz2 1
  have z0 := top_free hz2 0
  have z1 := top_free hz2 1
  simp only [List.getElem?_toArray, List.getElem?_cons_succ, List.getElem?_cons_zero] at y0 y1
  have k02 : Keep w0 w2 := Frm.keep hk F2 fun i e => by have e : i = p := e; omega
  have hlt2 := (Array.getElem?_eq_some_iff.1 hz2).1
  have HZ2 := hide hz2
  have HF2 := hide F2
  have HST := hide hst
  clear HT hz hz2 F2 hF hst k1
  cases htk : takS 1 st with
  | none =>
    have hno : insS st = none := by
      cases st with
      | none => rfl
      | some l =>
        cases l with
        | nil => rfl
        | cons c l => simp [takS] at htk
    have HNO := hide hno
    rw [htk] at hc1 HST
    clear hno htk hbx hxt
    go_wp2_with fail
    refine bodyPost_ret_by (results_cell_row rfl _ _ w.heap.size 91 _ (0, 0) _ rfl (heap_set2 HZ2.out _ _) Try.underlying91 rfl ?_) rfl ?_
    · kernel_rfl
    · refine ⟨_, _, rfl, by decide, by decide, (fun x r e => by rw [HNO.out] at e; cases e), ?_, HF2.out.trn (frm_set2 _ _ _ _) fun i e => .inr (by have e : i = w.heap.size := e; omega)⟩
      rw [HNO.out]
      exact HST.out.frm (frm_set2 _ _ _ _) fun e => by have e : p = w.heap.size := e; omega
  | some y =>
    obtain ⟨t, r⟩ := y
    obtain ⟨b, s, hst0, rfl, rfl⟩ : ∃ b s, st = some (b :: s) ∧ t = [b] ∧ r = s := by
      cases st with
      | none => cases htk
      | some l =>
        cases l with
        | nil => simp [takS] at htk
        | cons b l =>
          simp [takS] at htk
          exact ⟨b, l, rfl, htk.1.symm, htk.2.symm⟩
    have hxe := hxt _ _ htk
    subst hxe
    subst hst0
    rw [htk] at hc1 HST
    simp only [Option.map_some] at hc1 HST
    obtain ⟨-, ad, rfl, hx0⟩ := bs_first (s := []) hbx
    have hxa := Keep.cell k02 hx0
    obtain ⟨A', c', e, q1, q2, _⟩ := hbx
    injection e with e1 e2 e3
    subst e3
    subst e2
    have x256 := b.toNat_lt
    have hwb := wf_byte b
    have hrd : insS (some (b :: r)) = if Em.hasN (b.toNat : Int) then (match Em.getN r with | none => none | some (v, n) => some (((b.toNat : Int), Em.zag v), r.drop n)) else some (((b.toNat : Int), 0), r) := rfl
    have HRD := hide hrd
    clear htk hxt hrd e1 hx0
    generalize hxn : b.toNat = xn at *
    have HH := hide fun W => codeHasN (xn : Int) W
    have hb3 := heap_alloc_new w2 (.cells #[.int .i64 (xn : Int), .int .i64 0] 91)
    have k23 : Keep w2 (w2.alloc (.cells #[.int .i64 (xn : Int), .int .i64 0] 91)) := (by repeat (first | exact Keep.rf _ | assumption | apply Keep.al | apply Keep.dr | apply Keep.dn))
    have hz3 := (k23.frm fun _ => False).heap (fun h => h) HZ2.out
    have hst3 := HST.out.keep k23
    have F3 := HF2.out.tr (k23.frm _)
    have k03 := Keep.tr k02 k23
    simp only [List.length_singleton] at q1 ⊢
    go_wp2_with fail
    generalize hW3 : World.alloc w2 _ = W3 at *
    refine (HH.out _).mono ?_
    rintro e w' ⟨rfl, rfl⟩
    clear hW3 y0 y1 z0 z1 hc1 hxa
    cases hN : Em.hasN (xn : Int) with
    | false =>
      have hrd2 : insS (some (b :: r)) = some (((xn : Int), 0), r) := by rw [HRD.out, hN]; rfl
      have HR2 := hide hrd2
      have x0 := top_cells hb3 0
      have x1 := top_cells hb3 1
      have y0 := top_cells hz3 0
      have y1 := top_cells hz3 1
      have z0 := top_free hz3 0
      have z1 := top_free hz3 1
      simp only [List.getElem?_toArray, List.getElem?_cons_succ, List.getElem?_cons_zero] at x0 x1 y0 y1
      have HZ3 := hide hz3
      have HS3 := hide hst3
      have HF3 := hide F3
      clear hrd2 hN hb3 hz3 hst3 F3
      go_wp2_with fail
      refine bodyPost_ret_by (results_cell_row rfl _ _ w.heap.size 91 _ (0, 0) _ rfl (heap_set2 HZ3.out _ _) Try.underlying91 rfl ?_) rfl ?_
      · kernel_rfl
      · refine ⟨_, _, rfl, hwb, by decide, (fun x r' e => by rw [HR2.out] at e; injection e with e; injection e with e1 e2), ?_, HF3.out.trn (frm_set2 _ _ _ _) fun i e => .inr (by have e : i = w.heap.size := e; omega)⟩
        rw [HR2.out]
        exact HS3.out.frm (frm_set2 _ _ _ _) fun e => by have e : p = w.heap.size := e; omega
    | true =>
      have hrd2 : insS (some (b :: r)) = (match Em.getN r with | none => none | some (v, n) => some (((xn : Int), Em.zag v), r.drop n)) := by rw [HRD.out, hN]; rfl
      have HR2 := hide hrd2
      have HNU := hide (codeNum w0 W3 p r true k03 hst3)
      have hv := numV_lt r
      have HZG := hide fun W => varZag (numV r) (hide hv) W
      have hwz := wf_of (Em.zag_in hv)
      have HNV := hide (show Em.zag (numV r) = Em.zag (numV r) from rfl)
      have hgn : ∀ v n, Em.getN r = some (v, n) → numV r = v ∧ numR r = r.drop n := fun v n e => by
        constructor
        · unfold numV; rw [e]
        · unfold numR; rw [e]
      have HGN := hide hgn
      clear hrd2 hN hv hgn
      go_wp2_with fail
      refine HNU.out.mono ?_
      rintro e w4 ⟨rfl, hst4, hF4⟩
      have hb4 := hF4.heap (fun e => by have e : w2.heap.size = p := e; omega) hb3
      have hz4 := hF4.heap (fun e => by have e : w.heap.size = p := e; omega) hz3
      have F4 := F3.tr hF4
      clear hb3 hz3 hst3 F3 HNU hF4
      go_wp2_with fail
      refine (HZG.out _).mono ?_
      rintro e w' ⟨rfl, rfl⟩
      generalize hzg : Em.zag (numV r) = zv at *
      have hb5 := heap_setT (j := 1) hb4 (.int .i64 zv)
      have hz5 := heap_skip (a := ⟨w2.heap.size, 1, none⟩) hz4 (fun e => by have e : w2.heap.size = w.heap.size := e; omega) (.int .i64 zv)
      have a1 := top_cells hb4 1
      have f1 := top_free hb4 1
      have x0 := top_cells hb5 0
      have x1 := top_cells hb5 1
      have y0 := top_cells hz5 0
      have y1 := top_cells hz5 1
      have z0 := top_free hz5 0
      have z1 := top_free hz5 1
      simp only [List.getElem?_toArray, List.getElem?_cons_succ, List.getElem?_cons_zero, Array.setIfInBounds, List.set_toArray, List.set_cons_succ, List.set_cons_zero] at a1 x0 x1 y0 y1
      have F5 : Frm (· = w2.heap.size) w4 (w4.setCell ⟨w2.heap.size, 1, none⟩ (.int .i64 zv)) := Frm.st (S := (· = w2.heap.size)) (p := ⟨w2.heap.size, 1, none⟩) (Frm.rf _ w4) (.inl rfl) _
      have HF5 := hide (F4.trn F5 fun i e => .inr (by have e : i = w2.heap.size := e; omega))
      have HZ5 := hide hz5
      obtain ⟨A4, c4, hs4, hh4⟩ := hst4
      have HS5 := hide (show StB 87 w0 (w4.setCell ⟨w2.heap.size, 1, none⟩ (.int .i64 zv)) p (numR r) (Em.getN r).isSome from ⟨A4, c4, hs4, F5.heap (fun e => by have e : p = w2.heap.size := e; omega) hh4⟩)
      have HZV := hide hzg
      clear hb4 hz4 F4 hb5 hz5 F5 hs4 hh4 HZG hzg
      go_wp2_with fail
      refine bodyPost_ret_by (results_cell_row rfl _ _ w.heap.size 91 _ (0, 0) _ rfl (heap_set2 HZ5.out _ _) Try.underlying91 rfl ?_) rfl ?_
      · kernel_rfl
      · have HS6 : StB 87 w0 (((w4.setCell ⟨w2.heap.size, 1, none⟩ (.int .i64 zv)).setCell ⟨w.heap.size, 0, none⟩ (.int .i64 (xn : Int))).setCell ⟨w.heap.size, 1, none⟩ (.int .i64 zv)) p (numR r) (Em.getN r).isSome := by
          obtain ⟨A5, c5, h5, h6⟩ := HS5.out
          exact ⟨A5, c5, h5, (frm_set2 _ w.heap.size (.int .i64 (xn : Int)) (.int .i64 zv)).heap (fun e => by have e : p = w.heap.size := e; omega) h6⟩
        refine ⟨_, _, rfl, hwb, hwz, fun x r' e => ?_, ?_, HF5.out.trn (frm_set2 _ _ _ _) fun i e => .inr (by have e : i = w.heap.size := e; omega)⟩
        · rw [HR2.out] at e
          cases hg : Em.getN r with
          | none => rw [hg] at e; cases e
          | some vn =>
            obtain ⟨v, n⟩ := vn
            rw [hg] at e
            injection e with e
            injection e with e1 e2
            rw [← e1, ← HZV.out, (HGN.out v n hg).1]
        · rw [HR2.out]
          cases hg : Em.getN r with
          | none =>
            rw [hg] at HS6
            exact HS6.no
          | some vn =>
            obtain ⟨v, n⟩ := vn
            rw [hg, (HGN.out v n hg).2] at HS6
            exact HS6.st
end Go.Proofs.Ytcbkklfdeloeeaa
