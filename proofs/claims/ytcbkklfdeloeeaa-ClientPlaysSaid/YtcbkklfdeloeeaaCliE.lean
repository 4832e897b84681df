/- Walks: a call out of a reader (package server); a whole frame; a reply. -/
import Derived.Test.YtcbkklfdeloeeaaCliD
namespace Go.Proofs.Ytcbkklfdeloeeaa
open Go.RowKit
set_option linter.unusedVariables false
set_option maxRecDepth 100000
theorem heap_set2 {w : World} {b : Nat} {x y : Value} {ty : TypeId} (h : w.heap[b]? = some (.cells #[x, y] ty)) (u v : Value) : ((w.setCell ⟨b, 0, none⟩ u).setCell ⟨b, 1, none⟩ v).heap[b]? = some (.cells #[u, v] ty) := heap_setT (j := 1) (heap_setT (j := 0) h u) v
theorem frm_set2 (w : World) (b : Nat) (u v : Value) : Frm (· = b) w ((w.setCell ⟨b, 0, none⟩ u).setCell ⟨b, 1, none⟩ v) :=
  Frm.st (S := (· = b)) (p := ⟨b, 1, none⟩) (Frm.st (S := (· = b)) (p := ⟨b, 0, none⟩) (Frm.rf _ w) (.inl rfl) _) (.inl rfl) _
theorem StC.keep {tt : Nat} {w0 W W' : World} {p : Nat} {s : Option (List UInt8)} (h : StC tt w0 W p s) (k : Keep W W') : StC tt w0 W' p s := h.frm (k.frm fun _ => False) fun h => h
theorem StC.cell1 {tt : Nat} {w0 W : World} {p : Nat} {s : Option (List UInt8)} (h : StC tt w0 W p s) : W.cell? ⟨p, 1, none⟩ = some (.bool s.isSome) := by
  cases s with
  | none =>
    obtain ⟨A, c, l, h1, h2⟩ := h
    exact (top_cells h2 1).trans rfl
  | some l =>
    obtain ⟨A, c, h1, h2⟩ := h
    exact (top_cells h2 1).trans rfl
theorem StC.lt {tt : Nat} {w0 W : World} {p : Nat} {s : Option (List UInt8)} (h : StC tt w0 W p s) : p < W.heap.size := by
  cases s with
  | none =>
    obtain ⟨A, c, l, h1, h2⟩ := h
    exact (Array.getElem?_eq_some_iff.1 h2).1
  | some l =>
    obtain ⟨A, c, h1, h2⟩ := h
    exact (Array.getElem?_eq_some_iff.1 h2).1

/-- A number, at most some, that comes next, and what is left. -/
def numM (most : Nat) (l : List UInt8) : Option (Nat × List UInt8) := match Em.getN l with
  | some (v, n) => if v ≤ most then some (v, l.drop n) else none
  | none => none
theorem numM_31 (l : List UInt8) : Em.num31 l = numM 2147483647 l := by
  unfold Em.num31 numM
  cases h : Em.getN l with
  | none => rfl
  | some y =>
    obtain ⟨v, n⟩ := y
    by_cases hv : v < 2147483648
    · simp only [hv, if_true]
      rw [if_pos (by omega)]
    · simp only [hv, if_false]
      rw [if_neg (by omega)]
def cntM (most : Nat) (st : Option (List UInt8)) : Option (Nat × List UInt8) := st.bind (numM most)
def cntW (most : Nat) (st : Option (List UInt8)) : Nat := ((cntM most st).map fun x => x.1).getD 0
def cntT (most : Nat) (st : Option (List UInt8)) : Option (List UInt8) := (cntM most st).map fun x => x.2
theorem numM_parts (most : Nat) (l : List UInt8) : numM most l = if okN true l most = true then some (numV l, numR l) else none := by
  unfold numM okN numV numR
  cases h : Em.getN l with
  | none => rfl
  | some y =>
    obtain ⟨v, n⟩ := y
    by_cases hv : v ≤ most
    · simp [hv]
    · simp [hv]
theorem cntW_le (most : Nat) (st : Option (List UInt8)) : cntW most st ≤ most := by
  unfold cntW cntM
  cases st with
  | none => simp
  | some l =>
    simp only [Option.bind_some, numM]
    cases h : Em.getN l with
    | none => simp
    | some y =>
      obtain ⟨v, n⟩ := y
      by_cases hv : v ≤ most
      · simp [hv]
      · simp [hv]
theorem srvNum (w0 w : World) (p most : Nat) (st : Option (List UInt8)) (hm : most ≤ 2147483647) (hk : Keep w0 w) (h : StC 141 w0 w p st) : Calls Try.prog 112 #[.pointer (some ⟨p, 0, none⟩), .int .u64 (most : Int)] w fun e w' =>
    e = .returned (.int .i64 (cntW most st : Int)) ∧ StC 141 w0 w' p (cntT most st) ∧ Frm (· = p) w w' := by
  obtain ⟨l, hb, hl⟩ := h.bits
  refine (srvNum0 w0 w p l _ most hm hk hb).mono ?_
  rintro e w' ⟨rfl, hs, hf⟩
  cases st with
  | none => exact ⟨rfl, hs.no, hf⟩
  | some l' =>
    obtain rfl := hl l' rfl
    have hp := numM_parts most l'
    simp only [Option.isSome_some] at hs ⊢
    cases hc : okN true l' most with
    | true =>
      rw [hc, if_pos rfl] at hp
      rw [hc] at hs
      have e1 : cntM most (some l') = some (numV l', numR l') := hp
      exact ⟨by rw [cntW, e1]; rfl, by rw [cntT, e1]; exact hs.st, hf⟩
    | false =>
      rw [hc, if_neg (by simp)] at hp
      rw [hc] at hs
      have e1 : cntM most (some l') = none := hp
      exact ⟨by rw [cntW, e1]; rfl, by rw [cntT, e1]; exact hs.no, hf⟩
set_option maxHeartbeats 4000000 in
theorem srvCall (w0 w : World) (p : Nat) (st : Option (List UInt8)) (hk : Keep w0 w) (hp0 : w0.heap.size ≤ p) (h : StC 141 w0 w p st) : Calls Try.prog 111 #[.pointer (some ⟨p, 0, none⟩)] w fun e w' =>
    e = .returned (.agg #[.int .i64 (cntW 2147483647 st : Int), .int .i64 (cntW 2147483647 (cntT 2147483647 st) : Int)]) ∧ StC 141 w0 w' p (cntT 2147483647 (cntT 2147483647 st)) ∧ Frm (· = p) w w' := by
  have hp := h.lt
  have hz := heap_alloc_new w (.cells #[.int .i64 0, .int .i64 0] 54)
  have k1 : Keep w (w.alloc (.cells #[.int .i64 0, .int .i64 0] 54)) := (by repeat (first | exact Keep.rf _ | assumption | apply Keep.al | apply Keep.dr | apply Keep.dn))
  have HT := hide (srvNum w0 _ p 2147483647 st (by omega) (Keep.tr hk k1) (h.keep k1))
  have HW := hide fun W (k : Keep w0 W) h => srvNum w0 W p 2147483647 (cntT 2147483647 st) (by omega) k h
  clear h
  generalize cntW 2147483647 (cntT 2147483647 st) = b at *
  generalize cntT 2147483647 (cntT 2147483647 st) = st3 at *
  generalize cntW 2147483647 st = a at *
  generalize cntT 2147483647 st = st2 at *
  go_enter Try.func111, Try.ntmps111
  go_wp2_with fail
  generalize World.alloc w _ = W1 at *
  refine HT.out.mono ?_
  rintro e w2 ⟨rfl, hst, hF⟩
  have F2 := (k1.frm (· = p)).tr hF
  have hz2 := hF.heap (fun e => by have e : w.heap.size = p := e; omega) hz
  have k02 : Keep w0 w2 := Frm.keep hk F2 fun i e => by have e : i = p := e; omega
  have HT2 := hide (HW.out w2 k02 hst)
  clear HT HW hz hF hst
  go_wp2_with fail
  refine HT2.out.mono ?_
  rintro e w3 ⟨rfl, hst, hF⟩
  have F3 := F2.tr hF
  have hz3 := hF.heap (fun e => by have e : w.heap.size = p := e; omega) hz2
  have y0 := top_cells hz3 0
  have y1 := top_cells hz3 1
  have z0 := top_free hz3 0
  have z1 := top_free hz3 1
  simp only [List.getElem?_toArray, List.getElem?_cons_succ, List.getElem?_cons_zero] at y0 y1
  have HZ3 := hide hz3
  have HF3 := hide F3
  have HST := hide hst
  clear HT2 hz2 hz3 F2 F3 hF hst k1
  go_wp2_with fail
  refine bodyPost_ret_by (results_cell_row rfl _ _ w.heap.size 54 _ (0, 0) _ rfl (heap_set2 HZ3.out _ _) Try.underlying54 rfl ?_) rfl ?_
  · kernel_rfl
  · exact ⟨rfl, HST.out.frm (frm_set2 _ _ _ _) fun e => by have e : p = w.heap.size := e; omega, HF3.out.trn (frm_set2 _ _ _ _) fun i e => .inr (by have e : i = w.heap.size := e; omega)⟩
end Go.Proofs.Ytcbkklfdeloeeaa
