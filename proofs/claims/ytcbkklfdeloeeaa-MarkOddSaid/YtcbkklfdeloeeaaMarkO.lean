/- Walk: the type that comes next (package mark). -/
import Derived.Test.YtcbkklfdeloeeaaMarkN
namespace Go.Proofs.Ytcbkklfdeloeeaa
open Go.RowKit
open Em (Ty)
set_option linter.unusedVariables false
set_option maxRecDepth 100000
/-- What node gives. -/
def NodeR (w0 w : World) (p f L : Nat) (l : List UInt8) (e : Ending) (w' : World) : Prop :=
  ∃ o n A m c, e = .returned (.tuple #[.agg #[.string o, .int .i64 n, .slice A m c], .bool (Em.rd f L l).isSome]) ∧ Frm (· = p) w w' ∧
    ∀ t L' r, Em.rd f L l = some (t, L', r) → TyF (fun k => w.heap.size ≤ k ∧ k < w'.heap.size) f w' [.string o, .int .i64 n, .slice A m c] t ∧
      ∃ A' c', Bs w0 (.slice A' r.length c') r ∧ w'.heap[p]? = some (.cells #[.slice A' r.length c', .int .i64 (L' : Int)] 111)
theorem NodeR.no {w0 w w' : World} {p f L : Nat} {l : List UInt8} {e : Ending} (h : Em.rd f L l = none) (o : ByteArray) (n : Int) (A : Option Addr) (m c : Nat) (he : e = .returned (.tuple #[.agg #[.string o, .int .i64 n, .slice A m c], .bool false])) (hf : Frm (· = p) w w') : NodeR w0 w p f L l e w' :=
  ⟨o, n, A, m, c, by rw [h]; exact he, hf, fun t L' r e => by rw [h] at e; cases e⟩
set_option maxHeartbeats 2000000 in
theorem markNode0 (w0 w : World) (p f L : Nat) (v : Value) (l : List UInt8) (hk : Keep w0 w) (hb : w.heap[p]? = some (.cells #[v, .int .i64 (L : Int)] 111)) (hs : Bs w0 v l) (hc : l = [] ∨ L = 0) : Calls Try.prog 85 #[.pointer (some ⟨p, 0, none⟩)] w (NodeR w0 w p f L l) := by
  have hno : Em.rd f L l = none := by
    cases f with
    | zero => rfl
    | succ f =>
      cases l with
      | nil => rfl
      | cons c s =>
        rw [Em.rd, if_pos]
        rcases hc with e | e
        · cases e
        · exact .inl e
  have HNO := hide hno
  obtain ⟨A, c, rfl, q1, q2, _⟩ := hs
  have hp := (Array.getElem?_eq_some_iff.1 hb).1
  have c0 := top_cells hb 0
  have c1 := top_cells hb 1
  simp only [List.getElem?_toArray, List.getElem?_cons_succ, List.getElem?_cons_zero] at c0 c1
  clear hno hb
  have hb0 := heap_alloc_new w (.cells #[.string ⟨#[]⟩, .int .i64 0, .slice none 0 0] 26)
  have HBF := hide hb0
  clear hb0
  by_cases hl : l.length = 0
  · go_enter Try.func85, Try.ntmps85
    go_wp2_with fail
    refine bodyPost_ret_by (results_cell2 rfl _ _ w.heap.size 26 _ (0, 0) _ rfl HBF.out Try.underlying26 rfl ?_) rfl ?_
    · kernel_rfl
    · exact NodeR.no HNO.out _ _ _ _ _ rfl (((by repeat (first | exact Keep.rf _ | assumption | apply Keep.al | apply Keep.dr | apply Keep.dn)) : Keep w _).frm _)
  · have hL : L = 0 := by
      rcases hc with rfl | e
      · simp at hl
      · exact e
    subst hL
    go_enter Try.func85, Try.ntmps85
    go_wp2_with fail
    refine bodyPost_ret_by (results_cell2 rfl _ _ w.heap.size 26 _ (0, 0) _ rfl HBF.out Try.underlying26 rfl ?_) rfl ?_
    · kernel_rfl
    · exact NodeR.no HNO.out _ _ _ _ _ rfl (((by repeat (first | exact Keep.rf _ | assumption | apply Keep.al | apply Keep.dr | apply Keep.dn)) : Keep w _).frm _)
theorem size_set (w : World) (a : Addr) (v : Value) : (w.setCell a v).heap.size = w.heap.size := by simp [World.setCell]
theorem new_behind {w W : World} (hs : W.heap.size = w.heap.size) (o : Obj) : (W.alloc o).heap[w.heap.size]? = some o := by rw [← hs]; exact heap_alloc_new W o
theorem frm_two (w : World) (p : Nat) (u v : Value) : Frm (· = p) w ((w.setCell ⟨p, 0, none⟩ u).setCell ⟨p, 1, none⟩ v) :=
  Frm.st (S := (· = p)) (p := ⟨p, 1, none⟩) (Frm.st (S := (· = p)) (p := ⟨p, 0, none⟩) (Frm.rf _ w) (.inl rfl) _) (.inl rfl) _
theorem heap_set3 {w : World} {b : Nat} {x y z : Value} {ty : TypeId} (h : w.heap[b]? = some (.cells #[x, y, z] ty)) (u v t : Value) : (((w.setCell ⟨b, 0, none⟩ u).setCell ⟨b, 1, none⟩ v).setCell ⟨b, 2, none⟩ t).heap[b]? = some (.cells #[u, v, t] ty) := heap_setT (j := 2) (heap_setT (j := 1) (heap_setT (j := 0) h u) v) t
theorem frm_set3 (w : World) (b : Nat) (u v t : Value) : Frm (· = b) w (((w.setCell ⟨b, 0, none⟩ u).setCell ⟨b, 1, none⟩ v).setCell ⟨b, 2, none⟩ t) :=
  Frm.st (S := (· = b)) (p := ⟨b, 2, none⟩) (Frm.st (S := (· = b)) (p := ⟨b, 1, none⟩) (Frm.st (S := (· = b)) (p := ⟨b, 0, none⟩) (Frm.rf _ w) (.inl rfl) _) (.inl rfl) _) (.inl rfl) _
/-- What was read from the reader's bytes: one byte less, one node less. -/
theorem bs_first {w : World} {A : Option Addr} {n c : Nat} {x : UInt8} {s : List UInt8} (h : Bs w (.slice A n c) (x :: s)) : n = s.length + 1 ∧ ∃ ad, A = some ad ∧ w.cell? ad = some (.int .u8 (x.toNat : Int)) := by
  obtain ⟨A', c', e, g1, g2, g3⟩ := h
  injection e with e1 e2 e3
  subst e1 e2 e3
  obtain ⟨ad, rfl, hc⟩ := g3 (by simp)
  have := hc 0 (by simp)
  exact ⟨rfl, ad, rfl, by simpa [Addr.add, bv] using this⟩
set_option maxHeartbeats 2000000 in
theorem markNodeB (w0 w : World) (p f L : Nat) (v : Value) (x : UInt8) (s : List UInt8) (hk : Keep w0 w) (hp0 : w0.heap.size ≤ p) (hb : w.heap[p]? = some (.cells #[v, .int .i64 ((L : Int) + 1)] 111)) (hs : Bs w0 v (x :: s)) (hL : L ≤ 2000) (hc : x.toNat < 1 ∨ 11 ≤ x.toNat) : Calls Try.prog 85 #[.pointer (some ⟨p, 0, none⟩)] w (NodeR w0 w p f (L + 1) (x :: s)) := by
  have hno : Em.rd f (L + 1) (x :: s) = none := by
    cases f with
    | zero => rfl
    | succ f => rw [Em.rd, if_pos (.inr hc)]
  have HNO := hide hno
  have hs0 := hs
  obtain ⟨A, c, rfl, q1, q2, _⟩ := hs
  obtain ⟨-, ad, rfl, hx0⟩ := bs_first hs0
  have hx := Keep.cell hk hx0
  have hp := (Array.getElem?_eq_some_iff.1 hb).1
  have HLE := hide (show (x :: s).length = 1 + s.length from by rw [List.length_cons]; omega)
  have c0 := top_cells hb 0
  have c1 := top_cells hb 1
  have f0 := top_free hb 0
  have f1 := top_free hb 1
  simp only [List.getElem?_toArray, List.getElem?_cons_succ, List.getElem?_cons_zero, List.length_cons] at c0 c1 q1
  have hb0 := heap_alloc_new w (.cells #[.string ⟨#[]⟩, .int .i64 0, .slice none 0 0] 26)
  have HBF := hide hb0
  have HS := hide hs0
  have x256 : x.toNat < 256 := x.toNat_lt
  have hxa : (w.alloc (.cells #[.string ⟨#[]⟩, .int .i64 0, .slice none 0 0] 26)).cell? ad = some (.int .u8 (x.toNat : Int)) := Keep.cell (Keep.al (Keep.rf _) _) hx
  clear hno hb hb0 hx0 hs0 hx
  generalize hxn : x.toNat = xn at *
  have g1 : ((s.length : Int) + 1 == 0) = false := by simp; omega
  have g2 : ((L : Int) + 1 == 0) = false := by simp; omega
  by_cases hx1 : xn < 1
  · have g3 : decide ((xn : Int) < 1) = true := by simp; omega
    go_enter Try.func85, Try.ntmps85
    go_wp2_with (first
        | (refine slFrom0 rfl (.tmp 34) (.const (.int .i64 1)) _ _ rfl Try.underlying29 sizeB8 _ _ rfl HS.out _ _ rfl 1 rfl _ HLE.out ?_; intro A1 c1 hd hd1 hd2)
        | fail)
    refine bodyPost_ret_by (results_cell2 rfl _ _ w.heap.size 26 #[.string ⟨#[]⟩, .int .i64 0, .slice none 0 0] (0, 0) _ rfl (new_behind (by simp only [size_set]) _) Try.underlying26 rfl ?_) rfl ?_
    · kernel_rfl
    · exact NodeR.no HNO.out _ _ _ _ _ rfl ((frm_two w p _ _).al _)
  · have g3 : decide ((xn : Int) < 1) = false := by simp; omega
    have g4 : decide ((xn : Int) < 11) = false := by simp; omega
    go_enter Try.func85, Try.ntmps85
    go_wp2_with (first
        | (refine slFrom0 rfl (.tmp 34) (.const (.int .i64 1)) _ _ rfl Try.underlying29 sizeB8 _ _ rfl HS.out _ _ rfl 1 rfl _ HLE.out ?_; intro A1 c1 hd hd1 hd2)
        | fail)
    have hF := (frm_two w p (.slice A1 s.length c1) (.int .i64 L)).al (.cells #[.string ⟨#[]⟩, .int .i64 0, .slice none 0 0] 26)
    have hn : (World.alloc ((w.setCell ⟨p, 0, none⟩ (.slice A1 s.length c1)).setCell ⟨p, 1, none⟩ (.int .i64 L)) (.cells #[.string ⟨#[]⟩, .int .i64 0, .slice none 0 0] 26)).heap[w.heap.size]? = some (.cells #[.string ⟨#[]⟩, .int .i64 0, .slice none 0 0] 26) := new_behind (by simp only [size_set]) _
    clear hxa
    generalize World.alloc (World.setCell _ _ _) _ = W1 at *
    refine (markOps W1).mono ?_
    rintro e w2 ⟨A2, c2, rfl, hs2, k2⟩
    have hn2 := (k2.frm fun _ => False).heap (fun h => h) hn
    have HN2 := hide hn2
    have hF2 := hF.tr (k2.frm _)
    have HF2 := hide hF2
    have y0 := top_cells hn2 0
    have y1 := top_cells hn2 1
    have y2 := top_cells hn2 2
    have z0 := top_free hn2 0
    have z1 := top_free hn2 1
    have z2 := top_free hn2 2
    simp only [List.getElem?_toArray, List.getElem?_cons_succ, List.getElem?_cons_zero] at y0 y1 y2
    clear hn hF hF2 hs2 hn2
    go_wp2_with fail
    refine bodyPost_ret_by (results_cell2 rfl _ _ w.heap.size 26 #[.string ⟨#[]⟩, .int .i64 0, .slice none 0 0] (0, 0) _ rfl (heap_set3 HN2.out _ _ _) Try.underlying26 rfl ?_) rfl ?_
    · kernel_rfl
    · exact NodeR.no HNO.out _ _ _ _ _ rfl (HF2.out.trn (frm_set3 _ _ _ _ _) fun i e => .inr (by omega))
end Go.Proofs.Ytcbkklfdeloeeaa
