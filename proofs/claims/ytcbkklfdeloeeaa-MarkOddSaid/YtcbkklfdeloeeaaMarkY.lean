/- Walk: the type that comes next, of the reference (mark): where there is none. -/
import Derived.Test.YtcbkklfdeloeeaaMarkX
namespace Go.Proofs.Ytcbkklfdeloeeaa
open Go.RowKit
open Em (Ty)
set_option linter.unusedVariables false
set_option maxRecDepth 100000
/-- How the reference's reader stands: how many nodes may be still, and what is left; or it has failed. -/
def St12 (w0 W : World) (p : Nat) : Option (Nat × List UInt8) → Prop
  | none => ∃ v n, W.heap[p]? = some (.cells #[v, .bool false, .int .i64 n] 115)
  | some (L, r) => ∃ A c, Bs w0 (.slice A r.length c) r ∧ L ≤ 2000 ∧ W.heap[p]? = some (.cells #[.slice A r.length c, .bool true, .int .i64 (2000 - (L : Int))] 115)
theorem St12.frm {w0 W W' : World} {p : Nat} {s : Option (Nat × List UInt8)} {T : Nat → Prop} (h : St12 w0 W p s) (k : Frm T W W') (hp : ¬ T p) : St12 w0 W' p s := by
  cases s with
  | none =>
    obtain ⟨v, n, h⟩ := h
    exact ⟨v, n, k.heap hp h⟩
  | some x =>
    obtain ⟨A, c, h1, h2, h3⟩ := h
    exact ⟨A, c, h1, h2, k.heap hp h3⟩
def rdS (f : Nat) (s : Option (Nat × List UInt8)) : Option (Ty × Nat × List UInt8) := s.bind fun x => Em.rd f x.1 x.2
/-- What read gives. -/
def Rd12 (w0 w : World) (p f : Nat) (s : Option (Nat × List UInt8)) (e : Ending) (w' : World) : Prop :=
  ∃ o n A m c, e = .returned (.agg #[.string o, .int .i64 n, .slice A m c]) ∧ Frm (· = p) w w' ∧ St12 w0 w' p ((rdS f s).map fun x => x.2) ∧
    ∀ t L' r, rdS f s = some (t, L', r) → TyF (fun k => w.heap.size ≤ k ∧ k < w'.heap.size) f w' [.string o, .int .i64 n, .slice A m c] t
theorem Rd12.no {w0 w w' : World} {p f : Nat} {s : Option (Nat × List UInt8)} (h : rdS f s = none) (o : ByteArray) (n : Int) (A : Option Addr) (m c : Nat) (hf : Frm (· = p) w w') (v : Value) (q : Int) (hp : w'.heap[p]? = some (.cells #[v, .bool false, .int .i64 q] 115)) :
    Rd12 w0 w p f s (.returned (.agg #[.string o, .int .i64 n, .slice A m c])) w' :=
  ⟨o, n, A, m, c, rfl, hf, by rw [h]; exact ⟨v, q, hp⟩, fun t L' r e => by rw [h] at e; cases e⟩
theorem heap_skip {w : World} {b : Nat} {o : Obj} {a : Addr} (h : w.heap[b]? = some o) (hb : a.block ≠ b) (u : Value) : (w.setCell a u).heap[b]? = some o :=
  (Frm.st (S := (· = a.block)) (p := a) (Frm.rf _ w) (.inl rfl) u).heap (fun e => hb e.symm) h
set_option maxHeartbeats 4000000 in
theorem refRead0 (w0 w : World) (p f : Nat) (ok : Bool) (v : Value) (n : Int) (s : Option (Nat × List UInt8)) (hk : Keep w0 w) (hp0 : w0.heap.size ≤ p) (hb : w.heap[p]? = some (.cells #[v, .bool ok, .int .i64 n] 115)) (hno : rdS f s = none)
    (hc : ok = false ∨ ok = true ∧ n = 2000 ∨ ok = true ∧ (0 ≤ n ∧ n < 2000) ∧ ∃ A c l, v = .slice A l.length c ∧ Bs w0 (.slice A l.length c) l ∧ ∀ x s, l = x :: s → x.toNat < 1 ∨ 11 ≤ x.toNat) :
    Calls Try.prog 86 #[.pointer (some ⟨p, 0, none⟩)] w (Rd12 w0 w p f s) := by
  have HNO := hide hno
  have hp := (Array.getElem?_eq_some_iff.1 hb).1
  have hn1 := heap_alloc_new w (.cells #[.string ⟨#[]⟩, .int .i64 0, .slice none 0 0] 26)
  have k1 : Keep w (w.alloc (.cells #[.string ⟨#[]⟩, .int .i64 0, .slice none 0 0] 26)) := (by repeat (first | exact Keep.rf _ | assumption | apply Keep.al | apply Keep.dr | apply Keep.dn))
  clear hno
  go_enter Try.func86, Try.ntmps86
  go_wp2_with fail
  generalize World.alloc w _ = W1 at *
  refine (refOps12 W1).mono ?_
  rintro e w2 ⟨A2, c2, rfl, hs2, k2⟩
  have k12 := Keep.tr k1 k2
  have hb2 := (k12.frm fun _ => False).heap (fun h => h) hb
  have hn2 := (k2.frm fun _ => False).heap (fun h => h) hn1
  have c0 := top_cells hb2 0
  have c1 := top_cells hb2 1
  have c2' := top_cells hb2 2
  have f1 := top_free hb2 1
  have f2 := top_free hb2 2
  have y0 := top_cells hn2 0
  have y1 := top_cells hn2 1
  have y2 := top_cells hn2 2
  have z0 := top_free hn2 0
  have z1 := top_free hn2 1
  have z2 := top_free hn2 2
  simp only [List.getElem?_toArray, List.getElem?_cons_succ, List.getElem?_cons_zero] at c0 c1 c2' y0 y1 y2
  have HEND := hide fun (q : Int) => show (((((w2.setCell ⟨p, 2, none⟩ (.int .i64 q)).setCell ⟨p, 1, none⟩ (.bool false)).setCell ⟨w.heap.size, 0, none⟩ (.string ⟨#[]⟩)).setCell ⟨w.heap.size, 1, none⟩ (.int .i64 0)).setCell ⟨w.heap.size, 2, none⟩ (.slice none 0 0)).heap[w.heap.size]? = some (.cells #[.string ⟨#[]⟩, .int .i64 0, .slice none 0 0] 26) from
    heap_set3 (heap_skip (heap_skip hn2 (fun e => by have e : p = w.heap.size := e; omega) _) (fun e => by have e : p = w.heap.size := e; omega) _) _ _ _
  have HEN := hide fun (q : Int) => show (((((w2.setCell ⟨p, 2, none⟩ (.int .i64 q)).setCell ⟨p, 1, none⟩ (.bool false)).setCell ⟨w.heap.size, 0, none⟩ (.string ⟨#[]⟩)).setCell ⟨w.heap.size, 1, none⟩ (.int .i64 0)).setCell ⟨w.heap.size, 2, none⟩ (.slice none 0 0)).heap[p]? = some (.cells #[v, .bool false, .int .i64 q] 115) from
    (frm_set3 _ _ _ _ _).heap (fun e => by have e : p = w.heap.size := e; omega) (heap_setT (j := 1) (heap_setT (j := 2) hb2 (.int .i64 q)) (.bool false))
  have HFR := hide fun (q : Int) => show Frm (· = p) w (((((w2.setCell ⟨p, 2, none⟩ (.int .i64 q)).setCell ⟨p, 1, none⟩ (.bool false)).setCell ⟨w.heap.size, 0, none⟩ (.string ⟨#[]⟩)).setCell ⟨w.heap.size, 1, none⟩ (.int .i64 0)).setCell ⟨w.heap.size, 2, none⟩ (.slice none 0 0)) from
    (Frm.st (S := (· = p)) (p := ⟨p, 1, none⟩) (Frm.st (S := (· = p)) (p := ⟨p, 2, none⟩) (k12.frm _) (.inl rfl) (.int .i64 q)) (.inl rfl) (.bool false)).trn (frm_set3 _ _ _ _ _) fun i e => .inr (by have e : i = w.heap.size := e; omega)
  have kx : Keep w0 w2 := Keep.tr hk k12
  clear hb hb2 hn1 hn2 k1 k2 k12
  have hFIN : ∀ q : Int, Rd12 w0 w p f s (.returned (.agg #[.string ⟨#[]⟩, .int .i64 0, .slice none 0 0])) (((((w2.setCell ⟨p, 2, none⟩ (.int .i64 q)).setCell ⟨p, 1, none⟩ (.bool false)).setCell ⟨w.heap.size, 0, none⟩ (.string ⟨#[]⟩)).setCell ⟨w.heap.size, 1, none⟩ (.int .i64 0)).setCell ⟨w.heap.size, 2, none⟩ (.slice none 0 0)) :=
    fun q => Rd12.no HNO.out _ _ _ _ _ (HFR.out q) _ _ (HEN.out q)
  have HFIN := hide hFIN
  clear hFIN
  have hpw : p ≠ w.heap.size := by omega
  rcases hc with rfl | ⟨rfl, rfl⟩ | ⟨rfl, ⟨hn1, hn2⟩, A, c, l, rfl, hbs, hx⟩
  · go_wp2_with fail
    refine bodyPost_ret_by (results_cell_row rfl _ _ w.heap.size 26 _ (0, 0) _ rfl (HEND.out _) Try.underlying26 rfl ?_) rfl ?_
    · kernel_rfl
    · exact HFIN.out _
  · go_wp2_with fail
    refine bodyPost_ret_by (results_cell_row rfl _ _ w.heap.size 26 _ (0, 0) _ rfl (HEND.out _) Try.underlying26 rfl ?_) rfl ?_
    · kernel_rfl
    · exact HFIN.out _
  · have g1 : decide (n + 1 > 2000) = false := by simp; omega
    cases l with
    | nil =>
      go_wp2_with fail
      refine bodyPost_ret_by (results_cell_row rfl _ _ w.heap.size 26 _ (0, 0) _ rfl (HEND.out _) Try.underlying26 rfl ?_) rfl ?_
      · kernel_rfl
      · exact HFIN.out _
    | cons x l =>
      have hxx := hx x l rfl
      obtain ⟨-, ad, rfl, hx0⟩ := bs_first hbs
      have hxa := Keep.cell kx hx0
      have hq : l.length + 1 ≤ c := by
        obtain ⟨A', c', e, q1, q2, _⟩ := hbs
        injection e with e1 e2 e3
        subst e3
        simpa using q1
      have hxb : ad.block ≠ p := fun e => by have := World.block_lt_of_cell? _ _ hx0; omega
      have hxs : (w2.setCell ⟨p, 2, none⟩ (.int .i64 (n + 1))).cell? ad = some (bv x) := (Frm.st (S := (· = p)) (p := ⟨p, 2, none⟩) (Frm.rf _ w2) (.inl rfl) _).cell (fun e => hxb e) hxa
      simp only [bv] at hxs
      have x256 : x.toNat < 256 := x.toNat_lt
      clear hbs hx0 hx hxa
      simp only [List.length_cons, Int.natCast_add, Int.cast_ofNat_Int] at c0
      generalize x.toNat = xn at *
      have g2 : ((l.length : Int) + 1 == 0) = false := by simp; omega
      by_cases h0 : xn = 0
      · subst h0
        go_wp2_with fail
        refine bodyPost_ret_by (results_cell_row rfl _ _ w.heap.size 26 _ (0, 0) _ rfl (HEND.out _) Try.underlying26 rfl ?_) rfl ?_
        · kernel_rfl
        · exact HFIN.out _
      · have g3 : ((xn : Int) == 0) = false := by simp; omega
        have g4 : decide ((xn : Int) ≥ 11) = true := by simp; omega
        go_wp2_with fail
        refine bodyPost_ret_by (results_cell_row rfl _ _ w.heap.size 26 _ (0, 0) _ rfl (HEND.out _) Try.underlying26 rfl ?_) rfl ?_
        · kernel_rfl
        · exact HFIN.out _
end Go.Proofs.Ytcbkklfdeloeeaa
