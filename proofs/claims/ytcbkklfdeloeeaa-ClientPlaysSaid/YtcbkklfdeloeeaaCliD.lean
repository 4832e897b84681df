/- Walks: the reader of package server. -/
import Derived.Test.YtcbkklfdeloeeaaCliC
namespace Go.Proofs.Ytcbkklfdeloeeaa
open Go.RowKit
set_option linter.unusedVariables false
set_option maxRecDepth 100000
/-- How a reader stands: what is left; or it has failed. -/
def StC (tt : Nat) (w0 W : World) (p : Nat) : Option (List UInt8) → Prop
  | none => ∃ A c l, Bs w0 (.slice A l.length c) l ∧ W.heap[p]? = some (.cells #[.slice A l.length c, .bool false] tt)
  | some l => ∃ A c, Bs w0 (.slice A l.length c) l ∧ W.heap[p]? = some (.cells #[.slice A l.length c, .bool true] tt)
theorem StC.frm {tt : Nat} {w0 W W' : World} {p : Nat} {s : Option (List UInt8)} {T : Nat → Prop} (h : StC tt w0 W p s) (k : Frm T W W') (hp : ¬ T p) : StC tt w0 W' p s := by
  cases s with
  | none =>
    obtain ⟨A, c, l, h1, h2⟩ := h
    exact ⟨A, c, l, h1, k.heap hp h2⟩
  | some l =>
    obtain ⟨A, c, h1, h2⟩ := h
    exact ⟨A, c, h1, k.heap hp h2⟩
/-- How a reader stands: its bytes and whether it is well. -/
def StB (tt : Nat) (w0 W : World) (p : Nat) (l : List UInt8) (b : Bool) : Prop := ∃ A c, Bs w0 (.slice A l.length c) l ∧ W.heap[p]? = some (.cells #[.slice A l.length c, .bool b] tt)
theorem StB.st {tt : Nat} {w0 W : World} {p : Nat} {l : List UInt8} (h : StB tt w0 W p l true) : StC tt w0 W p (some l) := h
theorem StB.no {tt : Nat} {w0 W : World} {p : Nat} {l : List UInt8} (h : StB tt w0 W p l false) : StC tt w0 W p none := by
  obtain ⟨A, c, h1, h2⟩ := h
  exact ⟨A, c, l, h1, h2⟩
theorem StC.bits {tt : Nat} {w0 W : World} {p : Nat} {s : Option (List UInt8)} (h : StC tt w0 W p s) : ∃ l, StB tt w0 W p l s.isSome ∧ ∀ x, s = some x → x = l := by
  cases s with
  | none =>
    obtain ⟨A, c, l, h1, h2⟩ := h
    exact ⟨l, ⟨A, c, h1, h2⟩, fun x e => by cases e⟩
  | some l =>
    obtain ⟨A, c, h1, h2⟩ := h
    exact ⟨l, ⟨A, c, h1, h2⟩, fun x e => by injection e with e; exact e.symm⟩
def numV (l : List UInt8) : Nat := match Em.getN l with
  | some (v, _) => v
  | none => 0
def numR (l : List UInt8) : List UInt8 := match Em.getN l with
  | some (_, n) => l.drop n
  | none => l
theorem numV_lt (l : List UInt8) : numV l < 18446744073709551616 := by
  unfold numV
  cases h : Em.getN l with
  | none => simp
  | some y => exact (Em.get_some h).1
theorem getT_of (l : List UInt8) : ∃ n : Nat, getT l = .tuple #[.int .u64 (numV l : Int), .int .i64 (n : Int), .bool (Em.getN l).isSome] ∧ n ≤ l.length ∧ numR l = l.drop n := by
  unfold getT numV numR
  cases h : Em.getN l with
  | none => exact ⟨0, rfl, by omega, by simp⟩
  | some y =>
    obtain ⟨v, n⟩ := y
    exact ⟨n, rfl, (Em.get_some h).2.2.2, rfl⟩
def okV (b : Bool) (v : Nat) : Int := if b = true then (v : Int) else 0
def okN (b : Bool) (l : List UInt8) (most : Nat) : Bool := b && ((Em.getN l).isSome && decide (numV l ≤ most))
set_option maxHeartbeats 2000000 in
theorem srvNum0 (w0 w : World) (p : Nat) (l : List UInt8) (b : Bool) (most : Nat) (hm : most ≤ 2147483647) (hk : Keep w0 w) (h : StB 141 w0 w p l b) : Calls Try.prog 112 #[.pointer (some ⟨p, 0, none⟩), .int .u64 (most : Int)] w fun e w' =>
    e = .returned (.int .i64 (okV (okN b l most) (numV l))) ∧ StB 141 w0 w' p (numR l) (okN b l most) ∧ Frm (· = p) w w' := by
  obtain ⟨A, c, hs, hb⟩ := h
  have HS := hide hs
  have hG := varGet _ l w (hs.keep hk)
  obtain ⟨n, hT, hn, hR⟩ := getT_of l
  rw [hT] at hG
  have HG := hide hG
  have HR := hide hR
  have HLE := hide (show l.length = n + (l.length - n) from by omega)
  have HDL := hide (show (l.drop n).length = l.length - n from List.length_drop)
  have c0 := top_cells hb 0
  have c1 := top_cells hb 1
  have f0 := top_free hb 0
  have f1 := top_free hb 1
  simp only [List.getElem?_toArray, List.getElem?_cons_succ, List.getElem?_cons_zero] at c0 c1
  have HB := hide hb
  clear hs hG hT hR hb
  have HOK := hide (show okN b l most = (b && ((Em.getN l).isSome && decide (numV l ≤ most))) from rfl)
  generalize okN b l most = ok at *
  generalize numV l = v at *
  generalize hg : (Em.getN l).isSome = g at *
  clear hg
  cases b with
  | false =>
    rw [Bool.false_and] at HOK
    have F1 : Frm (· = p) w (w.setCell ⟨p, 1, none⟩ (.bool false)) := Frm.st (S := (· = p)) (p := ⟨p, 1, none⟩) (Frm.rf _ w) (.inl rfl) _
    have hb1 := heap_setT (j := 1) HB.out (.bool false)
    have d0 := top_cells hb1 0
    have d1 := top_cells hb1 1
    have e0 := top_free hb1 0
    simp only [List.getElem?_toArray, List.getElem?_cons_succ, List.getElem?_cons_zero, Array.setIfInBounds, List.set_toArray, List.set_cons_succ, List.set_cons_zero] at d0 d1
    have HF1 := hide F1
    have HB1 := hide hb1
    clear F1 hb1
    go_enter Try.func112, Try.ntmps112
    go_wp2_with fail
    refine HG.out.mono ?_
    rintro e w' ⟨rfl, rfl⟩
    go_wp2_with (first
      | (refine slFrom0 rfl (.tmp 36) (.tmp 37) _ _ rfl Try.underlying29 sizeB8 _ _ rfl HS.out _ _ rfl n rfl _ HLE.out ?_; intro A1 c1 hd hd1 hd2)
      | fail)
    go_ret
    exact ⟨by rw [HOK.out]; rfl, ⟨A1, c1, by rw [HR.out, HDL.out]; exact hd, by rw [HR.out, HDL.out, HOK.out]; exact heap_setT (j := 0) HB1.out _⟩, Frm.st (S := (· = p)) (p := ⟨p, 0, none⟩) HF1.out (.inl rfl) _⟩
  | true =>
    cases g with
    | false =>
      rw [Bool.false_and, Bool.and_false] at HOK
      have F1 : Frm (· = p) w (w.setCell ⟨p, 1, none⟩ (.bool false)) := Frm.st (S := (· = p)) (p := ⟨p, 1, none⟩) (Frm.rf _ w) (.inl rfl) _
      have hb1 := heap_setT (j := 1) HB.out (.bool false)
      have d0 := top_cells hb1 0
      have d1 := top_cells hb1 1
      have e0 := top_free hb1 0
      simp only [List.getElem?_toArray, List.getElem?_cons_succ, List.getElem?_cons_zero, Array.setIfInBounds, List.set_toArray, List.set_cons_succ, List.set_cons_zero] at d0 d1
      have HF1 := hide F1
      have HB1 := hide hb1
      clear F1 hb1
      go_enter Try.func112, Try.ntmps112
      go_wp2_with fail
      refine HG.out.mono ?_
      rintro e w' ⟨rfl, rfl⟩
      go_wp2_with (first
        | (refine slFrom0 rfl (.tmp 36) (.tmp 37) _ _ rfl Try.underlying29 sizeB8 _ _ rfl HS.out _ _ rfl n rfl _ HLE.out ?_; intro A1 c1 hd hd1 hd2)
        | fail)
      go_ret
      exact ⟨by rw [HOK.out]; rfl, ⟨A1, c1, by rw [HR.out, HDL.out]; exact hd, by rw [HR.out, HDL.out, HOK.out]; exact heap_setT (j := 0) HB1.out _⟩, Frm.st (S := (· = p)) (p := ⟨p, 0, none⟩) HF1.out (.inl rfl) _⟩
    | true =>
      by_cases hv : v ≤ most
      · have hvi : decide ((v : Int) ≤ (most : Int)) = true := decide_eq_true (by omega)
        rw [decide_eq_true hv, Bool.true_and, Bool.true_and] at HOK
        have F1 : Frm (· = p) w (w.setCell ⟨p, 1, none⟩ (.bool true)) := Frm.st (S := (· = p)) (p := ⟨p, 1, none⟩) (Frm.rf _ w) (.inl rfl) _
        have hb1 := heap_setT (j := 1) HB.out (.bool true)
        have d0 := top_cells hb1 0
        have d1 := top_cells hb1 1
        have e0 := top_free hb1 0
        simp only [List.getElem?_toArray, List.getElem?_cons_succ, List.getElem?_cons_zero, Array.setIfInBounds, List.set_toArray, List.set_cons_succ, List.set_cons_zero] at d0 d1
        have HF1 := hide F1
        have HB1 := hide hb1
        clear F1 hb1
        go_enter Try.func112, Try.ntmps112
        go_wp2_with fail
        refine HG.out.mono ?_
        rintro e w' ⟨rfl, rfl⟩
        go_wp2_with (first
          | (refine slFrom0 rfl (.tmp 36) (.tmp 37) _ _ rfl Try.underlying29 sizeB8 _ _ rfl HS.out _ _ rfl n rfl _ HLE.out ?_; intro A1 c1 hd hd1 hd2)
          | fail)
        go_ret
        exact ⟨by rw [HOK.out]; rfl, ⟨A1, c1, by rw [HR.out, HDL.out]; exact hd, by rw [HR.out, HDL.out, HOK.out]; exact heap_setT (j := 0) HB1.out _⟩, Frm.st (S := (· = p)) (p := ⟨p, 0, none⟩) HF1.out (.inl rfl) _⟩
      · have hvi : decide ((v : Int) ≤ (most : Int)) = false := decide_eq_false (by omega)
        rw [decide_eq_false hv, Bool.and_false, Bool.and_false] at HOK
        have F1 : Frm (· = p) w (w.setCell ⟨p, 1, none⟩ (.bool false)) := Frm.st (S := (· = p)) (p := ⟨p, 1, none⟩) (Frm.rf _ w) (.inl rfl) _
        have hb1 := heap_setT (j := 1) HB.out (.bool false)
        have d0 := top_cells hb1 0
        have d1 := top_cells hb1 1
        have e0 := top_free hb1 0
        simp only [List.getElem?_toArray, List.getElem?_cons_succ, List.getElem?_cons_zero, Array.setIfInBounds, List.set_toArray, List.set_cons_succ, List.set_cons_zero] at d0 d1
        have HF1 := hide F1
        have HB1 := hide hb1
        clear F1 hb1
        go_enter Try.func112, Try.ntmps112
        go_wp2_with fail
        refine HG.out.mono ?_
        rintro e w' ⟨rfl, rfl⟩
        go_wp2_with (first
          | (refine slFrom0 rfl (.tmp 36) (.tmp 37) _ _ rfl Try.underlying29 sizeB8 _ _ rfl HS.out _ _ rfl n rfl _ HLE.out ?_; intro A1 c1 hd hd1 hd2)
          | fail)
        go_ret
        exact ⟨by rw [HOK.out]; rfl, ⟨A1, c1, by rw [HR.out, HDL.out]; exact hd, by rw [HR.out, HDL.out, HOK.out]; exact heap_setT (j := 0) HB1.out _⟩, Frm.st (S := (· = p)) (p := ⟨p, 0, none⟩) HF1.out (.inl rfl) _⟩
end Go.Proofs.Ytcbkklfdeloeeaa
