/- Walks: a client in memory; New, Pending, Restart, Tick (package client and its reference). Printed by gen_clik.py. -/
import Derived.Test.YtcbkklfdeloeeaaCliJ
namespace Go.Proofs.Ytcbkklfdeloeeaa
open Go.RowKit
set_option linter.unusedVariables false
set_option maxRecDepth 100000
/-- A client: its mark, the last call, is it pending, its request, ticks. -/
structure Cl where
  m : Nat
  e : Nat
  s : Nat
  p : Bool
  b : List UInt8
  n : Nat
def clC (c : Cl) (A : Option Addr) (k : Nat) : Array Value := #[.int .u64 (c.m : Int), .int .i64 (c.e : Int), .int .i64 (c.s : Int), .bool c.p, .slice A c.b.length k, .int .i64 (c.n : Int)]
theorem cl_noB (c : Cl) (A : Option Addr) (k : Nat) (j : Nat) (b : UInt8) : (clC c A k)[j]? ≠ some (bv b) := by
  intro h
  unfold clC at h
  match j with
  | 0 => simp [bv] at h
  | 1 => simp [bv] at h
  | 2 => simp [bv] at h
  | 3 => simp [bv] at h
  | 4 => simp [bv] at h
  | 5 => simp [bv] at h
  | j + 6 => simp at h
/-- A client lies in a block. -/
def CRep (tt : Nat) (w : World) (p : Nat) (c : Cl) : Prop := ∃ A k, w.heap[p]? = some (.cells (clC c A k) tt) ∧ Bs w (.slice A c.b.length k) c.b
theorem CRep.keep {tt : Nat} {w w' : World} {p : Nat} {c : Cl} (h : CRep tt w p c) (k : Keep w w') : CRep tt w' p c := by
  obtain ⟨A, n, h1, h2⟩ := h
  exact ⟨A, n, (k.frm fun _ => False).heap (fun h => h) h1, h2.keep k⟩
theorem CRep.frm {tt tu : Nat} {w w' : World} {p q : Nat} {c d : Cl} (h : CRep tt w p c) (F : Frm (· = q) w w') (hq : p ≠ q) (g : CRep tu w q d) : CRep tt w' p c := by
  obtain ⟨A, n, h1, h2⟩ := h
  obtain ⟨B, m, g1, -⟩ := g
  exact ⟨A, n, F.heap hq h1, h2.away F g1 (cl_noB d B m)⟩
theorem CRep.lt {tt : Nat} {w : World} {p : Nat} {c : Cl} (h : CRep tt w p c) : p < w.heap.size := by
  obtain ⟨A, n, h1, -⟩ := h
  exact (Array.getElem?_eq_some_iff.1 h1).1
def tickC (c : Cl) : Cl := if c.p = true then { c with n := c.n + 1 } else c
def tickO (c : Cl) : Option (List UInt8) := if c.p = true ∧ (c.n + 1) % 3 = 0 then some c.b else none
def restC (c : Cl) : Cl := { c with e := c.e + 1, s := 0, p := false }
/-- Bytes, or none, are answered; the client stands so. -/
def RetC (tt : Nat) (w : World) (p : Nat) (c : Cl) (o : Option (List UInt8)) (e : Ending) (w' : World) : Prop := Frm (· = p) w w' ∧ CRep tt w' p c ∧ match o with
  | none => e = .returned (.tuple #[.slice none 0 0, .bool false])
  | some l => ∃ A n k, e = .returned (.tuple #[.slice A n k, .bool true]) ∧ Bs w' (.slice A n k) l
theorem RetC.of {tt : Nat} {w w' : World} {p : Nat} {c c' : Cl} {o o' : Option (List UInt8)} {e : Ending} (hc : c = c') (ho : o = o') (r : RetC tt w p c' o' e w') : RetC tt w p c o e w' := hc ▸ ho ▸ r
def RetP (w : World) (c : Cl) (e : Ending) (w' : World) : Prop := Keep w w' ∧ e = .returned (.tuple #[if c.p = true then .agg #[.int .i64 (c.e : Int), .int .i64 (c.s : Int)] else .agg #[.int .i64 0, .int .i64 0], .bool c.p])
set_option maxHeartbeats 4000000 in
theorem cliPending (w : World) (p : Nat) (c : Cl) (h : CRep 103 w p c) : Calls Try.prog 39 #[.pointer (some ⟨p, 0, none⟩)] w (RetP w c) := by
  obtain ⟨A, k, hp, hb⟩ := h
  have hz := heap_alloc_new w (.cells #[.int .i64 0, .int .i64 0] 54)
  have HZ := hide hz
  clear hz
  obtain ⟨m, e, s, pd, b, n⟩ := c
  have HB := hide hb
  have HP := hide hp
  have c0 := top_cells hp 0
  have c1 := top_cells hp 1
  have c2 := top_cells hp 2
  have c3 := top_cells hp 3
  have c4 := top_cells hp 4
  have c5 := top_cells hp 5
  have f1 := top_free hp 1
  have f2 := top_free hp 2
  have f3 := top_free hp 3
  have f4 := top_free hp 4
  have f5 := top_free hp 5
  simp only [clC, List.getElem?_toArray, List.getElem?_cons_succ, List.getElem?_cons_zero] at c0 c1 c2 c3 c4 c5
  have hlt := (Array.getElem?_eq_some_iff.1 hp).1
  clear hp hb
  cases pd with
  | false =>
    go_enter Try.func39, Try.ntmps39
    go_wp2_with fail
    refine bodyPost_ret_by (results_cell2 rfl _ _ w.heap.size 54 _ (0, 0) _ rfl (by simpa using heap_alloc_new w _) Try.underlying54 rfl ?_) rfl ?_
    · kernel_rfl
    · exact ⟨(by repeat (first | exact Keep.rf _ | assumption | apply Keep.al | apply Keep.dr | apply Keep.dn)), rfl⟩
  | true =>
    go_enter Try.func39, Try.ntmps39
    go_wp2_with fail
    refine bodyPost_ret_by (results_cell2 rfl _ _ w.heap.size 54 _ (0, 0) _ rfl (by simpa using heap_alloc_new w _) Try.underlying54 rfl ?_) rfl ?_
    · kernel_rfl
    · exact ⟨(by repeat (first | exact Keep.rf _ | assumption | apply Keep.al | apply Keep.dr | apply Keep.dn)), rfl⟩
set_option maxHeartbeats 4000000 in
theorem cliRestart (w : World) (p : Nat) (c : Cl) (he : c.e < 1000000) (h : CRep 103 w p c) : Calls Try.prog 42 #[.pointer (some ⟨p, 0, none⟩)] w fun e w' => e = .returned (.tuple #[]) ∧ Frm (· = p) w w' ∧ CRep 103 w' p (restC c) := by
  obtain ⟨A, k, hp, hb⟩ := h
  obtain ⟨m, e, s, pd, b, n⟩ := c
  have HB := hide hb
  have HP := hide hp
  have c0 := top_cells hp 0
  have c1 := top_cells hp 1
  have c2 := top_cells hp 2
  have c3 := top_cells hp 3
  have c4 := top_cells hp 4
  have c5 := top_cells hp 5
  have f1 := top_free hp 1
  have f2 := top_free hp 2
  have f3 := top_free hp 3
  have f4 := top_free hp 4
  have f5 := top_free hp 5
  simp only [clC, List.getElem?_toArray, List.getElem?_cons_succ, List.getElem?_cons_zero] at c0 c1 c2 c3 c4 c5
  have hlt := (Array.getElem?_eq_some_iff.1 hp).1
  clear hp hb
  simp only at he
  go_enter Try.func42, Try.ntmps42
  go_wp2_with fail
  (try simp only [Exit.inBlock, Exit.then]); refine bodyPost_end (results_none rfl _ _ _) rfl ?_
  exact ⟨rfl, Frm.st (S := (· = p)) (p := ⟨p, 3, none⟩) (Frm.st (S := (· = p)) (p := ⟨p, 2, none⟩) (Frm.st (S := (· = p)) (p := ⟨p, 1, none⟩) (Frm.rf _ _) (.inl rfl) _) (.inl rfl) _) (.inl rfl) _, A, k, heap_setT (j := 3) (heap_setT (j := 2) (heap_setT (j := 1) HP.out _) _) _, HB.out.away (Frm.st (S := (· = p)) (p := ⟨p, 3, none⟩) (Frm.st (S := (· = p)) (p := ⟨p, 2, none⟩) (Frm.st (S := (· = p)) (p := ⟨p, 1, none⟩) (Frm.rf _ _) (.inl rfl) _) (.inl rfl) _) (.inl rfl) _) HP.out (cl_noB _ A k)⟩
set_option maxHeartbeats 4000000 in
theorem cliTick (w : World) (p : Nat) (c : Cl) (hn : c.n < 1000000) (hbl : c.b.length ≤ 1000000) (h : CRep 103 w p c) : Calls Try.prog 35 #[.pointer (some ⟨p, 0, none⟩)] w (RetC 103 w p (tickC c) (tickO c)) := by
  obtain ⟨A, k, hp, hb⟩ := h
  obtain ⟨m, e, s, pd, b, n⟩ := c
  have HB := hide hb
  have HP := hide hp
  have c0 := top_cells hp 0
  have c1 := top_cells hp 1
  have c2 := top_cells hp 2
  have c3 := top_cells hp 3
  have c4 := top_cells hp 4
  have c5 := top_cells hp 5
  have f1 := top_free hp 1
  have f2 := top_free hp 2
  have f3 := top_free hp 3
  have f4 := top_free hp 4
  have f5 := top_free hp 5
  simp only [clC, List.getElem?_toArray, List.getElem?_cons_succ, List.getElem?_cons_zero] at c0 c1 c2 c3 c4 c5
  have hlt := (Array.getElem?_eq_some_iff.1 hp).1
  clear hp hb
  simp only at hn hbl HB
  cases pd with
  | false =>
    go_enter Try.func35, Try.ntmps35
    go_wp2_with fail
    go_ret2
    exact ⟨Frm.rf _ _, ⟨A, k, HP.out, HB.out⟩, rfl⟩
  | true =>
    have F5 : Frm (· = p) w (w.setCell ⟨p, 5, none⟩ (.int .i64 ((n : Int) + 1))) := Frm.st (S := (· = p)) (p := ⟨p, 5, none⟩) (Frm.rf _ _) (.inl rfl) _
    have hp5 : (w.setCell ⟨p, 5, none⟩ (.int .i64 ((n : Int) + 1))).heap[p]? = some (.cells (clC { m := m, e := e, s := s, p := true, b := b, n := n + 1 } A k) 103) := heap_setT (j := 5) HP.out _
    have hb5 := HB.out.away F5 HP.out (cl_noB _ A k)
    have HF5 := hide F5
    have HP5 := hide hp5
    have HB5 := hide hb5
    clear F5 hp5 hb5
    by_cases hm3 : (n + 1) % 3 = 0
    · have hmod : (((n : Int) + 1) % 3 != 0) = false := by simp; omega
      have HM := hide hm3
      clear hm3
      go_enter Try.func35, Try.ntmps35
      go_wp2_with fail
      refine (bytesClone _ b _ HB5.out hbl).mono ?_
      rintro x w6 ⟨r6, rfl, o6, k6⟩
      have hob := hide o6.bs
      have HK6 := hide k6
      obtain ⟨A6, c6, rfl⟩ := o6.slice
      clear o6 k6
      go_wp2_with fail
      go_ret2
      refine RetC.of (show tickC _ = ({ m := m, e := e, s := s, p := true, b := b, n := n + 1 } : Cl) from if_pos rfl) (show tickO _ = some b from if_pos ⟨rfl, HM.out⟩) ⟨HF5.out.tr (HK6.out.frm _), ?_, A6, _, c6, rfl, hob.out⟩
      exact CRep.keep ⟨A, k, HP5.out, HB5.out⟩ HK6.out
    · have hmod : (((n : Int) + 1) % 3 != 0) = true := by simp; omega
      have HM := hide hm3
      clear hm3
      go_enter Try.func35, Try.ntmps35
      go_wp2_with fail
      go_ret2
      exact RetC.of (by simp [tickC]) (show tickO _ = none from if_neg fun h => HM.out h.2) ⟨HF5.out, ⟨A, k, HP5.out, HB5.out⟩, rfl⟩
set_option maxHeartbeats 4000000 in
theorem ref26Pending (w : World) (p : Nat) (c : Cl) (h : CRep 67 w p c) : Calls Try.prog 46 #[.pointer (some ⟨p, 0, none⟩)] w (RetP w c) := by
  obtain ⟨A, k, hp, hb⟩ := h
  have hz := heap_alloc_new w (.cells #[.int .i64 0, .int .i64 0] 54)
  have HZ := hide hz
  clear hz
  obtain ⟨m, e, s, pd, b, n⟩ := c
  have HB := hide hb
  have HP := hide hp
  have c0 := top_cells hp 0
  have c1 := top_cells hp 1
  have c2 := top_cells hp 2
  have c3 := top_cells hp 3
  have c4 := top_cells hp 4
  have c5 := top_cells hp 5
  have f1 := top_free hp 1
  have f2 := top_free hp 2
  have f3 := top_free hp 3
  have f4 := top_free hp 4
  have f5 := top_free hp 5
  simp only [clC, List.getElem?_toArray, List.getElem?_cons_succ, List.getElem?_cons_zero] at c0 c1 c2 c3 c4 c5
  have hlt := (Array.getElem?_eq_some_iff.1 hp).1
  clear hp hb
  cases pd with
  | false =>
    go_enter Try.func46, Try.ntmps46
    go_wp2_with fail
    refine bodyPost_ret_by (results_cell2 rfl _ _ w.heap.size 54 _ (0, 0) _ rfl (by simpa using heap_alloc_new w _) Try.underlying54 rfl ?_) rfl ?_
    · kernel_rfl
    · exact ⟨(by repeat (first | exact Keep.rf _ | assumption | apply Keep.al | apply Keep.dr | apply Keep.dn)), rfl⟩
  | true =>
    go_enter Try.func46, Try.ntmps46
    go_wp2_with fail
    refine bodyPost_ret_by (results_cell2 rfl _ _ w.heap.size 54 _ (0, 0) _ rfl (by simpa using heap_alloc_new w _) Try.underlying54 rfl ?_) rfl ?_
    · kernel_rfl
    · exact ⟨(by repeat (first | exact Keep.rf _ | assumption | apply Keep.al | apply Keep.dr | apply Keep.dn)), rfl⟩
set_option maxHeartbeats 4000000 in
theorem ref26Restart (w : World) (p : Nat) (c : Cl) (he : c.e < 1000000) (h : CRep 67 w p c) : Calls Try.prog 43 #[.pointer (some ⟨p, 0, none⟩)] w fun e w' => e = .returned (.tuple #[]) ∧ Frm (· = p) w w' ∧ CRep 67 w' p (restC c) := by
  obtain ⟨A, k, hp, hb⟩ := h
  obtain ⟨m, e, s, pd, b, n⟩ := c
  have HB := hide hb
  have HP := hide hp
  have c0 := top_cells hp 0
  have c1 := top_cells hp 1
  have c2 := top_cells hp 2
  have c3 := top_cells hp 3
  have c4 := top_cells hp 4
  have c5 := top_cells hp 5
  have f1 := top_free hp 1
  have f2 := top_free hp 2
  have f3 := top_free hp 3
  have f4 := top_free hp 4
  have f5 := top_free hp 5
  simp only [clC, List.getElem?_toArray, List.getElem?_cons_succ, List.getElem?_cons_zero] at c0 c1 c2 c3 c4 c5
  have hlt := (Array.getElem?_eq_some_iff.1 hp).1
  clear hp hb
  simp only at he
  go_enter Try.func43, Try.ntmps43
  go_wp2_with fail
  (try simp only [Exit.inBlock, Exit.then]); refine bodyPost_end (results_none rfl _ _ _) rfl ?_
  exact ⟨rfl, Frm.st (S := (· = p)) (p := ⟨p, 3, none⟩) (Frm.st (S := (· = p)) (p := ⟨p, 2, none⟩) (Frm.st (S := (· = p)) (p := ⟨p, 1, none⟩) (Frm.rf _ _) (.inl rfl) _) (.inl rfl) _) (.inl rfl) _, A, k, heap_setT (j := 3) (heap_setT (j := 2) (heap_setT (j := 1) HP.out _) _) _, HB.out.away (Frm.st (S := (· = p)) (p := ⟨p, 3, none⟩) (Frm.st (S := (· = p)) (p := ⟨p, 2, none⟩) (Frm.st (S := (· = p)) (p := ⟨p, 1, none⟩) (Frm.rf _ _) (.inl rfl) _) (.inl rfl) _) (.inl rfl) _) HP.out (cl_noB _ A k)⟩
set_option maxHeartbeats 4000000 in
theorem ref26Tick (w : World) (p : Nat) (c : Cl) (hn : c.n < 1000000) (hbl : c.b.length ≤ 1000000) (h : CRep 67 w p c) : Calls Try.prog 41 #[.pointer (some ⟨p, 0, none⟩)] w (RetC 67 w p (tickC c) (tickO c)) := by
  obtain ⟨A, k, hp, hb⟩ := h
  obtain ⟨m, e, s, pd, b, n⟩ := c
  have HB := hide hb
  have HP := hide hp
  have c0 := top_cells hp 0
  have c1 := top_cells hp 1
  have c2 := top_cells hp 2
  have c3 := top_cells hp 3
  have c4 := top_cells hp 4
  have c5 := top_cells hp 5
  have f1 := top_free hp 1
  have f2 := top_free hp 2
  have f3 := top_free hp 3
  have f4 := top_free hp 4
  have f5 := top_free hp 5
  simp only [clC, List.getElem?_toArray, List.getElem?_cons_succ, List.getElem?_cons_zero] at c0 c1 c2 c3 c4 c5
  have hlt := (Array.getElem?_eq_some_iff.1 hp).1
  clear hp hb
  simp only at hn hbl HB
  cases pd with
  | false =>
    go_enter Try.func41, Try.ntmps41
    go_wp2_with fail
    go_ret2
    exact ⟨Frm.rf _ _, ⟨A, k, HP.out, HB.out⟩, rfl⟩
  | true =>
    have F5 : Frm (· = p) w (w.setCell ⟨p, 5, none⟩ (.int .i64 ((n : Int) + 1))) := Frm.st (S := (· = p)) (p := ⟨p, 5, none⟩) (Frm.rf _ _) (.inl rfl) _
    have hp5 : (w.setCell ⟨p, 5, none⟩ (.int .i64 ((n : Int) + 1))).heap[p]? = some (.cells (clC { m := m, e := e, s := s, p := true, b := b, n := n + 1 } A k) 67) := heap_setT (j := 5) HP.out _
    have hb5 := HB.out.away F5 HP.out (cl_noB _ A k)
    have HF5 := hide F5
    have HP5 := hide hp5
    have HB5 := hide hb5
    clear F5 hp5 hb5
    by_cases hm3 : (n + 1) % 3 = 0
    · have hmod : (((n : Int) + 1) % 3 != 0) = false := by simp; omega
      have HM := hide hm3
      clear hm3
      go_enter Try.func41, Try.ntmps41
      go_wp2_with fail
      go_ret2
      exact RetC.of (by simp [tickC]) (show tickO _ = some b from if_pos ⟨rfl, HM.out⟩) ⟨HF5.out, ⟨A, k, HP5.out, HB5.out⟩, A, _, k, rfl, HB5.out⟩
    · have hmod : (((n : Int) + 1) % 3 != 0) = true := by simp; omega
      have HM := hide hm3
      clear hm3
      go_enter Try.func41, Try.ntmps41
      go_wp2_with fail
      go_ret2
      exact RetC.of (by simp [tickC]) (show tickO _ = none from if_neg fun h => HM.out h.2) ⟨HF5.out, ⟨A, k, HP5.out, HB5.out⟩, rfl⟩
end Go.Proofs.Ytcbkklfdeloeeaa
