/- Walks: a reply (package server). -/
import Derived.Test.YtcbkklfdeloeeaaCliF
namespace Go.Proofs.Ytcbkklfdeloeeaa
open Go.RowKit
set_option linter.unusedVariables false
set_option maxRecDepth 100000
/-- What Answer answers. -/
def RetA (w : World) (o : Option ((Nat × Nat) × Nat × List UInt8)) (e : Ending) (w' : World) : Prop := Keep w w' ∧ match o with
  | none => e = .returned (.tuple #[.agg #[.int .i64 0, .int .i64 0, .int .i64 0, .slice none 0 0], .bool false])
  | some ((a, b), c, r) => ∃ A n m, e = .returned (.tuple #[.agg #[.int .i64 (a : Int), .int .i64 (b : Int), .int .i64 (c : Int), .slice A n m], .bool true]) ∧ Bs w' (.slice A n m) r
theorem RetA.of {w w' : World} {o o' : Option ((Nat × Nat) × Nat × List UInt8)} {e : Ending} (h : o = o') (x : RetA w o' e w') : RetA w o e w' := h ▸ x
theorem ansIf_yes {a b c : Nat} {r : List UInt8} (h : c = 0 ∨ r = []) : ansIf a b c r = some ((a, b), c, r) := if_pos h
theorem ansIf_no {a b c : Nat} {r : List UInt8} (h : ¬ (c = 0 ∨ r = [])) : ansIf a b c r = none := if_neg h
theorem heap_set4 {w : World} {b : Nat} {x y z q : Value} {ty : TypeId} (h : w.heap[b]? = some (.cells #[x, y, z, q] ty)) (u v t s : Value) : ((((w.setCell ⟨b, 0, none⟩ u).setCell ⟨b, 1, none⟩ v).setCell ⟨b, 2, none⟩ t).setCell ⟨b, 3, none⟩ s).heap[b]? = some (.cells #[u, v, t, s] ty) := heap_setT (j := 3) (heap_setT (j := 2) (heap_setT (j := 1) (heap_setT (j := 0) h u) v) t) s
theorem frm_set4 (w : World) (b : Nat) (u v t s : Value) : Frm (· = b) w ((((w.setCell ⟨b, 0, none⟩ u).setCell ⟨b, 1, none⟩ v).setCell ⟨b, 2, none⟩ t).setCell ⟨b, 3, none⟩ s) :=
  Frm.st (S := (· = b)) (p := ⟨b, 3, none⟩) (frm_set3 w b u v t) (.inl rfl) _
theorem heap_al {w : World} {k : Nat} {o : Obj} (h : w.heap[k]? = some o) (o' : Obj) : (w.alloc o').heap[k]? = some o := ((Keep.al (Keep.rf w) o').frm fun _ => False).heap (fun h => h) h
theorem cntT_len {most : Nat} {st : Option (List UInt8)} {r : List UInt8} (h : cntT most st = some r) : ∃ l, st = some l ∧ r.length ≤ l.length := by
  cases st with
  | none => cases h
  | some l =>
    refine ⟨l, rfl, ?_⟩
    unfold cntT cntM at h
    simp only [Option.bind_some, numM] at h
    cases hg : Em.getN l with
    | none => rw [hg] at h; cases h
    | some y =>
      obtain ⟨v, n⟩ := y
      rw [hg] at h
      by_cases hv : v ≤ most
      · simp [hv] at h
        rw [← h, List.length_drop]
        omega
      · simp [hv] at h
set_option maxHeartbeats 16000000 in
theorem srvAnswer (v : Value) (l : List UInt8) (w : World) (h : Bs w v l) (hl : l.length ≤ 1000000) : Calls Try.prog 81 #[v] w (RetA w (Em.ans l)) := by
  have HAP := hide (show Em.ans l = _ from ans_parts (Em.whole 2 l))
  have HWH := hide fun W (k : Keep w W) => srvWhole 2 v l W (h.keep k)
  have HBL : Hid (∀ b, Em.whole 2 l = some b → b.length ≤ 1000000) := by
    show ∀ b, Em.whole 2 l = some b → b.length ≤ 1000000
    intro b hb
    unfold Em.whole at hb
    cases hg : Em.getF l with
    | none => rw [hg] at hb; cases hb
    | some y =>
      obtain ⟨k', b', n⟩ := y
      rw [hg] at hb
      have := (Em.getF_some hg).2.2
      simp only at hb
      split at hb
      · injection hb with hb
        subst hb
        omega
      · cases hb
  have HBR : Hid (∀ r, cntT 12 (cntT 2147483647 (cntT 2147483647 (Em.whole 2 l))) = some r → r.length ≤ 1000000) := by
    show ∀ r, cntT 12 (cntT 2147483647 (cntT 2147483647 (Em.whole 2 l))) = some r → r.length ≤ 1000000
    intro r hr
    obtain ⟨l1, h1, g1⟩ := cntT_len hr
    obtain ⟨l2, h2, g2⟩ := cntT_len h1
    obtain ⟨l3, h3, g3⟩ := cntT_len h2
    have := HBL.out l3 h3
    omega
  clear HBL
  obtain ⟨A, c, rfl, hlc, hcm, hr⟩ := h
  clear hr
  go_enter Try.func81, Try.ntmps81
  go_wp2_with fail
  have hz := heap_alloc_new w (.cells #[.int .i64 0, .int .i64 0, .int .i64 0, .slice none 0 0] 57)
  have k1 : Keep w (w.alloc (.cells #[.int .i64 0, .int .i64 0, .int .i64 0, .slice none 0 0] 57)) := (by repeat (first | exact Keep.rf _ | assumption | apply Keep.al | apply Keep.dr | apply Keep.dn))
  generalize World.alloc w _ = W1 at *
  refine (HWH.out _ k1).mono ?_
  rintro e w2 ⟨p, w0, rfl, k10, hp0, k02, hst⟩
  have kA := Keep.tr (Keep.tr k1 k10) k02
  have hz2 := ((Keep.tr k10 k02).frm fun _ => False).heap (fun h => h) hz
  have hlt1 := (Array.getElem?_eq_some_iff.1 hz).1
  have hs1 := k10.size
  have hwp : w.heap.size < p := by omega
  generalize Em.whole 2 l = st at *
  have HC := hide (srvCall w0 w2 p st k02 hp0 hst)
  have HN := hide fun W (k : Keep w0 W) h => srvNum w0 W p 12 (cntT 2147483647 (cntT 2147483647 st)) (by omega) k h
  have hc12 := hide (cntW_le 12 (cntT 2147483647 (cntT 2147483647 st)))
  clear HWH hst
  generalize cntT 12 (cntT 2147483647 (cntT 2147483647 st)) = st4 at *
  generalize cntW 12 (cntT 2147483647 (cntT 2147483647 st)) = c4 at *
  generalize cntT 2147483647 (cntT 2147483647 st) = st3 at *
  generalize cntW 2147483647 (cntT 2147483647 st) = b4 at *
  generalize cntW 2147483647 st = a4 at *
  go_wp2_with fail
  refine HC.out.mono ?_
  rintro e w3 ⟨rfl, hst3, hF3⟩
  have k03 : Keep w0 w3 := Frm.keep k02 hF3 fun i e => by have e : i = p := e; omega
  have hz3 := hF3.heap (fun e => by have e : w.heap.size = p := e; omega) hz2
  have kA3 : Keep w w3 := Frm.keep kA hF3 fun i e => by have e : i = p := e; omega
  have HN4 := hide (HN.out w3 k03 hst3)
  clear HN HC hst3 hF3 hz2 hz
  go_wp2_with fail
  refine HN4.out.mono ?_
  rintro e w4 ⟨rfl, hst4, hF4⟩
  have k04 : Keep w0 w4 := Frm.keep k03 hF4 fun i e => by have e : i = p := e; omega
  have hz4 := hF4.heap (fun e => by have e : w.heap.size = p := e; omega) hz3
  have kA4 : Keep w w4 := Frm.keep kA3 hF4 fun i e => by have e : i = p := e; omega
  have hlt4 := (Array.getElem?_eq_some_iff.1 hz4).1
  have hp4 := hst4.lt
  clear HN4 hF4 hz3 k02 k03 k10 k1 kA kA3 hs1 hlt1
  have HC12 := hc12.out
  cases st4 with
  | none =>
    have hc1 := hst4.cell1
    have y0 := top_cells hz4 0
    have y1 := top_cells hz4 1
    have y2 := top_cells hz4 2
    have y3 := top_cells hz4 3
    have z0 := top_free hz4 0
    have z1 := top_free hz4 1
    have z2 := top_free hz4 2
    have z3 := top_free hz4 3
    simp only [List.getElem?_toArray, List.getElem?_cons_succ, List.getElem?_cons_zero] at y0 y1 y2 y3
    simp only [Option.isSome_none] at hc1
    have HZ4 := hide hz4
    have HK4 := hide kA4
    clear hst4 hz4 kA4 HBR
    go_wp2_with fail
    refine bodyPost_ret_by (results_cell2 rfl _ _ w.heap.size 57 _ (0, 0) _ rfl (heap_al (heap_set4 HZ4.out _ _ _ _) _) Try.underlying57 rfl ?_) rfl ?_
    · kernel_rfl
    · exact RetA.of HAP.out ⟨Keep.al (Frm.keep HK4.out (frm_set4 _ _ _ _ _ _) fun i e => by have e : i = w.heap.size := e; omega) _, rfl⟩
  | some r =>
    have HR := hide (HBR.out r rfl)
    clear HBR
    obtain ⟨A5, c5, hb5, hp5⟩ := hst4
    have hc0 := top_cells hp5 0
    have hc1 := top_cells hp5 1
    have y0 := top_cells hz4 0
    have y1 := top_cells hz4 1
    have y2 := top_cells hz4 2
    have y3 := top_cells hz4 3
    have z0 := top_free hz4 0
    have z1 := top_free hz4 1
    have z2 := top_free hz4 2
    have z3 := top_free hz4 3
    simp only [List.getElem?_toArray, List.getElem?_cons_succ, List.getElem?_cons_zero] at y0 y1 y2 y3 hc0 hc1
    have hb5' := hide (hb5.keep k04)
    have HZ4 := hide hz4
    have HK4 := hide kA4
    clear hz4 kA4 hb5 hp5
    by_cases h0 : c4 = 0
    · subst h0
      clear HC12 hc12
      go_wp2_with fail
      have hn := heap_alloc_new w4 (.cells #[.int .i64 (a4 : Int), .int .i64 (b4 : Int), .int .i64 ((0 : Nat) : Int), .slice none 0 0] 57)
      have hz5 := heap_al HZ4.out (.cells #[.int .i64 (a4 : Int), .int .i64 (b4 : Int), .int .i64 ((0 : Nat) : Int), .slice none 0 0] 57)
      have k5 := Keep.al HK4.out (.cells #[.int .i64 (a4 : Int), .int .i64 (b4 : Int), .int .i64 ((0 : Nat) : Int), .slice none 0 0] 57)
      have b5 := (hb5'.out).keep (Keep.al (Keep.rf w4) (.cells #[.int .i64 (a4 : Int), .int .i64 (b4 : Int), .int .i64 ((0 : Nat) : Int), .slice none 0 0] 57))
      have hs5 := (Array.getElem?_eq_some_iff.1 hn).1
      generalize World.alloc w4 _ = w5 at *
      refine (bytesClone _ r _ b5 HR.out).mono ?_
      rintro e w6 ⟨r6, rfl, o6, k6⟩
      have hn6 := (k6.frm fun _ => False).heap (fun h => h) hn
      have hz6 := (k6.frm fun _ => False).heap (fun h => h) hz5
      have k06 := Keep.tr k5 k6
      obtain ⟨A6, c6, rfl⟩ := o6.slice
      have ob6 := o6
      have x0 := top_cells hn6 0
      have x1 := top_cells hn6 1
      have x2 := top_cells hn6 2
      have x3 := top_cells hn6 3
      have f0 := top_free hn6 0
      have f1 := top_free hn6 1
      have f2 := top_free hn6 2
      have f3 := top_free hn6 3
      have y0 := top_cells hz6 0
      have y1 := top_cells hz6 1
      have y2 := top_cells hz6 2
      have y3 := top_cells hz6 3
      have z0 := top_free hz6 0
      have z1 := top_free hz6 1
      have z2 := top_free hz6 2
      have z3 := top_free hz6 3
      simp only [List.getElem?_toArray, List.getElem?_cons_succ, List.getElem?_cons_zero] at x0 x1 x2 x3 y0 y1 y2 y3
      have hne : w4.heap.size ≠ w.heap.size := by omega
      have HN6 := hide hn6
      have HZ6 := hide hz6
      have HK6 := hide k06
      have HO6 := hide ob6
      have hlt6 := (Array.getElem?_eq_some_iff.1 hn6).1
      clear hn hz5 k5 b5 hn6 hz6 k06 ob6 o6 k6
      go_wp2_with fail
      refine bodyPost_ret_by (results_cell2 rfl _ _ w.heap.size 57 _ (0, 0) _ rfl (heap_set4 (heap_skip HZ6.out hne _) _ _ _ _) Try.underlying57 rfl ?_) rfl ?_
      · kernel_rfl
      · refine RetA.of (HAP.out.trans (ansIf_yes (.inl rfl))) ⟨?_, _, _, _, rfl, ?_⟩
        · exact Frm.keep (Frm.keep HK6.out (Frm.st (S := (· = w4.heap.size)) (p := ⟨w4.heap.size, 3, none⟩) (Frm.rf _ _) (.inl rfl) _) fun i e => by have e : i = w4.heap.size := e; omega) (frm_set4 _ _ _ _ _ _) fun i e => by have e : i = w.heap.size := e; omega
        · exact Ob.bs (Frm.own (S := fun k => k < w5.heap.size) (Frm.tr (Frm.st (S := fun k => k < w5.heap.size) (p := ⟨w4.heap.size, 3, none⟩) (Frm.rf _ _) (.inl hs5) _) ((frm_set4 _ _ _ _ _ _).mono fun k _ e => by have e : k = w.heap.size := e; show k < w5.heap.size; omega)) (show World.ownsRow _ _ _ _ _ _ _ from HO6.out) fun k hk (e : k < w5.heap.size) => by have := (World.ownsRow.lt (show World.ownsRow _ _ _ _ _ _ _ from HO6.out) k hk).1; omega)
    · have hne0 : ((c4 : Int) == 0) = false := beq_false_of_ne (by omega)
      by_cases hr0 : r.length = 0
      · have hgt : decide (0 < r.length) = false := decide_eq_false (by omega)
        have hbang : ((c4 : Int) != 0) = true := by simp; omega
        have hri := hide (List.eq_nil_of_length_eq_zero hr0)
        clear hr0
        go_wp2_with fail
        have hn := heap_alloc_new w4 (.cells #[.int .i64 (a4 : Int), .int .i64 (b4 : Int), .int .i64 (c4 : Int), .slice none 0 0] 57)
        have hz5 := heap_al HZ4.out (.cells #[.int .i64 (a4 : Int), .int .i64 (b4 : Int), .int .i64 (c4 : Int), .slice none 0 0] 57)
        have k5 := Keep.al HK4.out (.cells #[.int .i64 (a4 : Int), .int .i64 (b4 : Int), .int .i64 (c4 : Int), .slice none 0 0] 57)
        have b5 := (hb5'.out).keep (Keep.al (Keep.rf w4) (.cells #[.int .i64 (a4 : Int), .int .i64 (b4 : Int), .int .i64 (c4 : Int), .slice none 0 0] 57))
        have hs5 := (Array.getElem?_eq_some_iff.1 hn).1
        generalize World.alloc w4 _ = w5 at *
        refine (bytesClone _ r _ b5 HR.out).mono ?_
        rintro e w6 ⟨r6, rfl, o6, k6⟩
        have hn6 := (k6.frm fun _ => False).heap (fun h => h) hn
        have hz6 := (k6.frm fun _ => False).heap (fun h => h) hz5
        have k06 := Keep.tr k5 k6
        obtain ⟨A6, c6, rfl⟩ := o6.slice
        have ob6 := o6
        have x0 := top_cells hn6 0
        have x1 := top_cells hn6 1
        have x2 := top_cells hn6 2
        have x3 := top_cells hn6 3
        have f0 := top_free hn6 0
        have f1 := top_free hn6 1
        have f2 := top_free hn6 2
        have f3 := top_free hn6 3
        have y0 := top_cells hz6 0
        have y1 := top_cells hz6 1
        have y2 := top_cells hz6 2
        have y3 := top_cells hz6 3
        have z0 := top_free hz6 0
        have z1 := top_free hz6 1
        have z2 := top_free hz6 2
        have z3 := top_free hz6 3
        simp only [List.getElem?_toArray, List.getElem?_cons_succ, List.getElem?_cons_zero] at x0 x1 x2 x3 y0 y1 y2 y3
        have hne : w4.heap.size ≠ w.heap.size := by omega
        have HN6 := hide hn6
        have HZ6 := hide hz6
        have HK6 := hide k06
        have HO6 := hide ob6
        have hlt6 := (Array.getElem?_eq_some_iff.1 hn6).1
        clear hn hz5 k5 b5 hn6 hz6 k06 ob6 o6 k6
        go_wp2_with fail
        refine bodyPost_ret_by (results_cell2 rfl _ _ w.heap.size 57 _ (0, 0) _ rfl (heap_set4 (heap_skip HZ6.out hne _) _ _ _ _) Try.underlying57 rfl ?_) rfl ?_
        · kernel_rfl
        · refine RetA.of (HAP.out.trans (ansIf_yes (.inr hri.out))) ⟨?_, _, _, _, rfl, ?_⟩
          · exact Frm.keep (Frm.keep HK6.out (Frm.st (S := (· = w4.heap.size)) (p := ⟨w4.heap.size, 3, none⟩) (Frm.rf _ _) (.inl rfl) _) fun i e => by have e : i = w4.heap.size := e; omega) (frm_set4 _ _ _ _ _ _) fun i e => by have e : i = w.heap.size := e; omega
          · exact Ob.bs (Frm.own (S := fun k => k < w5.heap.size) (Frm.tr (Frm.st (S := fun k => k < w5.heap.size) (p := ⟨w4.heap.size, 3, none⟩) (Frm.rf _ _) (.inl hs5) _) ((frm_set4 _ _ _ _ _ _).mono fun k _ e => by have e : k = w.heap.size := e; show k < w5.heap.size; omega)) (show World.ownsRow _ _ _ _ _ _ _ from HO6.out) fun k hk (e : k < w5.heap.size) => by have := (World.ownsRow.lt (show World.ownsRow _ _ _ _ _ _ _ from HO6.out) k hk).1; omega)
      · have hgt : 0 < r.length := by omega
        have hri := hide (show ¬ (c4 = 0 ∨ r = []) from fun h => h.elim h0 fun h => hr0 (by rw [h]; rfl))
        clear hr0
        go_wp2_with fail
        refine bodyPost_ret_by (results_cell2 rfl _ _ w.heap.size 57 _ (0, 0) _ rfl (heap_al (heap_set4 HZ4.out _ _ _ _) _) Try.underlying57 rfl ?_) rfl ?_
        · kernel_rfl
        · exact RetA.of (HAP.out.trans (ansIf_no hri.out)) ⟨Keep.al (Frm.keep HK4.out (frm_set4 _ _ _ _ _ _) fun i e => by have e : i = w.heap.size := e; omega) _, rfl⟩
end Go.Proofs.Ytcbkklfdeloeeaa
