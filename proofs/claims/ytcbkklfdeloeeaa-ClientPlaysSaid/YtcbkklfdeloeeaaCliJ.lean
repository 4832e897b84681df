/- Walks: a reply (reference of server). -/
import Derived.Test.YtcbkklfdeloeeaaCliI
namespace Go.Proofs.Ytcbkklfdeloeeaa
open Go.RowKit
set_option linter.unusedVariables false
set_option maxRecDepth 100000
/-- A reply out of a body and the number behind it. -/
def ansX (c : Nat × Nat) (ok : Bool) (e : Nat) (q : List UInt8) (is : Bool) : Option ((Nat × Nat) × Nat × List UInt8) := if ok = true ∧ is = true ∧ e ≤ 12 ∧ (e = 0 ∨ q.length = 0) then some (c, e, q) else none
theorem ansX_eq (st : Option (List UInt8)) : st.bind Em.ansB = ansX (bdX st).1 (bdX st).2.2 (nV (bdX st).2.1) (nR (bdX st).2.1) (nB (bdX st).2.1) := by
  cases st with
  | none => rfl
  | some l =>
    unfold bdX Em.ansB Em.callR ansX nV nR nB nX
    simp only [Option.bind_some, numM_31]
    cases h1 : numM 2147483647 l with
    | none => simp
    | some x =>
      simp only [Option.bind_some, Option.map_some, Option.getD_some]
      cases h2 : numM 2147483647 x.2 with
      | none => simp
      | some y =>
        simp only [Option.bind_some, Option.map_some, Option.getD_some]
        cases h3 : numM 2147483647 y.2 with
        | none => simp
        | some z =>
          simp [List.length_eq_zero_iff]
theorem ansX_no {c : Nat × Nat} {ok : Bool} {e : Nat} {q : List UInt8} {is : Bool} (h : ¬ (ok = true ∧ is = true ∧ e ≤ 12 ∧ (e = 0 ∨ q.length = 0))) : ansX c ok e q is = none := if_neg h
theorem ansX_yes {c : Nat × Nat} {ok : Bool} {e : Nat} {q : List UInt8} {is : Bool} (h : ok = true ∧ is = true ∧ e ≤ 12 ∧ (e = 0 ∨ q.length = 0)) : ansX c ok e q is = some (c, e, q) := if_pos h
set_option maxHeartbeats 16000000 in
theorem ref5Answer (v : Value) (l : List UInt8) (w : World) (h : Bs w v l) : Calls Try.prog 83 #[v] w (RetA w (Em.ans l)) := by
  have HA0 : Hid (Em.ans l = _) := hide (ansX_eq (Em.whole 2 l))
  have hz := heap_alloc_new w (.cells #[.int .i64 0, .int .i64 0, .int .i64 0, .slice none 0 0] 57)
  have k1 : Keep w (w.alloc (.cells #[.int .i64 0, .int .i64 0, .int .i64 0, .slice none 0 0] 57)) := (by repeat (first | exact Keep.rf _ | assumption | apply Keep.al | apply Keep.dr | apply Keep.dn))
  have HBD := hide (ref5Body 2 v l _ (h.keep k1))
  obtain ⟨A, c, rfl, hlc, hcm, hr⟩ := h
  clear hr
  generalize bdX (Em.whole 2 l) = bd at *
  obtain ⟨⟨ca, cb⟩, p, ok⟩ := bd
  go_enter Try.func83, Try.ntmps83
  go_wp2_with fail
  generalize World.alloc w _ = W1 at *
  refine HBD.out.mono ?_
  rintro e w1 ⟨k12, A1, c1, rfl, hb1⟩
  have hz1 := (k12.frm fun _ => False).heap (fun h => h) hz
  have kw1 := Keep.tr k1 k12
  simp only at hb1 HA0
  clear HBD k12 k1 hz
  go_wp2_with fail
  have hn1 := heap_alloc_new w1 (.cells #[.int .i64 (ca : Int), .int .i64 (cb : Int)] 54)
  have hz2 := heap_al hz1 (.cells #[.int .i64 (ca : Int), .int .i64 (cb : Int)] 54)
  have kw2 := Keep.al kw1 (.cells #[.int .i64 (ca : Int), .int .i64 (cb : Int)] 54)
  have hb2 := hb1.keep (Keep.al (Keep.rf w1) (.cells #[.int .i64 (ca : Int), .int .i64 (cb : Int)] 54))
  have hlt1 := (Array.getElem?_eq_some_iff.1 hz1).1
  generalize World.alloc w1 _ = w2 at *
  refine (ref5Num _ _ w2 hb2).mono ?_
  rintro e w3 ⟨k23, A3, c3, rfl, hb3⟩
  have hn3 := (k23.frm fun _ => False).heap (fun h => h) hn1
  have hz3 := (k23.frm fun _ => False).heap (fun h => h) hz2
  have kw3 := Keep.tr kw2 k23
  have x0 := top_cells hn3 0
  have x1 := top_cells hn3 1
  have y0 := top_cells hz3 0
  have y1 := top_cells hz3 1
  have y2 := top_cells hz3 2
  have y3 := top_cells hz3 3
  have z0 := top_free hz3 0
  have z1 := top_free hz3 1
  have z2 := top_free hz3 2
  have z3 := top_free hz3 3
  simp only [List.getElem?_toArray, List.getElem?_cons_succ, List.getElem?_cons_zero] at x0 x1 y0 y1 y2 y3
  have HZ := hide hz3
  have HK := hide kw3
  have HB := hide (hb3.keep k23)
  have hlt3 := (Array.getElem?_eq_some_iff.1 hz3).1
  have hne : w1.heap.size ≠ w.heap.size := by omega
  generalize nV p = e4 at *
  generalize nB p = is4 at *
  generalize nR p = q at *
  have HA := hide fun o (h : ansX (ca, cb) ok e4 q is4 = o) => (HA0.out.trans h : Em.ans l = o)
  clear hn1 hn3 hz1 hz2 hz3 kw1 kw2 kw3 hb1 hb2 hb3 k23 HA0
  cases ok with
  | false =>
    go_wp2_with fail
    refine bodyPost_ret_by (results_cell2 rfl _ _ w.heap.size 57 _ (0, 0) _ rfl (heap_set4 HZ.out _ _ _ _) Try.underlying57 rfl ?_) rfl ?_
    · kernel_rfl
    · exact RetA.of (HA.out _ (ansX_no (by simp))) ⟨Frm.keep HK.out (frm_set4 _ _ _ _ _ _) fun i e => by have e : i = w.heap.size := e; omega, rfl⟩
  | true =>
    cases is4 with
    | false =>
      go_wp2_with fail
      refine bodyPost_ret_by (results_cell2 rfl _ _ w.heap.size 57 _ (0, 0) _ rfl (heap_set4 HZ.out _ _ _ _) Try.underlying57 rfl ?_) rfl ?_
      · kernel_rfl
      · exact RetA.of (HA.out _ (ansX_no (by simp))) ⟨Frm.keep HK.out (frm_set4 _ _ _ _ _ _) fun i e => by have e : i = w.heap.size := e; omega, rfl⟩
    | true =>
      by_cases h12 : e4 ≤ 12
      · have hgt : decide ((e4 : Int) > 12) = false := decide_eq_false (by omega)
        have hgt' : ¬ (12 < (e4 : Int)) := by omega
        by_cases h0 : e4 = 0
        · subst h0
          clear hgt hgt'
          go_wp2_with fail
          refine bodyPost_ret_by (results_cell2 rfl _ _ w.heap.size 57 _ (0, 0) _ rfl (heap_set4 HZ.out _ _ _ _) Try.underlying57 rfl ?_) rfl ?_
          · kernel_rfl
          · exact RetA.of (HA.out _ (ansX_yes ⟨rfl, rfl, by omega, .inl rfl⟩)) ⟨Frm.keep HK.out (frm_set4 _ _ _ _ _ _) fun i e => by have e : i = w.heap.size := e; omega, _, _, _, rfl, HB.out.away (frm_set4 _ _ _ _ _ _) HZ.out (reply_noB 0 0 0 0 0)⟩
        · have hbang : ((e4 : Int) != 0) = true := by simp; omega
          by_cases hq : q.length = 0
          · have hq0 : decide (0 < q.length) = false := decide_eq_false (by omega)
            have hqh := hide hq
            clear hq
            go_wp2_with fail
            refine bodyPost_ret_by (results_cell2 rfl _ _ w.heap.size 57 _ (0, 0) _ rfl (heap_set4 HZ.out _ _ _ _) Try.underlying57 rfl ?_) rfl ?_
            · kernel_rfl
            · exact RetA.of (HA.out _ (ansX_yes ⟨rfl, rfl, h12, .inr hqh.out⟩)) ⟨Frm.keep HK.out (frm_set4 _ _ _ _ _ _) fun i e => by have e : i = w.heap.size := e; omega, _, _, _, rfl, HB.out.away (frm_set4 _ _ _ _ _ _) HZ.out (reply_noB 0 0 0 0 0)⟩
          · have hq0 : decide (0 < q.length) = true := decide_eq_true (by omega)
            have hqh := hide hq
            clear hq
            go_wp2_with fail
            refine bodyPost_ret_by (results_cell2 rfl _ _ w.heap.size 57 _ (0, 0) _ rfl (heap_set4 HZ.out _ _ _ _) Try.underlying57 rfl ?_) rfl ?_
            · kernel_rfl
            · exact RetA.of (HA.out _ (ansX_no fun h => h.2.2.2.elim h0 hqh.out)) ⟨Frm.keep HK.out (frm_set4 _ _ _ _ _ _) fun i e => by have e : i = w.heap.size := e; omega, rfl⟩
      · have hgt : decide ((e4 : Int) > 12) = true := decide_eq_true (by omega)
        have hgt' : 12 < (e4 : Int) := by omega
        go_wp2_with fail
        refine bodyPost_ret_by (results_cell2 rfl _ _ w.heap.size 57 _ (0, 0) _ rfl (heap_set4 HZ.out _ _ _ _) Try.underlying57 rfl ?_) rfl ?_
        · kernel_rfl
        · exact RetA.of (HA.out _ (ansX_no fun h => h12 h.2.2.1)) ⟨Frm.keep HK.out (frm_set4 _ _ _ _ _ _) fun i e => by have e : i = w.heap.size := e; omega, rfl⟩
end Go.Proofs.Ytcbkklfdeloeeaa
