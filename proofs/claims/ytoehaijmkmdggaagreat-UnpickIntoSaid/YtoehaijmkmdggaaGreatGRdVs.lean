/- Walks: the reader of package unpick: a value, given what a block comes to. -/
import Derived.Test.YtoehaijmkmdggaaGreatGRdN
set_option linter.unusedSimpArgs false
set_option linter.unusedVariables false
namespace Go.Proofs.YtoehaijmkmdggaaGreat
open Go.RowKit
open Em (Ty)
set_option linter.unusedVariables false
set_option linter.unusedSimpArgs false
set_option maxRecDepth 100000
section
variable {B f : Nat} {Z : Nat → Prop} {w0 w : World} {p : Nat} {bv lv tv : Value} {its : List (Em.Blk × Value)} {tys : List (Ty × List Value)} {s : Em.Rd}
set_option maxHeartbeats 8000000 in
theorem rdValue_plain (t : Ty) (d : Nat) (cs : List Value) (h : RdM 76 B Z w0 w p bv lv tv [] its tys s) (ht : TyI (fun k => k < w0.heap.size ∨ Z k) d w cs t) (hp : Em.isPl t.op) :
    Calls Tryz.prog 23 #[.pointer (some ⟨p, 0, none⟩), .agg cs.toArray] w (ValA 76 B Z w0 w p lv tv [] its (Em.immP t.op s)) := by
  cases d with
  | zero => exact ht.elim
  | succ d =>
    obtain ⟨v, rfl, hn, hs, hin⟩ := ht
    obtain ⟨A, c, rfl, _⟩ := id hs
    obtain ⟨o, n, ks⟩ := t
    simp only [Em.Ty.op, Em.Ty.n, Em.Ty.kids] at *
    have ka : Keep w ((w.alloc (.cells #[.string (str o), .int .i64 n, .slice A ks.length c] 25)).alloc (.cells #[.bool false, .int .i64 0] 59)) := (by repeat (first | exact Keep.rf _ | assumption | apply Keep.al | apply Keep.dr | apply Keep.dn))
    have hB := (Keep.frm (Keep.al (Keep.rf (w.alloc (.cells #[.string (str o), .int .i64 n, .slice A ks.length c] 25))) (.cells #[.bool false, .int .i64 0] 59)) (fun _ => False)).heap (fun h => h) (heap_alloc_new w (.cells #[.string (str o), .int .i64 n, .slice A ks.length c] 25))
    have hR := new_second w (.cells #[.string (str o), .int .i64 n, .slice A ks.length c] 25) (.cells #[.bool false, .int .i64 0] 59)
    have hnr : ¬ HasR Z p lv tv its (w.heap.size + 1) := fun e => by have := (h.lt _ e).2; omega
    have hrl : w.heap.size + 1 < ((w.alloc (.cells #[.string (str o), .int .i64 n, .slice A ks.length c] 25)).alloc (.cells #[.bool false, .int .i64 0] 59)).heap.size := by simp
    have h0r : w0.heap.size ≤ w.heap.size + 1 := by have := h.k0.size; omega
    have HI := hide (rdImm o (h.keep ka) hp)
    have b0 := top_cells hB 0
    simp only [List.getElem?_toArray, List.getElem?_cons_succ, List.getElem?_cons_zero] at b0
    have HR := hide hR
    have KA := hide ka
    generalize hz : Em.immP o s = z at *
    have hO := opB o
    clear hR ka h hB hs hin hn hz
    rcases hp with rfl | rfl | rfl
    all_goals
      (try unfold Em.wInt at *)
      (try unfold Em.wBool at *)
      (try unfold Em.wUnit at *)
      go_enter Tryz.func23, Tryz.ntmps23
      go_wp2_with fail
      generalize World.alloc (World.alloc w _) _ = w1 at *
      refine HI.out.mono ?_
      intro e w2 hA
      obtain ⟨x, n9, v9, rfl⟩ := hA.shape
      obtain ⟨Z', lv', tv', its', hw2⟩ := hA.went
      have hR2 := hw2.heap hnr HR.out
      have r0 := top_cells hR2 0
      have r1 := top_cells hR2 1
      have f0 := top_free hR2 0
      have f1 := top_free hR2 1
      simp only [List.getElem?_toArray, List.getElem?_cons_succ, List.getElem?_cons_zero] at r0 r1
      have HR2 := hide hR2
      have HA := hide hA
      clear hR2 hw2 hA b0 HI
      go_wp2_with fail
      refine bodyPost_ret_by (results_cell2 rfl _ _ (w.heap.size + 1) 59 _ (0, 0) _ rfl (heap_set2R HR2.out _ _) Tryz.underlying59 rfl ?_) rfl ?_
      · kernel_rfl
      · exact HA.out.pass (RWent.of_keep KA.out) (frm_set2R _ _ _ _) (by omega) hrl hnr h0r

theorem plain_no {o : List UInt8} (h : ¬ Em.isPl o) : ¬ o = [105, 110, 116] ∧ ¬ o = [98, 111, 111, 108] ∧ ¬ o = [117, 110, 105, 116] := by
  simp only [Em.isPl, not_or] at h
  exact h
theorem cell_at {w : World} {B e n i j g c : Nat} {v u : Value} {tys : List (Ty × List Value)} {y : Ty × List Value} (h : w.ownsRow B e 3 v n (tys.map (·.2)).flatten) (h3 : ∀ x ∈ tys, x.2.length = 3) (hi : tys[i]? = some y) (hu : y.2[j]? = some u) (hv : v = .slice (some ⟨g, 0, none⟩) n c) : w.cell? ⟨g, i * 3 + j, none⟩ = some u := by
  have hl := (List.getElem?_eq_some_iff.1 hi).1
  have hj := (List.getElem?_eq_some_iff.1 hu).1
  subst hv
  have hy := h3 y (List.mem_of_getElem? hi)
  have hc := h.cells (g := g) rfl (i * 3 + j) u (by
    rw [flat_get 3 _ (fun cs hcs => by
      obtain ⟨it, hit, rfl⟩ := List.mem_map.1 hcs
      exact h3 it hit) i j (by simpa using hl) (by omega), List.getElem_map, (List.getElem?_eq_some_iff.1 hi).2]
    exact hu)
  rwa [add_pl] at hc
/-- The type of a block that came: what the reader has. -/
theorem RdM.ty_at {tt : Nat} {ex : List Value} (h : RdM tt B Z w0 w p bv lv tv ex its tys s) {i : Nat} {t : Ty} (hi : s.ty[i]? = some t) : i < its.length ∧ ∃ (g c' d' : Nat) (o : List UInt8) (n : Int) (A : Option Addr) (m c2 : Nat), tv = .slice (some ⟨g, 0, none⟩) its.length c' ∧ TyK d' w [.string (str o), .int .i64 n, .slice A m c2] t ∧ w.cell? ⟨g, i * 3, none⟩ = some (.string (str o)) ∧ w.cell? ⟨g, i * 3 + 1, none⟩ = some (.int .i64 n) ∧ w.cell? ⟨g, i * 3 + 2, none⟩ = some (.slice A m c2) := by
  rw [h.ty, List.getElem?_map] at hi
  cases hy : tys[i]? with
  | none => rw [hy] at hi; cases hi
  | some y =>
    rw [hy] at hi
    injection hi with hi
    have hil := (List.getElem?_eq_some_iff.1 hy).1
    have hl := h.len
    refine ⟨by omega, ?_⟩
    obtain ⟨d', hd'⟩ := h.tya y (List.mem_of_getElem? hy)
    have hd2 := hd'.ty
    rw [show y.1 = t from hi] at hd2
    cases d' with
    | zero => exact hd2.elim
    | succ d' =>
      obtain ⟨v, hy2, hn, hs⟩ := id hd2
      obtain ⟨A, c, rfl, _⟩ := id hs
      obtain ⟨_, ⟨_, h00⟩ | ⟨g, c', cur, e, he⟩⟩ := id h.tow
      · omega
      · refine ⟨g, c', d' + 1, _, _, A, _, c, by rw [e, h.len], by rw [← hy2]; exact hd2, ?_, ?_, ?_⟩
        · exact cell_at (j := 0) h.tow (fun x hx => (h.tya x hx).elim fun _ h => h.three) hy (by rw [hy2]; rfl) e
        · exact cell_at (j := 1) h.tow (fun x hx => (h.tya x hx).elim fun _ h => h.three) hy (by rw [hy2]; rfl) e
        · exact cell_at (j := 2) h.tow (fun x hx => (h.tya x hx).elim fun _ h => h.three) hy (by rw [hy2]; rfl) e
set_option maxHeartbeats 8000000 in
theorem rdValue_step (hblk : BlkV B w0 p f) : ValV B w0 p (f + 1) := by
  intro Z w bv lv tv its tys s t d cs h ht hok hf
  by_cases hp : Em.isPl t.op
  · have := rdValue_plain t d cs h ht hp
    have hX : Em.valP (f + 1) t s = Em.immP t.op s := by rw [Em.valP, if_pos hp]
    rw [hX]
    exact this
  cases d with
  | zero => exact ht.elim
  | succ d =>
    have HT0 := hide ht
    have HOK := hide hok
    have HP := hide hp
    obtain ⟨v, rfl, hn, hs, hin⟩ := ht
    obtain ⟨A, c, rfl, _⟩ := id hs
    have HV1 := hide (show ∀ c, Em.numP s = .err c → Em.valP (f + 1) t s = .err c from fun c e => by rw [Em.valP, if_neg hp, e])
    have HV2 := hide (show ∀ v s1, Em.numP s = .ok v s1 → (t.op = Em.wList ∧ v = 0 ∧ Em.valP (f + 1) t s = .ok (true, 0) s1) ∨ (t.op = Em.wList ∧ ∃ v', v = v' + 1 ∧ Hid (Em.valP (f + 1) t s = if v' = 0 then Em.blkP (Em.valP f) t s1 else Em.refV t v' s1)) ∨ (¬ t.op = Em.wList ∧ ∃ v', v' = v ∧ Hid (Em.valP (f + 1) t s = if v' = 0 then Em.blkP (Em.valP f) t s1 else Em.refV t v' s1)) from fun v s1 e => by
      have h0 : Em.valP (f + 1) t s = if t.op = Em.wList then (if v = 0 then .ok (true, 0) s1 else if v - 1 = 0 then Em.blkP (Em.valP f) t s1 else Em.refV t (v - 1) s1) else if v = 0 then Em.blkP (Em.valP f) t s1 else Em.refV t v s1 := by rw [Em.valP, if_neg hp, e]
      by_cases h1 : t.op = Em.wList
      · rw [if_pos h1] at h0
        cases v with
        | zero => exact .inl ⟨h1, rfl, by rw [h0]; rfl⟩
        | succ v => exact .inr (.inl ⟨h1, v, rfl, hide (by rw [h0]; rfl)⟩)
      · rw [if_neg h1] at h0
        exact .inr (.inr ⟨h1, v, rfl, hide h0⟩))
    obtain ⟨n1, n2, n3⟩ := plain_no hp
    have hO := opB t.op
    obtain ⟨o, n, ks⟩ := t
    simp only [Em.Ty.op, Em.Ty.n, Em.Ty.kids] at *
    have ka : Keep w ((w.alloc (.cells #[.string (str o), .int .i64 n, .slice A ks.length c] 25)).alloc (.cells #[.bool false, .int .i64 0] 59)) := (by repeat (first | exact Keep.rf _ | assumption | apply Keep.al | apply Keep.dr | apply Keep.dn))
    have hB := (Keep.frm (Keep.al (Keep.rf (w.alloc (.cells #[.string (str o), .int .i64 n, .slice A ks.length c] 25))) (.cells #[.bool false, .int .i64 0] 59)) (fun _ => False)).heap (fun h => h) (heap_alloc_new w (.cells #[.string (str o), .int .i64 n, .slice A ks.length c] 25))
    have hR := new_second w (.cells #[.string (str o), .int .i64 n, .slice A ks.length c] 25) (.cells #[.bool false, .int .i64 0] 59)
    have hnr : ¬ HasR Z p lv tv its (w.heap.size + 1) := fun e => by have := (h.lt _ e).2; omega
    have hnb : ¬ HasR Z p lv tv its w.heap.size := fun e => by have := (h.lt _ e).2; omega
    have hrl : w.heap.size + 1 < ((w.alloc (.cells #[.string (str o), .int .i64 n, .slice A ks.length c] 25)).alloc (.cells #[.bool false, .int .i64 0] 59)).heap.size := by simp
    have h0r : w0.heap.size ≤ w.heap.size + 1 := by have := h.k0.size; omega
    have H0R := hide h0r
    have hM1 := h.keep ka
    have HN := hide (rdNumber hM1)
    have HT1 := hide (HT0.out.keep ka)
    have HM1 := hide hM1
    have b0 := top_cells hB 0
    simp only [List.getElem?_toArray, List.getElem?_cons_succ, List.getElem?_cons_zero] at b0
    have HR := hide hR
    have HB := hide hB
    have KA := hide ka
    have hlim := h.lim
    clear hR ka h hB hs hin hn hM1 HT0 hp hok
    go_enter Tryz.func23, Tryz.ntmps23
    go_wp2_with fail
    generalize World.alloc (World.alloc w _) _ = w1 at *
    refine HN.out.mono ?_
    intro e w2 hA
    generalize hon : Em.numP s = on at *
    cases on with
    | err c9 =>
      obtain ⟨rfl, rfl, k2⟩ := hA
      have hR2 := (k2.frm fun _ => False).heap (fun h => h) HR.out
      have r0 := top_cells hR2 0
      have r1 := top_cells hR2 1
      have f0 := top_free hR2 0
      have f1 := top_free hR2 1
      simp only [List.getElem?_toArray, List.getElem?_cons_succ, List.getElem?_cons_zero] at r0 r1
      have HR2 := hide hR2
      have K2 := hide k2
      have q2 := errNeNil
      have HQ := hide (HV1.out 2 rfl)
      clear hR2 k2 HV1 HV2 HN b0 hon
      unfold errV
      go_wp2_with fail
      refine bodyPost_ret_by (results_cell2 rfl _ _ (w.heap.size + 1) 59 _ (0, 0) _ rfl (heap_set2R HR2.out _ _) Tryz.underlying59 rfl ?_) rfl ?_
      · kernel_rfl
      · rw [HQ.out]
        exact ⟨(false, 0), _, 0, rfl, rfl, Z, lv, tv, its, went_far (Keep.tr KA.out K2.out) (by omega) (frm_set2R _ _ _ _)⟩
    | ok v s1 =>
      obtain ⟨rfl, hv, ⟨bv2, hm2⟩, hw2⟩ := hA
      have hR2 := hw2.heap hnr HR.out
      have hB2 := hw2.heap hnb HB.out
      have hnr2 := hw2.out hrl hnr
      have r0 := top_cells hR2 0
      have r1 := top_cells hR2 1
      have f0 := top_free hR2 0
      have f1 := top_free hR2 1
      have hBx := hB2
      have b1 := top_cells hB2 1
      have b2 := top_cells hB2 2
      have c1 := top_cells hm2.top 1
      have c2 := top_cells hm2.top 2
      simp only [List.getElem?_toArray, List.getElem?_cons_succ, List.getElem?_cons_zero] at r0 r1 b1 b2 c1 c2
      have HR2 := hide hR2
      have HM2 := hide hm2
      have HW2 := hide ((RWent.of_keep KA.out).tr hw2)
      have HT2 := hide (hw2.ty HM1.out HT1.out)
      have hrl2 : w.heap.size + 1 < w2.heap.size := Nat.lt_of_lt_of_le hrl hw2.frm.size
      have hbl := hm2.bl
      have q2 := errNeNN
      have HBL := hide (hblk Z w2 bv2 lv tv its tys s1 _ _ _ hm2 HT2.out HOK.out HP.out (by omega))
      have hvc := HV2.out v s1 rfl
      have hO9 := opB [108, 105, 115, 116]
      clear hR2 hB2 hm2 hw2 HV1 HV2 HN HR HB hon hbl b0
      have b0 := top_cells hBx 0
      simp only [List.getElem?_toArray, List.getElem?_cons_succ, List.getElem?_cons_zero] at b0
      clear hBx
      rcases hvc with ⟨rfl, rfl, hX⟩ | ⟨rfl, v', rfl, HX⟩ | ⟨hl, v', rfl, HX⟩
      · have HX := hide hX
        clear hX
        unfold Em.wList at *
        go_wp2_with fail
        refine bodyPost_ret_by (results_cell2 rfl _ _ (w.heap.size + 1) 59 _ (0, 0) _ rfl (heap_set2R HR2.out _ _) Tryz.underlying59 rfl ?_) rfl ?_
        · kernel_rfl
        · rw [HX.out]
          exact ⟨rfl, (by decide : (Lit.int .i64 0).wf = true), Z, lv, tv, its, tys, ⟨_, HM2.out.far (frm_set2R _ _ _ _) hnr2 h0r⟩, HW2.out.far (by omega) (frm_set2R _ _ _ _)⟩
      all_goals
        have hvi : ((v' + 1 : Nat) : Int) = (v' : Int) + 1 := by omega
        unfold Em.wList at *
        by_cases hv0 : v' = 0
        · subst hv0
          rw [if_pos rfl] at HX
          go_wp2_with fail
          refine HBL.out.mono ?_
          intro e w3 hA
          obtain ⟨x, n9, v9, rfl⟩ := hA.shape
          obtain ⟨Z', lv', tv', its', hw3⟩ := hA.went
          have hR3 := hw3.heap hnr2 HR2.out
          have r0 := top_cells hR3 0
          have r1 := top_cells hR3 1
          have f0 := top_free hR3 0
          have f1 := top_free hR3 1
          simp only [List.getElem?_toArray, List.getElem?_cons_succ, List.getElem?_cons_zero] at r0 r1
          have HR3 := hide hR3
          have HA := hide hA
          clear hR3 hw3 hA HBL
          go_wp2_with fail
          refine bodyPost_ret_by (results_cell2 rfl _ _ (w.heap.size + 1) 59 _ (0, 0) _ rfl (heap_set2R HR3.out _ _) Tryz.underlying59 rfl ?_) rfl ?_
          · kernel_rfl
          · rw [HX.out]
            exact HA.out.pass HW2.out (frm_set2R _ _ _ _) (by omega) hrl2 hnr2 h0r
        · rw [if_neg hv0] at HX
          obtain ⟨i, rfl⟩ : ∃ i, v' = i + 1 := ⟨v' - 1, by omega⟩
          have hvi2 : ((i + 1 + 1 : Nat) : Int) = (i : Int) + 1 + 1 := by omega
          have hvi1 : ((i + 1 : Nat) : Int) = (i : Int) + 1 := by omega
          have e0 : ((i : Int) + 1 == 0) = false := by simp; omega
          have HM3 := HM2.out
          have hl1 := HM3.bl
          have hl2 := HM3.ty
          have hl3 := HM3.len
          have hl4 : s1.ty.length = its.length := by rw [hl2, hl3]; simp
          obtain ⟨A9, c9, rfl⟩ := own_slice HM3.row
          by_cases hlt : its.length < i + 1
          · have hgt : (i : Int) + 1 > (its.length : Int) := by omega
            have HX2 := hide (show ∀ o, Em.refV (.mk o n ks) (i + 1) s1 = .err 2 from fun o => by
              unfold Em.refV
              rw [Nat.add_sub_cancel, List.getElem?_eq_none (by omega)])
            clear hl1 hl2 hl3 hl4 HM3
            go_wp2_with fail
            apply region_all (by kernel_rfl) Keep Keep krg ktg krg ktg (fun _ _ h => h) [some 44, some 45, some 46, some 47, some 48, some 49, some 50, some 51, some 52, some 53, some 54, some 55, some 56, some 57, some 58, some 59, some 60, some 61, some 62, some 63, some 64] [eqG _ , eqG _ , eqG _ , eqG _ , eqG _ , eqG _ , eqG _ , eqG _ , eqG _ , eqG undef, eqG undef, eqG undef, eqG undef, eqG undef, eqG undef, eqG undef, eqG undef, eqG undef, eqG undef, eqG undef, eqG _ ] [⟨[], [], true, false, false⟩, ⟨[], [], true, false, false⟩, ⟨[1], [], true, false, false⟩, ⟨[2], [], true, false, false⟩, ⟨[3], [], true, false, false⟩, ⟨[4], [], true, false, false⟩, ⟨[5], [], true, false, false⟩, ⟨[0, 6], [], true, false, false⟩, ⟨[7], [], true, false, false⟩, ⟨[8], [], true, false, false⟩, ⟨[8, 9], [], true, false, false⟩, ⟨[8, 10], [], true, false, false⟩, ⟨[8, 11], [], true, false, false⟩, ⟨[8], [], true, false, false⟩, ⟨[8, 13], [], true, false, false⟩, ⟨[8, 12, 14], [], true, false, false⟩, ⟨[8, 15], [], true, false, false⟩, ⟨[8], [], true, false, false⟩, ⟨[8, 16, 17], [], true, false, false⟩, ⟨[8, 18], [], true, false, false⟩, ⟨[8, 19], [], true, false, false⟩] [20] (by kernel_rfl) (by kernel_rfl) 
            · refine ⟨?_, ?_, ?_, ?_, ?_, ?_, ?_, ?_, ?_, ?_, ?_, ?_, ?_, ?_, ?_, ?_, ?_, ?_, ?_, ?_, ?_, trivial⟩ <;> (intro us W h9 hW hE hd hs K hK; obtain ⟨u0, u1, u2, u3, u4, u5, u6, u7, u8, u9, u10, u11, u12, u13, u14, u15, u16, u17, u18, u19, u20, rfl⟩ := rog 21 h9 rfl; clear h9; try simp only [DepG, AtG, and_true, relG, eqG, eqG1, eqG2, eqG3, gdG, gdG1, gnG, gnG1, List.getD_cons_zero, List.getD_cons_succ, List.getElem?_cons_succ, List.getElem?_cons_zero, Option.map_some, Option.getD_some, valsG, List.map_cons, List.map_nil, List.length_cons, List.length_nil] at hd)
              · ((try clear hd); clear hs; simp only [fillG, List.set_cons_zero, List.set_cons_succ]; refine want_n rfl ?_; go_wp2_with (first | fail); simp only [DoneG, fillG, List.set_cons_zero, List.set_cons_succ, relG, eqG, eqG1, eqG2, eqG3, gdG, gdG1, gnG, gnG1, List.getD_cons_zero, List.getD_cons_succ, List.getElem?_cons_succ, List.getElem?_cons_zero, Option.map_some, Option.getD_some, valsG, List.map_cons, List.map_nil, List.length_cons, List.length_nil]; exact ⟨_, rfl, (by first | with_reducible assumption | exact krg _ | exact Keep.al (krg _) _), fun _ _ => rfl⟩)
              · ((try clear hd); clear hs; simp only [fillG, List.set_cons_zero, List.set_cons_succ]; refine want_n rfl ?_; go_wp2_with (first | fail); simp only [DoneG, fillG, List.set_cons_zero, List.set_cons_succ, relG, eqG, eqG1, eqG2, eqG3, gdG, gdG1, gnG, gnG1, List.getD_cons_zero, List.getD_cons_succ, List.getElem?_cons_succ, List.getElem?_cons_zero, Option.map_some, Option.getD_some, valsG, List.map_cons, List.map_nil, List.length_cons, List.length_nil]; exact ⟨_, rfl, (by first | with_reducible assumption | exact krg _ | exact Keep.al (krg _) _), fun _ _ => rfl⟩)
              · (have d1 := hd; clear hd; subst d1; clear hs; simp only [fillG, List.set_cons_zero, List.set_cons_succ]; refine want_n rfl ?_; go_wp2_with (first | fail); simp only [DoneG, fillG, List.set_cons_zero, List.set_cons_succ, relG, eqG, eqG1, eqG2, eqG3, gdG, gdG1, gnG, gnG1, List.getD_cons_zero, List.getD_cons_succ, List.getElem?_cons_succ, List.getElem?_cons_zero, Option.map_some, Option.getD_some, valsG, List.map_cons, List.map_nil, List.length_cons, List.length_nil]; exact ⟨_, rfl, (by first | with_reducible assumption | exact krg _ | exact Keep.al (krg _) _), fun _ _ => rfl⟩)
              · (have d2 := hd; clear hd; subst d2; clear hs; simp only [fillG, List.set_cons_zero, List.set_cons_succ]; refine want_n rfl ?_; go_wp2_with (first | fail); simp only [DoneG, fillG, List.set_cons_zero, List.set_cons_succ, relG, eqG, eqG1, eqG2, eqG3, gdG, gdG1, gnG, gnG1, List.getD_cons_zero, List.getD_cons_succ, List.getElem?_cons_succ, List.getElem?_cons_zero, Option.map_some, Option.getD_some, valsG, List.map_cons, List.map_nil, List.length_cons, List.length_nil]; exact ⟨_, rfl, (by first | with_reducible assumption | exact krg _ | exact Keep.al (krg _) _), fun _ _ => rfl⟩)
              · (have d3 := hd; clear hd; subst d3; clear hs; simp only [fillG, List.set_cons_zero, List.set_cons_succ]; have hKW := Keep.tr (Keep.dr (Keep.rf _)) (hE rfl); have c1 := Keep.cell hKW c1; refine want_n rfl ?_; go_wp2_with (first | fail); simp only [DoneG, fillG, List.set_cons_zero, List.set_cons_succ, relG, eqG, eqG1, eqG2, eqG3, gdG, gdG1, gnG, gnG1, List.getD_cons_zero, List.getD_cons_succ, List.getElem?_cons_succ, List.getElem?_cons_zero, Option.map_some, Option.getD_some, valsG, List.map_cons, List.map_nil, List.length_cons, List.length_nil]; exact ⟨_, rfl, (by first | with_reducible assumption | exact krg _ | exact Keep.al (krg _) _), fun _ _ => rfl⟩)
              · (have d4 := hd; clear hd; subst d4; clear hs; simp only [fillG, List.set_cons_zero, List.set_cons_succ]; have hKW := Keep.tr (Keep.dr (Keep.rf _)) (hE rfl); have c1 := Keep.cell hKW c1; refine want_n rfl ?_; go_wp2_with (first | fail); simp only [DoneG, fillG, List.set_cons_zero, List.set_cons_succ, relG, eqG, eqG1, eqG2, eqG3, gdG, gdG1, gnG, gnG1, List.getD_cons_zero, List.getD_cons_succ, List.getElem?_cons_succ, List.getElem?_cons_zero, Option.map_some, Option.getD_some, valsG, List.map_cons, List.map_nil, List.length_cons, List.length_nil]; exact ⟨_, rfl, (by first | with_reducible assumption | exact krg _ | exact Keep.al (krg _) _), fun _ _ => rfl⟩)
              · (have d5 := hd; clear hd; subst d5; clear hs; simp only [fillG, List.set_cons_zero, List.set_cons_succ]; refine want_n rfl ?_; go_wp2_with (first | fail); simp only [DoneG, fillG, List.set_cons_zero, List.set_cons_succ, relG, eqG, eqG1, eqG2, eqG3, gdG, gdG1, gnG, gnG1, List.getD_cons_zero, List.getD_cons_succ, List.getElem?_cons_succ, List.getElem?_cons_zero, Option.map_some, Option.getD_some, valsG, List.map_cons, List.map_nil, List.length_cons, List.length_nil]; exact ⟨_, rfl, (by first | with_reducible assumption | exact krg _ | exact Keep.al (krg _) _), fun _ _ => rfl⟩)
              · (obtain ⟨d0, d6⟩ := hd; subst d0; subst d6; clear hs; simp only [fillG, List.set_cons_zero, List.set_cons_succ]; refine want_n rfl ?_; go_wp2_with (first | fail); simp only [DoneG, fillG, List.set_cons_zero, List.set_cons_succ, relG, eqG, eqG1, eqG2, eqG3, gdG, gdG1, gnG, gnG1, List.getD_cons_zero, List.getD_cons_succ, List.getElem?_cons_succ, List.getElem?_cons_zero, Option.map_some, Option.getD_some, valsG, List.map_cons, List.map_nil, List.length_cons, List.length_nil]; exact ⟨_, rfl, (by first | with_reducible assumption | exact krg _ | exact Keep.al (krg _) _), fun _ _ => rfl⟩)
              · (have d7 := hd; clear hd; subst d7; clear hs; simp only [fillG, List.set_cons_zero, List.set_cons_succ]; refine want_n rfl ?_; go_wp2_with (first | fail); simp only [DoneG, fillG, List.set_cons_zero, List.set_cons_succ, relG, eqG, eqG1, eqG2, eqG3, gdG, gdG1, gnG, gnG1, List.getD_cons_zero, List.getD_cons_succ, List.getElem?_cons_succ, List.getElem?_cons_zero, Option.map_some, Option.getD_some, valsG, List.map_cons, List.map_nil, List.length_cons, List.length_nil]; exact ⟨_, rfl, (by first | with_reducible assumption | exact krg _ | exact Keep.al (krg _) _), fun _ _ => rfl⟩)
              · (have d8 := hd; clear hd; subst d8; clear hs; simp only [fillG, List.set_cons_zero, List.set_cons_succ]; refine want_f rfl ?_; refine hK _ _ ?_; simp only [DoneG, fillG, List.set_cons_zero, List.set_cons_succ, relG, eqG, eqG1, eqG2, eqG3, gdG, gdG1, gnG, gnG1, List.getD_cons_zero, List.getD_cons_succ, List.getElem?_cons_succ, List.getElem?_cons_zero, Option.map_some, Option.getD_some, valsG, List.map_cons, List.map_nil, List.length_cons, List.length_nil]; exact ⟨undef, rfl, krg _, fun _ _ => rfl⟩)
              · (obtain ⟨d8, d9⟩ := hd; subst d8; subst d9; clear hs; simp only [fillG, List.set_cons_zero, List.set_cons_succ]; refine want_f rfl ?_; refine hK _ _ ?_; simp only [DoneG, fillG, List.set_cons_zero, List.set_cons_succ, relG, eqG, eqG1, eqG2, eqG3, gdG, gdG1, gnG, gnG1, List.getD_cons_zero, List.getD_cons_succ, List.getElem?_cons_succ, List.getElem?_cons_zero, Option.map_some, Option.getD_some, valsG, List.map_cons, List.map_nil, List.length_cons, List.length_nil]; exact ⟨undef, rfl, krg _, fun _ _ => rfl⟩)
              · (obtain ⟨d8, d10⟩ := hd; subst d8; subst d10; clear hs; simp only [fillG, List.set_cons_zero, List.set_cons_succ]; refine want_f rfl ?_; refine hK _ _ ?_; simp only [DoneG, fillG, List.set_cons_zero, List.set_cons_succ, relG, eqG, eqG1, eqG2, eqG3, gdG, gdG1, gnG, gnG1, List.getD_cons_zero, List.getD_cons_succ, List.getElem?_cons_succ, List.getElem?_cons_zero, Option.map_some, Option.getD_some, valsG, List.map_cons, List.map_nil, List.length_cons, List.length_nil]; exact ⟨undef, rfl, krg _, fun _ _ => rfl⟩)
              · (obtain ⟨d8, d11⟩ := hd; subst d8; subst d11; clear hs; simp only [fillG, List.set_cons_zero, List.set_cons_succ]; have hKW := Keep.tr (Keep.dr (Keep.rf _)) (hE rfl); have c1 := Keep.cell hKW c1; refine want_f rfl ?_; refine hK _ _ ?_; simp only [DoneG, fillG, List.set_cons_zero, List.set_cons_succ, relG, eqG, eqG1, eqG2, eqG3, gdG, gdG1, gnG, gnG1, List.getD_cons_zero, List.getD_cons_succ, List.getElem?_cons_succ, List.getElem?_cons_zero, Option.map_some, Option.getD_some, valsG, List.map_cons, List.map_nil, List.length_cons, List.length_nil]; exact ⟨undef, rfl, krg _, fun _ _ => rfl⟩)
              · (have d8 := hd; clear hd; subst d8; clear hs; simp only [fillG, List.set_cons_zero, List.set_cons_succ]; refine want_f rfl ?_; refine hK _ _ ?_; simp only [DoneG, fillG, List.set_cons_zero, List.set_cons_succ, relG, eqG, eqG1, eqG2, eqG3, gdG, gdG1, gnG, gnG1, List.getD_cons_zero, List.getD_cons_succ, List.getElem?_cons_succ, List.getElem?_cons_zero, Option.map_some, Option.getD_some, valsG, List.map_cons, List.map_nil, List.length_cons, List.length_nil]; exact ⟨undef, rfl, krg _, fun _ _ => rfl⟩)
              · (obtain ⟨d8, d13⟩ := hd; subst d8; subst d13; clear hs; simp only [fillG, List.set_cons_zero, List.set_cons_succ]; refine want_f rfl ?_; refine hK _ _ ?_; simp only [DoneG, fillG, List.set_cons_zero, List.set_cons_succ, relG, eqG, eqG1, eqG2, eqG3, gdG, gdG1, gnG, gnG1, List.getD_cons_zero, List.getD_cons_succ, List.getElem?_cons_succ, List.getElem?_cons_zero, Option.map_some, Option.getD_some, valsG, List.map_cons, List.map_nil, List.length_cons, List.length_nil]; exact ⟨undef, rfl, krg _, fun _ _ => rfl⟩)
              · (obtain ⟨d8, d12, d14⟩ := hd; subst d8; subst d12; subst d14; clear hs; simp only [fillG, List.set_cons_zero, List.set_cons_succ]; refine want_f rfl ?_; refine hK _ _ ?_; simp only [DoneG, fillG, List.set_cons_zero, List.set_cons_succ, relG, eqG, eqG1, eqG2, eqG3, gdG, gdG1, gnG, gnG1, List.getD_cons_zero, List.getD_cons_succ, List.getElem?_cons_succ, List.getElem?_cons_zero, Option.map_some, Option.getD_some, valsG, List.map_cons, List.map_nil, List.length_cons, List.length_nil]; exact ⟨undef, rfl, krg _, fun _ _ => rfl⟩)
              · (obtain ⟨d8, d15⟩ := hd; subst d8; subst d15; clear hs; simp only [fillG, List.set_cons_zero, List.set_cons_succ]; have hKW := Keep.tr (Keep.dr (Keep.rf _)) (hE rfl); have c1 := Keep.cell hKW c1; refine want_f rfl ?_; refine hK _ _ ?_; simp only [DoneG, fillG, List.set_cons_zero, List.set_cons_succ, relG, eqG, eqG1, eqG2, eqG3, gdG, gdG1, gnG, gnG1, List.getD_cons_zero, List.getD_cons_succ, List.getElem?_cons_succ, List.getElem?_cons_zero, Option.map_some, Option.getD_some, valsG, List.map_cons, List.map_nil, List.length_cons, List.length_nil]; exact ⟨undef, rfl, krg _, fun _ _ => rfl⟩)
              · (have d8 := hd; clear hd; subst d8; clear hs; simp only [fillG, List.set_cons_zero, List.set_cons_succ]; have hKW := Keep.tr (Keep.dr (Keep.rf _)) (hE rfl); have c1 := Keep.cell hKW c1; refine want_f rfl ?_; refine hK _ _ ?_; simp only [DoneG, fillG, List.set_cons_zero, List.set_cons_succ, relG, eqG, eqG1, eqG2, eqG3, gdG, gdG1, gnG, gnG1, List.getD_cons_zero, List.getD_cons_succ, List.getElem?_cons_succ, List.getElem?_cons_zero, Option.map_some, Option.getD_some, valsG, List.map_cons, List.map_nil, List.length_cons, List.length_nil]; exact ⟨undef, rfl, krg _, fun _ _ => rfl⟩)
              · (obtain ⟨d8, d16, d17⟩ := hd; subst d8; subst d16; subst d17; clear hs; simp only [fillG, List.set_cons_zero, List.set_cons_succ]; have hKW := Keep.tr (Keep.dr (Keep.rf _)) (hE rfl); have c1 := Keep.cell hKW c1; refine want_f rfl ?_; refine hK _ _ ?_; simp only [DoneG, fillG, List.set_cons_zero, List.set_cons_succ, relG, eqG, eqG1, eqG2, eqG3, gdG, gdG1, gnG, gnG1, List.getD_cons_zero, List.getD_cons_succ, List.getElem?_cons_succ, List.getElem?_cons_zero, Option.map_some, Option.getD_some, valsG, List.map_cons, List.map_nil, List.length_cons, List.length_nil]; exact ⟨undef, rfl, krg _, fun _ _ => rfl⟩)
              · (obtain ⟨d8, d18⟩ := hd; subst d8; subst d18; clear hs; simp only [fillG, List.set_cons_zero, List.set_cons_succ]; refine want_f rfl ?_; refine hK _ _ ?_; simp only [DoneG, fillG, List.set_cons_zero, List.set_cons_succ, relG, eqG, eqG1, eqG2, eqG3, gdG, gdG1, gnG, gnG1, List.getD_cons_zero, List.getD_cons_succ, List.getElem?_cons_succ, List.getElem?_cons_zero, Option.map_some, Option.getD_some, valsG, List.map_cons, List.map_nil, List.length_cons, List.length_nil]; exact ⟨undef, rfl, krg _, fun _ _ => rfl⟩)
              · (obtain ⟨d8, d19⟩ := hd; subst d8; subst d19; clear hs; simp only [fillG, List.set_cons_zero, List.set_cons_succ]; refine want_n rfl ?_; go_wp2_with (first | fail); simp only [DoneG, fillG, List.set_cons_zero, List.set_cons_succ, relG, eqG, eqG1, eqG2, eqG3, gdG, gdG1, gnG, gnG1, List.getD_cons_zero, List.getD_cons_succ, List.getElem?_cons_succ, List.getElem?_cons_zero, Option.map_some, Option.getD_some, valsG, List.map_cons, List.map_nil, List.length_cons, List.length_nil]; exact ⟨_, rfl, (by first | with_reducible assumption | exact krg _ | exact Keep.al (krg _) _), fun _ _ => rfl⟩)
            (intro us W h9 hW hE hA; obtain ⟨u0, u1, u2, u3, u4, u5, u6, u7, u8, u9, u10, u11, u12, u13, u14, u15, u16, u17, u18, u19, u20, rfl⟩ := rog 21 h9 rfl; clear h9; simp only [AllG, AtG, and_true, relG, eqG, eqG1, eqG2, eqG3, gdG, gdG1, gnG, gnG1, List.getD_cons_zero, List.getD_cons_succ, List.getElem?_cons_succ, List.getElem?_cons_zero, Option.map_some, Option.getD_some, valsG, List.map_cons, List.map_nil, List.length_cons, List.length_nil] at hA; have d20 := hA; clear hA; subst d20; simp only [fillG, List.set_cons_zero, List.set_cons_succ]; have hKW := Keep.tr (Keep.dr (Keep.rf _)) hW; clear hW hE)
            have hR3 := (hKW.frm fun _ => False).heap (fun h => h) HR2.out
            have r0 := top_cells hR3 0
            have r1 := top_cells hR3 1
            have f0 := top_free hR3 0
            have f1 := top_free hR3 1
            simp only [List.getElem?_toArray, List.getElem?_cons_succ, List.getElem?_cons_zero] at r0 r1
            have HR3 := hide hR3
            have HK3 := hide hKW
            clear hR3 hKW
            go_wp2_with fail
            refine bodyPost_ret_by (results_cell2 rfl _ _ (w.heap.size + 1) 59 _ (0, 0) _ rfl (heap_set2R HR3.out _ _) Tryz.underlying59 rfl ?_) rfl ?_
            · kernel_rfl
            · rw [HX.out, HX2.out]
              exact ⟨(false, 0), _, 0, rfl, rfl, Z, _, tv, its, (HW2.out.tr (RWent.of_keep HK3.out)).far (by omega) (frm_set2R _ _ _ _)⟩
          · have hle : ¬ (i : Int) + 1 > (its.length : Int) := by omega
            obtain ⟨t', ht'⟩ : ∃ t', s1.ty[i]? = some t' := ⟨_, List.getElem?_eq_getElem (by omega)⟩
            have hX1 := HX.out
            unfold Em.refV at hX1
            rw [Nat.add_sub_cancel, ht'] at hX1
            simp only at hX1
            obtain ⟨hil, g, c', d', o', n', A', m', c2', rfl, hty, x0, x1, x2⟩ := HM3.ty_at ht'
            have hili : (i : Int) < (its.length : Int) := by omega
            have hle1 : decide ((its.length : Int) < (i : Int) + 1) = false := decide_eq_false (by omega)
            have hle2 : decide ((its.length : Int) ≤ (i : Int)) = false := decide_eq_false (by omega)
            have hle3 : decide ((i : Int) + 1 > (its.length : Int)) = false := decide_eq_false (by omega)
            have HTY := hide hty
            have HTT := hide HT2.out.ty
            clear hl1 hl2 hl3 hl4 HM3 ht' hty
            generalize he : Em.eqT t' _ = bb at hX1
            have HX1 := hide hX1
            have HE := hide he
            clear hX1 he HX
            clear hO9 q2 r0 r1 f0 f1 hrl h0r hvi2 hv0 hnb HM1 HT1 HBL KA
            go_wp2_with fail
            apply region_all (by kernel_rfl) Keep Keep krg ktg krg ktg (fun _ _ h => h) [some 44, some 45, some 46, some 47, some 48, some 49, some 50, some 51, some 52, some 53, some 54, some 55, some 56, some 57, some 58, some 59, some 60, some 61, some 62, some 63, some 64] [eqG _ , eqG _ , eqG _ , eqG _ , eqG _ , eqG _ , eqG _ , eqG _ , eqG _ , eqG _ , eqG _ , eqG _ , eqG _ , eqG _ , eqG _ , eqG _ , eqG _ , eqG _ , fun us _ v => v = .bool bb, eqG _ , eqG _ ] [⟨[], [], true, false, false⟩, ⟨[], [], true, false, false⟩, ⟨[1], [], true, false, false⟩, ⟨[2], [], true, false, false⟩, ⟨[3], [], true, false, false⟩, ⟨[4], [], true, false, false⟩, ⟨[5], [], true, false, false⟩, ⟨[0, 6], [], true, false, false⟩, ⟨[7], [], true, false, false⟩, ⟨[8], [], true, false, false⟩, ⟨[8, 9], [], true, false, false⟩, ⟨[8, 10], [], true, false, false⟩, ⟨[8, 11], [], true, false, false⟩, ⟨[8], [], true, false, false⟩, ⟨[8, 13], [], true, false, false⟩, ⟨[8, 12, 14], [], true, false, false⟩, ⟨[8, 15], [], true, false, false⟩, ⟨[8], [], true, false, false⟩, ⟨[8, 16, 17], [], true, false, false⟩, ⟨[8, 18], [], true, false, false⟩, ⟨[8, 19], [], true, false, false⟩] [20] (by kernel_rfl) (by kernel_rfl) 
            · refine ⟨?_, ?_, ?_, ?_, ?_, ?_, ?_, ?_, ?_, ?_, ?_, ?_, ?_, ?_, ?_, ?_, ?_, ?_, ?_, ?_, ?_, trivial⟩ <;> (intro us W h9 hW hE hd hs K hK; obtain ⟨u0, u1, u2, u3, u4, u5, u6, u7, u8, u9, u10, u11, u12, u13, u14, u15, u16, u17, u18, u19, u20, rfl⟩ := rog 21 h9 rfl; clear h9; try simp only [DepG, AtG, and_true, relG, eqG, eqG1, eqG2, eqG3, gdG, gdG1, gnG, gnG1, List.getD_cons_zero, List.getD_cons_succ, List.getElem?_cons_succ, List.getElem?_cons_zero, Option.map_some, Option.getD_some, valsG, List.map_cons, List.map_nil, List.length_cons, List.length_nil] at hd)
              · ((try clear hd); clear hs; simp only [fillG, List.set_cons_zero, List.set_cons_succ]; refine want_n rfl ?_; go_wp2_with (first | fail); simp only [DoneG, fillG, List.set_cons_zero, List.set_cons_succ, relG, eqG, eqG1, eqG2, eqG3, gdG, gdG1, gnG, gnG1, List.getD_cons_zero, List.getD_cons_succ, List.getElem?_cons_succ, List.getElem?_cons_zero, Option.map_some, Option.getD_some, valsG, List.map_cons, List.map_nil, List.length_cons, List.length_nil]; exact ⟨_, rfl, (by first | with_reducible assumption | exact krg _ | exact Keep.al (krg _) _), fun _ _ => rfl⟩)
              · ((try clear hd); clear hs; simp only [fillG, List.set_cons_zero, List.set_cons_succ]; refine want_n rfl ?_; go_wp2_with (first | fail); simp only [DoneG, fillG, List.set_cons_zero, List.set_cons_succ, relG, eqG, eqG1, eqG2, eqG3, gdG, gdG1, gnG, gnG1, List.getD_cons_zero, List.getD_cons_succ, List.getElem?_cons_succ, List.getElem?_cons_zero, Option.map_some, Option.getD_some, valsG, List.map_cons, List.map_nil, List.length_cons, List.length_nil]; exact ⟨_, rfl, (by first | with_reducible assumption | exact krg _ | exact Keep.al (krg _) _), fun _ _ => rfl⟩)
              · (have d1 := hd; clear hd; subst d1; clear hs; simp only [fillG, List.set_cons_zero, List.set_cons_succ]; refine want_n rfl ?_; go_wp2_with (first | fail); simp only [DoneG, fillG, List.set_cons_zero, List.set_cons_succ, relG, eqG, eqG1, eqG2, eqG3, gdG, gdG1, gnG, gnG1, List.getD_cons_zero, List.getD_cons_succ, List.getElem?_cons_succ, List.getElem?_cons_zero, Option.map_some, Option.getD_some, valsG, List.map_cons, List.map_nil, List.length_cons, List.length_nil]; exact ⟨_, rfl, (by first | with_reducible assumption | exact krg _ | exact Keep.al (krg _) _), fun _ _ => rfl⟩)
              · (have d2 := hd; clear hd; subst d2; clear hs; simp only [fillG, List.set_cons_zero, List.set_cons_succ]; refine want_n rfl ?_; go_wp2_with (first | fail); simp only [DoneG, fillG, List.set_cons_zero, List.set_cons_succ, relG, eqG, eqG1, eqG2, eqG3, gdG, gdG1, gnG, gnG1, List.getD_cons_zero, List.getD_cons_succ, List.getElem?_cons_succ, List.getElem?_cons_zero, Option.map_some, Option.getD_some, valsG, List.map_cons, List.map_nil, List.length_cons, List.length_nil]; exact ⟨_, rfl, (by first | with_reducible assumption | exact krg _ | exact Keep.al (krg _) _), fun _ _ => rfl⟩)
              · (have d3 := hd; clear hd; subst d3; clear hs; simp only [fillG, List.set_cons_zero, List.set_cons_succ]; have hKW := Keep.tr (Keep.dr (Keep.rf _)) (hE rfl); have c1 := Keep.cell hKW c1; have c2 := Keep.cell hKW c2; have b0 := Keep.cell hKW b0; have b1 := Keep.cell hKW b1; have b2 := Keep.cell hKW b2; have x0 := Keep.cell hKW x0; have x1 := Keep.cell hKW x1; have x2 := Keep.cell hKW x2; refine want_n rfl ?_; go_wp2_with (first | fail); simp only [DoneG, fillG, List.set_cons_zero, List.set_cons_succ, relG, eqG, eqG1, eqG2, eqG3, gdG, gdG1, gnG, gnG1, List.getD_cons_zero, List.getD_cons_succ, List.getElem?_cons_succ, List.getElem?_cons_zero, Option.map_some, Option.getD_some, valsG, List.map_cons, List.map_nil, List.length_cons, List.length_nil]; exact ⟨_, rfl, (by first | with_reducible assumption | exact krg _ | exact Keep.al (krg _) _), fun _ _ => rfl⟩)
              · (have d4 := hd; clear hd; subst d4; clear hs; simp only [fillG, List.set_cons_zero, List.set_cons_succ]; have hKW := Keep.tr (Keep.dr (Keep.rf _)) (hE rfl); have c1 := Keep.cell hKW c1; have c2 := Keep.cell hKW c2; have b0 := Keep.cell hKW b0; have b1 := Keep.cell hKW b1; have b2 := Keep.cell hKW b2; have x0 := Keep.cell hKW x0; have x1 := Keep.cell hKW x1; have x2 := Keep.cell hKW x2; refine want_n rfl ?_; go_wp2_with (first | fail); simp only [DoneG, fillG, List.set_cons_zero, List.set_cons_succ, relG, eqG, eqG1, eqG2, eqG3, gdG, gdG1, gnG, gnG1, List.getD_cons_zero, List.getD_cons_succ, List.getElem?_cons_succ, List.getElem?_cons_zero, Option.map_some, Option.getD_some, valsG, List.map_cons, List.map_nil, List.length_cons, List.length_nil]; exact ⟨_, rfl, (by first | with_reducible assumption | exact krg _ | exact Keep.al (krg _) _), fun _ _ => rfl⟩)
              · (have d5 := hd; clear hd; subst d5; clear hs; simp only [fillG, List.set_cons_zero, List.set_cons_succ]; refine want_n rfl ?_; go_wp2_with (first | fail); simp only [DoneG, fillG, List.set_cons_zero, List.set_cons_succ, relG, eqG, eqG1, eqG2, eqG3, gdG, gdG1, gnG, gnG1, List.getD_cons_zero, List.getD_cons_succ, List.getElem?_cons_succ, List.getElem?_cons_zero, Option.map_some, Option.getD_some, valsG, List.map_cons, List.map_nil, List.length_cons, List.length_nil]; exact ⟨_, rfl, (by first | with_reducible assumption | exact krg _ | exact Keep.al (krg _) _), fun _ _ => rfl⟩)
              · (obtain ⟨d0, d6⟩ := hd; subst d0; subst d6; clear hs; simp only [fillG, List.set_cons_zero, List.set_cons_succ]; refine want_n rfl ?_; go_wp2_with (first | fail); simp only [DoneG, fillG, List.set_cons_zero, List.set_cons_succ, relG, eqG, eqG1, eqG2, eqG3, gdG, gdG1, gnG, gnG1, List.getD_cons_zero, List.getD_cons_succ, List.getElem?_cons_succ, List.getElem?_cons_zero, Option.map_some, Option.getD_some, valsG, List.map_cons, List.map_nil, List.length_cons, List.length_nil]; exact ⟨_, rfl, (by first | with_reducible assumption | exact krg _ | exact Keep.al (krg _) _), fun _ _ => rfl⟩)
              · (have d7 := hd; clear hd; subst d7; clear hs; simp only [fillG, List.set_cons_zero, List.set_cons_succ]; refine want_n rfl ?_; go_wp2_with (first | fail); simp only [DoneG, fillG, List.set_cons_zero, List.set_cons_succ, relG, eqG, eqG1, eqG2, eqG3, gdG, gdG1, gnG, gnG1, List.getD_cons_zero, List.getD_cons_succ, List.getElem?_cons_succ, List.getElem?_cons_zero, Option.map_some, Option.getD_some, valsG, List.map_cons, List.map_nil, List.length_cons, List.length_nil]; exact ⟨_, rfl, (by first | with_reducible assumption | exact krg _ | exact Keep.al (krg _) _), fun _ _ => rfl⟩)
              · (have d8 := hd; clear hd; subst d8; clear hs; simp only [fillG, List.set_cons_zero, List.set_cons_succ]; refine want_y rfl ?_; go_wp2_with (first | fail); simp only [DoneG, fillG, List.set_cons_zero, List.set_cons_succ, relG, eqG, eqG1, eqG2, eqG3, gdG, gdG1, gnG, gnG1, List.getD_cons_zero, List.getD_cons_succ, List.getElem?_cons_succ, List.getElem?_cons_zero, Option.map_some, Option.getD_some, valsG, List.map_cons, List.map_nil, List.length_cons, List.length_nil]; exact ⟨_, rfl, (by first | with_reducible assumption | exact krg _ | exact Keep.al (krg _) _), fun _ _ => rfl⟩)
              · (obtain ⟨d8, d9⟩ := hd; subst d8; subst d9; clear hs; simp only [fillG, List.set_cons_zero, List.set_cons_succ]; refine want_y rfl ?_; go_wp2_with (first | fail); simp only [DoneG, fillG, List.set_cons_zero, List.set_cons_succ, relG, eqG, eqG1, eqG2, eqG3, gdG, gdG1, gnG, gnG1, List.getD_cons_zero, List.getD_cons_succ, List.getElem?_cons_succ, List.getElem?_cons_zero, Option.map_some, Option.getD_some, valsG, List.map_cons, List.map_nil, List.length_cons, List.length_nil]; exact ⟨_, rfl, (by first | with_reducible assumption | exact krg _ | exact Keep.al (krg _) _), fun _ _ => rfl⟩)
              · (obtain ⟨d8, d10⟩ := hd; subst d8; subst d10; clear hs; simp only [fillG, List.set_cons_zero, List.set_cons_succ]; refine want_y rfl ?_; go_wp2_with (first | fail); simp only [DoneG, fillG, List.set_cons_zero, List.set_cons_succ, relG, eqG, eqG1, eqG2, eqG3, gdG, gdG1, gnG, gnG1, List.getD_cons_zero, List.getD_cons_succ, List.getElem?_cons_succ, List.getElem?_cons_zero, Option.map_some, Option.getD_some, valsG, List.map_cons, List.map_nil, List.length_cons, List.length_nil]; exact ⟨_, rfl, (by first | with_reducible assumption | exact krg _ | exact Keep.al (krg _) _), fun _ _ => rfl⟩)
              · (obtain ⟨d8, d11⟩ := hd; subst d8; subst d11; clear hs; simp only [fillG, List.set_cons_zero, List.set_cons_succ]; have hKW := Keep.tr (Keep.dr (Keep.rf _)) (hE rfl); have c1 := Keep.cell hKW c1; have c2 := Keep.cell hKW c2; have b0 := Keep.cell hKW b0; have b1 := Keep.cell hKW b1; have b2 := Keep.cell hKW b2; have x0 := Keep.cell hKW x0; have x1 := Keep.cell hKW x1; have x2 := Keep.cell hKW x2; refine want_y rfl ?_; go_wp2_with (first | fail); simp only [DoneG, fillG, List.set_cons_zero, List.set_cons_succ, relG, eqG, eqG1, eqG2, eqG3, gdG, gdG1, gnG, gnG1, List.getD_cons_zero, List.getD_cons_succ, List.getElem?_cons_succ, List.getElem?_cons_zero, Option.map_some, Option.getD_some, valsG, List.map_cons, List.map_nil, List.length_cons, List.length_nil]; exact ⟨_, rfl, (by first | with_reducible assumption | exact krg _ | exact Keep.al (krg _) _), fun _ _ => rfl⟩)
              · (have d8 := hd; clear hd; subst d8; clear hs; simp only [fillG, List.set_cons_zero, List.set_cons_succ]; refine want_y rfl ?_; go_wp2_with (first | fail); simp only [DoneG, fillG, List.set_cons_zero, List.set_cons_succ, relG, eqG, eqG1, eqG2, eqG3, gdG, gdG1, gnG, gnG1, List.getD_cons_zero, List.getD_cons_succ, List.getElem?_cons_succ, List.getElem?_cons_zero, Option.map_some, Option.getD_some, valsG, List.map_cons, List.map_nil, List.length_cons, List.length_nil]; exact ⟨_, rfl, (by first | with_reducible assumption | exact krg _ | exact Keep.al (krg _) _), fun _ _ => rfl⟩)
              · (obtain ⟨d8, d13⟩ := hd; subst d8; subst d13; clear hs; simp only [fillG, List.set_cons_zero, List.set_cons_succ]; refine want_y rfl ?_; go_wp2_with (first | fail); simp only [DoneG, fillG, List.set_cons_zero, List.set_cons_succ, relG, eqG, eqG1, eqG2, eqG3, gdG, gdG1, gnG, gnG1, List.getD_cons_zero, List.getD_cons_succ, List.getElem?_cons_succ, List.getElem?_cons_zero, Option.map_some, Option.getD_some, valsG, List.map_cons, List.map_nil, List.length_cons, List.length_nil]; exact ⟨_, rfl, (by first | with_reducible assumption | exact krg _ | exact Keep.al (krg _) _), fun _ _ => rfl⟩)
              · (obtain ⟨d8, d12, d14⟩ := hd; subst d8; subst d12; subst d14; clear hs; simp only [fillG, List.set_cons_zero, List.set_cons_succ]; refine want_y rfl ?_; go_wp2_with (first | fail); simp only [DoneG, fillG, List.set_cons_zero, List.set_cons_succ, relG, eqG, eqG1, eqG2, eqG3, gdG, gdG1, gnG, gnG1, List.getD_cons_zero, List.getD_cons_succ, List.getElem?_cons_succ, List.getElem?_cons_zero, Option.map_some, Option.getD_some, valsG, List.map_cons, List.map_nil, List.length_cons, List.length_nil]; exact ⟨_, rfl, (by first | with_reducible assumption | exact krg _ | exact Keep.al (krg _) _), fun _ _ => rfl⟩)
              · (obtain ⟨d8, d15⟩ := hd; subst d8; subst d15; clear hs; simp only [fillG, List.set_cons_zero, List.set_cons_succ]; have hKW := Keep.tr (Keep.dr (Keep.rf _)) (hE rfl); have c1 := Keep.cell hKW c1; have c2 := Keep.cell hKW c2; have b0 := Keep.cell hKW b0; have b1 := Keep.cell hKW b1; have b2 := Keep.cell hKW b2; have x0 := Keep.cell hKW x0; have x1 := Keep.cell hKW x1; have x2 := Keep.cell hKW x2; refine want_y rfl ?_; go_wp2_with (first | fail); simp only [DoneG, fillG, List.set_cons_zero, List.set_cons_succ, relG, eqG, eqG1, eqG2, eqG3, gdG, gdG1, gnG, gnG1, List.getD_cons_zero, List.getD_cons_succ, List.getElem?_cons_succ, List.getElem?_cons_zero, Option.map_some, Option.getD_some, valsG, List.map_cons, List.map_nil, List.length_cons, List.length_nil]; exact ⟨_, rfl, (by first | with_reducible assumption | exact krg _ | exact Keep.al (krg _) _), fun _ _ => rfl⟩)
              · (have d8 := hd; clear hd; subst d8; clear hs; simp only [fillG, List.set_cons_zero, List.set_cons_succ]; have hKW := Keep.tr (Keep.dr (Keep.rf _)) (hE rfl); have c1 := Keep.cell hKW c1; have c2 := Keep.cell hKW c2; have b0 := Keep.cell hKW b0; have b1 := Keep.cell hKW b1; have b2 := Keep.cell hKW b2; have x0 := Keep.cell hKW x0; have x1 := Keep.cell hKW x1; have x2 := Keep.cell hKW x2; refine want_y rfl ?_; go_wp2_with (first | fail); simp only [DoneG, fillG, List.set_cons_zero, List.set_cons_succ, relG, eqG, eqG1, eqG2, eqG3, gdG, gdG1, gnG, gnG1, List.getD_cons_zero, List.getD_cons_succ, List.getElem?_cons_succ, List.getElem?_cons_zero, Option.map_some, Option.getD_some, valsG, List.map_cons, List.map_nil, List.length_cons, List.length_nil]; exact ⟨_, rfl, (by first | with_reducible assumption | exact krg _ | exact Keep.al (krg _) _), fun _ _ => rfl⟩)
              · (obtain ⟨d8, d16, d17⟩ := hd; subst d8; subst d16; subst d17; clear hs; simp only [fillG, List.set_cons_zero, List.set_cons_succ]; have hKW := Keep.tr (Keep.dr (Keep.rf _)) (hE rfl); have c1 := Keep.cell hKW c1; have c2 := Keep.cell hKW c2; have b0 := Keep.cell hKW b0; have b1 := Keep.cell hKW b1; have b2 := Keep.cell hKW b2; have x0 := Keep.cell hKW x0; have x1 := Keep.cell hKW x1; have x2 := Keep.cell hKW x2; refine want_y rfl ?_; go_wp2_with (first | (go_at_call 50; refine (typSame _ _ _ _ _ ⟨_, _, rfl, HTY.out.keep hKW⟩ ⟨_, _, rfl, HTT.out.keep hKW⟩).mono ?_; rintro e w9 ⟨rfl, k9⟩; rw [HE.out]) | fail); simp only [DoneG, fillG, List.set_cons_zero, List.set_cons_succ, relG, eqG, eqG1, eqG2, eqG3, gdG, gdG1, gnG, gnG1, List.getD_cons_zero, List.getD_cons_succ, List.getElem?_cons_succ, List.getElem?_cons_zero, Option.map_some, Option.getD_some, valsG, List.map_cons, List.map_nil, List.length_cons, List.length_nil]; exact ⟨_, rfl, (by first | with_reducible assumption | exact krg _ | exact Keep.al (krg _) _), fun W9 hk9 => rfl⟩)
              · (obtain ⟨d8, d18⟩ := hd; subst d8; subst d18; clear hs; simp only [fillG, List.set_cons_zero, List.set_cons_succ]; refine want_y rfl ?_; go_wp2_with (first | fail); simp only [DoneG, fillG, List.set_cons_zero, List.set_cons_succ, relG, eqG, eqG1, eqG2, eqG3, gdG, gdG1, gnG, gnG1, List.getD_cons_zero, List.getD_cons_succ, List.getElem?_cons_succ, List.getElem?_cons_zero, Option.map_some, Option.getD_some, valsG, List.map_cons, List.map_nil, List.length_cons, List.length_nil]; exact ⟨_, rfl, (by first | with_reducible assumption | exact krg _ | exact Keep.al (krg _) _), fun _ _ => rfl⟩)
              · (obtain ⟨d8, d19⟩ := hd; subst d8; subst d19; clear hs; simp only [fillG, List.set_cons_zero, List.set_cons_succ]; refine want_n rfl ?_; go_wp2_with (first | fail); simp only [DoneG, fillG, List.set_cons_zero, List.set_cons_succ, relG, eqG, eqG1, eqG2, eqG3, gdG, gdG1, gnG, gnG1, List.getD_cons_zero, List.getD_cons_succ, List.getElem?_cons_succ, List.getElem?_cons_zero, Option.map_some, Option.getD_some, valsG, List.map_cons, List.map_nil, List.length_cons, List.length_nil]; exact ⟨_, rfl, (by first | with_reducible assumption | exact krg _ | exact Keep.al (krg _) _), fun _ _ => rfl⟩)
            (intro us W h9 hW hE hA; obtain ⟨u0, u1, u2, u3, u4, u5, u6, u7, u8, u9, u10, u11, u12, u13, u14, u15, u16, u17, u18, u19, u20, rfl⟩ := rog 21 h9 rfl; clear h9; simp only [AllG, AtG, and_true, relG, eqG, eqG1, eqG2, eqG3, gdG, gdG1, gnG, gnG1, List.getD_cons_zero, List.getD_cons_succ, List.getElem?_cons_succ, List.getElem?_cons_zero, Option.map_some, Option.getD_some, valsG, List.map_cons, List.map_nil, List.length_cons, List.length_nil] at hA; have d20 := hA; clear hA; subst d20; simp only [fillG, List.set_cons_zero, List.set_cons_succ]; have hKW := Keep.tr (Keep.dr (Keep.rf _)) hW; clear hW hE)
            have hR3 := (hKW.frm fun _ => False).heap (fun h => h) HR2.out
            have r0 := top_cells hR3 0
            have r1 := top_cells hR3 1
            have f0 := top_free hR3 0
            have f1 := top_free hR3 1
            simp only [List.getElem?_toArray, List.getElem?_cons_succ, List.getElem?_cons_zero] at r0 r1
            have HR3 := hide hR3
            have HK3 := hide hKW
            clear hR3 hKW
            cases bb
            · go_wp2_with fail
              refine bodyPost_ret_by (results_cell2 rfl _ _ (w.heap.size + 1) 59 _ (0, 0) _ rfl (heap_set2R HR3.out _ _) Tryz.underlying59 rfl ?_) rfl ?_
              · kernel_rfl
              · rw [HX1.out]
                exact ⟨(false, 0), _, 0, rfl, rfl, Z, _, _, its, (HW2.out.tr (RWent.of_keep HK3.out)).far (by omega) (frm_set2R _ _ _ _)⟩
            · go_wp2_with fail
              refine bodyPost_ret_by (results_cell2 rfl _ _ (w.heap.size + 1) 59 _ (0, 0) _ rfl (heap_set2R HR3.out _ _) Tryz.underlying59 rfl ?_) rfl ?_
              · kernel_rfl
              · rw [HX1.out]
                exact ⟨rfl, imm_wf (by omega) (by omega), Z, _, _, its, tys, ⟨_, (HM2.out.keep HK3.out).far (frm_set2R _ _ _ _) hnr2 H0R.out⟩, (HW2.out.tr (RWent.of_keep HK3.out)).far (by omega) (frm_set2R _ _ _ _)⟩
end
end Go.Proofs.YtoehaijmkmdggaaGreat
