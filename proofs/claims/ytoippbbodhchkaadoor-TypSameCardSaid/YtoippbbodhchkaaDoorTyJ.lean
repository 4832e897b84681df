/- Walk: a type with its vars put (the reference), its vars 0, 1, .. -/
import Derived.Test.YtoippbbodhchkaaDoorTyI
namespace Go.Proofs.YtoippbbodhchkaaDoor
open Go.RowKit
open Em (Ty)
set_option linter.unusedVariables false
set_option linter.unusedSimpArgs false
set_option maxRecDepth 100000
set_option maxHeartbeats 8000000 in
theorem refPut8 (d : Nat) : ∀ (t : Ty) (w : World) (cs : List Value) (L : List Int) (v u : Value), TyK d w cs t → Is w v L → Sl 3 KVar w u (List.range L.length) → varsIn L t → nodes t ≤ 100000 → Calls Tryd.prog 43 #[.agg cs.toArray, v, u] w (RenR w d L t) := by
  induction d with
  | zero => intro t w cs L v u h; exact h.elim
  | succ d ih =>
    intro t w cs L v u h hI hB hvi hnd
    by_cases ho : t.op = Em.wVar
    · have hmem : t.n ∈ L := by
        cases t with
        | mk o n ks =>
          rw [varsIn] at hvi
          exact hvi.1 ho
      refine (refPutVar d t w cs L v u h hI hB ho hmem).mono ?_
      rintro e w' ⟨rfl, k⟩
      have hren : Em.renT L t = .mk Em.wVar (Em.place L t.n) [] := by
        cases t with
        | mk o n ks =>
          have ho2 : o = Em.wVar := ho
          rw [Em.renT, if_pos ho2]
          rfl
      have hL : L.length ≤ 9223372036854775807 := by
        obtain ⟨A, c, _, h1, h2, _⟩ := hI
        rw [List.length_map] at h1
        omega
      refine ⟨_, _, _, _, _, rfl, ?_, k⟩
      rw [hren]
      refine ⟨_, rfl, ?_, (fun q hq => by cases hq), Sl.nil _⟩
      have := place_bound L t.n
      have hb : -9223372036854775808 ≤ Em.place L t.n ∧ Em.place L t.n ≤ 9223372036854775807 := by omega
      show (Lit.int .i64 (Em.place L t.n)).wf = true
      generalize Em.place L t.n = q at hb
      simp [Lit.wf, IntKind.min, IntKind.max, IntKind.bits, IntKind.signed]
      omega
    · have HI := hide hI
      have HB := hide hB
      obtain ⟨kv, rfl, hn, hs⟩ := h
      have hs0 := hs
      obtain ⟨kA, kc, rfl, hlc, hcm, hr⟩ := hs
      obtain ⟨vA, vc, rfl, _⟩ := hI
      obtain ⟨uA, uc, rfl, _⟩ := hB
      simp only [List.length_map, List.length_range] at HI HB ⊢
      have IH := hide ih
      have hop : ((str t.op).toList == [118, 97, 114]) = false := by rw [opB]; exact decide_eq_false ho
      have hren : Em.renT L t = .mk t.op t.n (t.kids.map (Em.renT L)) := by
        cases t with
        | mk o n ks =>
          have ho2 : ¬ o = Em.wVar := ho
          rw [Em.renT, if_neg ho2, renL_map]
          rfl
      have hkn : ∀ k ∈ t.kids, nodes k ≤ 100000 := by
        cases t with
        | mk o n ks =>
          intro k hk
          rw [nodes] at hnd
          have : ∀ (ks : List Ty), k ∈ ks → nodes k ≤ nodesL ks := by
            intro ks
            induction ks with
            | nil => intro h; simp at h
            | cons a ks ih =>
              intro h
              rw [nodesL]
              rcases List.mem_cons.1 h with rfl | h
              · omega
              · have := ih h; omega
          have := this ks hk
          omega
      have hkl : t.kids.length ≤ 100000 := by
        cases t with
        | mk o n ks =>
          rw [nodes] at hnd
          have := nodesL_len ks
          show ks.length ≤ 100000
          omega
      have hkv : ∀ k ∈ t.kids, varsIn L k := by
        cases t with
        | mk o n ks =>
          rw [varsIn] at hvi
          exact varsInL_mem hvi.2
      have HKV := hide hkv
      have HREN := hide hren
      have HKN := hide hkn
      clear ih hren hkn ho hnd hkv hvi
      generalize t.op = o at *
      generalize t.n = n at *
      generalize t.kids = ks at *
      go_enter Tryd.func43, Tryd.ntmps43
      go_wp2_with fail
      generalize hW4 : (w.alloc (.cells #[.string (str o), .int .i64 n, .slice kA ks.length kc] 24)).alloc (.cells #[.string ⟨#[]⟩, .int .i64 0, .slice none 0 0] 24) = W4
      have k4 : Keep w W4 := by rw [← hW4]; exact (by repeat (first | exact Keep.rf _ | assumption | apply Keep.al | apply Keep.dr | apply Keep.dn))
      have hs4 : W4.heap.size = w.heap.size + 2 := by rw [← hW4]; simp
      have hb4 : W4.heap[w.heap.size + 1]? = some (.cells #[.string ⟨#[]⟩, .int .i64 0, .slice none 0 0] 24) := by
        rw [← hW4]
        have := heap_alloc_new (w.alloc (.cells #[.string (str o), .int .i64 n, .slice kA ks.length kc] 24)) (.cells #[.string ⟨#[]⟩, .int .i64 0, .slice none 0 0] 24)
        simpa using this
      have hb0 : W4.heap[w.heap.size]? = some (.cells #[.string (str o), .int .i64 n, .slice kA ks.length kc] 24) := by
        rw [← hW4]
        exact ((Keep.al (Keep.rf _) _).frm fun _ => False).heap (fun h => h) (heap_alloc_new w _)
      generalize hW5 : W4.alloc (.cells #[.string (str o), .int .i64 n, .slice none 0 0] 24) = W5
      have h45 : W4.heap.size ≤ W5.heap.size := by rw [← hW5]; simp
      have hs5 : W5.heap.size = w.heap.size + 3 := by rw [← hW5]; simp [hs4]
      have k5 : Keep W4 W5 := by rw [← hW5]; exact (by repeat (first | exact Keep.rf _ | assumption | apply Keep.al | apply Keep.dr | apply Keep.dn))
      have hb5 : W5.heap[w.heap.size + 1 + 1]? = some (.cells #[.string (str o), .int .i64 n, .slice none 0 0] 24) := by
        rw [← hW5, show w.heap.size + 1 + 1 = W4.heap.size by omega]
        exact heap_alloc_new W4 _
      clear hW4 hW5
      go_loopw [9] (fun i W => ∃ (j : Nat) (css : List (List Value)) (v : Value), j ≤ ks.length ∧ i = .int .i64 j ∧ W.heap[w.heap.size + 1 + 1]? = some (.cells #[.string (str o), .int .i64 n, v] 24) ∧ Row3 W5 W v css d ((ks.take j).map (Em.renT L)) ∧ Keep W4 W) (fun i _ => ks.length - (intOf i).toNat)
      case atStart => exact ⟨0, [], _, Nat.zero_le _, rfl, hb5, Row3.nil _ _ _, k5⟩
      case round =>
        obtain ⟨j, css, v, hj, rfl, hbw, hrow, hkw⟩ := hrel
        have kw := Keep.tr k4 hkw
        have hcl0 : css.length = j := by
          have := hrow.len
          rw [List.length_map, List.length_take] at this
          omega
        obtain ⟨rA, rc, rfl⟩ := own_slice hrow.own
        subst hcl0
        have hb0w := (hkw.frm fun _ => False).heap (fun h => h) hb0
        have g2 := top_cells hb0w 2
        simp only [List.getElem?_toArray, List.getElem?_cons_succ, List.getElem?_cons_zero] at g2
        clear hb0w
        by_cases hlt : css.length < ks.length
        · have hlti : (decide ((css.length : Int) < (ks.length : Int))) = true := by simp; omega
          obtain ⟨ad, rfl, hcell⟩ := hr (by omega)
          obtain ⟨cs, hcs, hcl, hkt⟩ := hcell css.length hlt
          have hkt0 := hide hkt
          have HTK := hide (show (ks.take (css.length + 1)).map (Em.renT L) = (ks.take css.length).map (Em.renT L) ++ [Em.renT L ks[css.length]] from by
            rw [List.take_succ_eq_append_getElem hlt, List.map_append]
            rfl)
          have HKD := hide (HKN.out _ (List.getElem_mem hlt))
          have HKE := hide (HKV.out _ (List.getElem_mem hlt))
          generalize ks[css.length] = kt at *
          cases d with
          | zero => exact hkt.elim
          | succ d =>
            obtain ⟨kv, rfl, kn, qA, qc, rfl, _⟩ := hkt
            have c0 := Keep.cell kw (hcl 0 _ rfl)
            rw [Nat.add_zero] at c0
            have c1 := cell_off (Keep.cell kw (hcl 1 _ rfl))
            have c2 := cell_off (Keep.cell kw (hcl 2 _ rfl))
            clear hcell hcl hr
            have HROW := hide hrow
            have HBW := hide hbw
            clear hrow hbw
            go_wp2_with fail
            have k6 : Keep wr wr := Keep.rf _
            have hb6 := (k6.frm fun _ => False).heap (fun h => h) HBW.out
            have b2 := top_cells hb6 2
            simp only [List.getElem?_toArray, List.getElem?_cons_succ, List.getElem?_cons_zero] at b2
            have hr6 := HROW.out.keep k6
            have k46 := Keep.tr hkw k6
            have h56 : W5.heap.size ≤ wr.heap.size := by
              have hx := (Array.getElem?_eq_some_iff.1 hb6).1
              omega
            have HB6 := hide hb6
            have HR6 := hide hr6
            clear hb6 hr6
            apply region_last 13 _ (by kernel_rfl) Keep AnyW krg ktg anyrf anytr anyk [some 43, some 44, some 45, some 46, some 47, some 48, some 49, some 50, some 51, some 52, some 53, some 54, some 55, none] [eqG _ , eqG _ , eqG _ , eqG _ , eqG _ , eqG _ , eqG _ , eqG _ , eqG _ , fun us W v => KidAt wr (d + 1) (Em.renT L kt) v W, fun us W v => LoneAt (us.getD 0 undef) W v, fun us W v => Pushed W4 W5 (w.heap.size + 1 + 1) (str o) n (.slice rA css.length rc) css (d + 1) ((ks.take css.length).map (Em.renT L)) (Em.renT L kt) W v, eqG _ , fun _ _ _ => True] [⟨[], [], true, false, false⟩, ⟨[0], [], true, false, false⟩, ⟨[], [], true, false, false⟩, ⟨[2], [], true, false, false⟩, ⟨[], [], true, false, false⟩, ⟨[3, 4], [], true, false, false⟩, ⟨[5], [], true, false, false⟩, ⟨[], [], true, false, false⟩, ⟨[], [], true, false, false⟩, ⟨[6, 7, 8], [], true, false, true⟩, ⟨[9], [], true, false, true⟩, ⟨[1, 9, 10], [], true, true, true⟩, ⟨[], [], false, false, false⟩, ⟨[11, 12], [], false, false, false⟩] [11, 12] (by kernel_rfl) (by kernel_rfl) (by kernel_rfl) rfl (by kernel_rfl)
            · refine ⟨?_, ?_, ?_, ?_, ?_, ?_, ?_, ?_, ?_, ?_, ?_, ?_, ?_, trivial⟩
              · (intro us W h9 hW hE hd hs K hK; obtain ⟨u0, u1, u2, u3, u4, u5, u6, u7, u8, u9, u10, u11, u12, u13, rfl⟩ := rog 14 h9 rfl; clear h9; clear hd; clear hs; simp only [fillG, List.set_cons_zero, List.set_cons_succ]; refine want_n rfl ?_; go_wp2_with (first | fail); simp only [DoneG, fillG, List.set_cons_zero, List.set_cons_succ, relG, eqG, eqG1, eqG2, eqG3, gdG, gdG1, gnG, gnG1, List.getD_cons_zero, List.getD_cons_succ, List.getElem?_cons_succ, List.getElem?_cons_zero, Option.map_some, Option.getD_some, valsG, List.map_cons, List.map_nil, List.length_cons, List.length_nil]; exact ⟨_, rfl, (by first | with_reducible assumption | exact krg _ | exact Keep.al (krg _) _), fun _ _ => rfl⟩)
              · (intro us W h9 hW hE hd hs K hK; obtain ⟨u0, u1, u2, u3, u4, u5, u6, u7, u8, u9, u10, u11, u12, u13, rfl⟩ := rog 14 h9 rfl; clear h9; simp only [DepG, AtG, and_true, relG, eqG, eqG1, eqG2, eqG3, gdG, gdG1, gnG, gnG1, List.getD_cons_zero, List.getD_cons_succ, List.getElem?_cons_succ, List.getElem?_cons_zero, Option.map_some, Option.getD_some, valsG, List.map_cons, List.map_nil, List.length_cons, List.length_nil] at hd; have d0 := hd; clear hd; subst d0; clear hs; simp only [fillG, List.set_cons_zero, List.set_cons_succ]; have hKW := Keep.tr (Keep.dr (Keep.rf _)) (hE rfl); have b2 := Keep.cell hKW b2; have g2 := Keep.cell hKW g2; have c0 := Keep.cell hKW c0; have c1 := Keep.cell hKW c1; have c2 := Keep.cell hKW c2; refine want_n rfl ?_; go_wp2_with (first | fail); simp only [DoneG, fillG, List.set_cons_zero, List.set_cons_succ, relG, eqG, eqG1, eqG2, eqG3, gdG, gdG1, gnG, gnG1, List.getD_cons_zero, List.getD_cons_succ, List.getElem?_cons_succ, List.getElem?_cons_zero, Option.map_some, Option.getD_some, valsG, List.map_cons, List.map_nil, List.length_cons, List.length_nil]; exact ⟨_, rfl, (by first | with_reducible assumption | exact krg _ | exact Keep.al (krg _) _), fun _ _ => rfl⟩)
              · (intro us W h9 hW hE hd hs K hK; obtain ⟨u0, u1, u2, u3, u4, u5, u6, u7, u8, u9, u10, u11, u12, u13, rfl⟩ := rog 14 h9 rfl; clear h9; clear hd; clear hs; simp only [fillG, List.set_cons_zero, List.set_cons_succ]; refine want_n rfl ?_; go_wp2_with (first | fail); simp only [DoneG, fillG, List.set_cons_zero, List.set_cons_succ, relG, eqG, eqG1, eqG2, eqG3, gdG, gdG1, gnG, gnG1, List.getD_cons_zero, List.getD_cons_succ, List.getElem?_cons_succ, List.getElem?_cons_zero, Option.map_some, Option.getD_some, valsG, List.map_cons, List.map_nil, List.length_cons, List.length_nil]; exact ⟨_, rfl, (by first | with_reducible assumption | exact krg _ | exact Keep.al (krg _) _), fun _ _ => rfl⟩)
              · (intro us W h9 hW hE hd hs K hK; obtain ⟨u0, u1, u2, u3, u4, u5, u6, u7, u8, u9, u10, u11, u12, u13, rfl⟩ := rog 14 h9 rfl; clear h9; simp only [DepG, AtG, and_true, relG, eqG, eqG1, eqG2, eqG3, gdG, gdG1, gnG, gnG1, List.getD_cons_zero, List.getD_cons_succ, List.getElem?_cons_succ, List.getElem?_cons_zero, Option.map_some, Option.getD_some, valsG, List.map_cons, List.map_nil, List.length_cons, List.length_nil] at hd; have d2 := hd; clear hd; subst d2; clear hs; simp only [fillG, List.set_cons_zero, List.set_cons_succ]; have hKW := Keep.tr (Keep.dr (Keep.rf _)) (hE rfl); have b2 := Keep.cell hKW b2; have g2 := Keep.cell hKW g2; have c0 := Keep.cell hKW c0; have c1 := Keep.cell hKW c1; have c2 := Keep.cell hKW c2; refine want_n rfl ?_; go_wp2_with (first | fail); simp only [DoneG, fillG, List.set_cons_zero, List.set_cons_succ, relG, eqG, eqG1, eqG2, eqG3, gdG, gdG1, gnG, gnG1, List.getD_cons_zero, List.getD_cons_succ, List.getElem?_cons_succ, List.getElem?_cons_zero, Option.map_some, Option.getD_some, valsG, List.map_cons, List.map_nil, List.length_cons, List.length_nil]; exact ⟨_, rfl, (by first | with_reducible assumption | exact krg _ | exact Keep.al (krg _) _), fun _ _ => rfl⟩)
              · (intro us W h9 hW hE hd hs K hK; obtain ⟨u0, u1, u2, u3, u4, u5, u6, u7, u8, u9, u10, u11, u12, u13, rfl⟩ := rog 14 h9 rfl; clear h9; clear hd; clear hs; simp only [fillG, List.set_cons_zero, List.set_cons_succ]; refine want_n rfl ?_; go_wp2_with (first | fail); simp only [DoneG, fillG, List.set_cons_zero, List.set_cons_succ, relG, eqG, eqG1, eqG2, eqG3, gdG, gdG1, gnG, gnG1, List.getD_cons_zero, List.getD_cons_succ, List.getElem?_cons_succ, List.getElem?_cons_zero, Option.map_some, Option.getD_some, valsG, List.map_cons, List.map_nil, List.length_cons, List.length_nil]; exact ⟨_, rfl, (by first | with_reducible assumption | exact krg _ | exact Keep.al (krg _) _), fun _ _ => rfl⟩)
              · (intro us W h9 hW hE hd hs K hK; obtain ⟨u0, u1, u2, u3, u4, u5, u6, u7, u8, u9, u10, u11, u12, u13, rfl⟩ := rog 14 h9 rfl; clear h9; simp only [DepG, AtG, and_true, relG, eqG, eqG1, eqG2, eqG3, gdG, gdG1, gnG, gnG1, List.getD_cons_zero, List.getD_cons_succ, List.getElem?_cons_succ, List.getElem?_cons_zero, Option.map_some, Option.getD_some, valsG, List.map_cons, List.map_nil, List.length_cons, List.length_nil] at hd; obtain ⟨d3, d4⟩ := hd; subst d3; subst d4; clear hs; simp only [fillG, List.set_cons_zero, List.set_cons_succ]; refine want_n rfl ?_; go_wp2_with (first | fail); simp only [DoneG, fillG, List.set_cons_zero, List.set_cons_succ, relG, eqG, eqG1, eqG2, eqG3, gdG, gdG1, gnG, gnG1, List.getD_cons_zero, List.getD_cons_succ, List.getElem?_cons_succ, List.getElem?_cons_zero, Option.map_some, Option.getD_some, valsG, List.map_cons, List.map_nil, List.length_cons, List.length_nil]; exact ⟨_, rfl, (by first | with_reducible assumption | exact krg _ | exact Keep.al (krg _) _), fun _ _ => rfl⟩)
              · (intro us W h9 hW hE hd hs K hK; obtain ⟨u0, u1, u2, u3, u4, u5, u6, u7, u8, u9, u10, u11, u12, u13, rfl⟩ := rog 14 h9 rfl; clear h9; simp only [DepG, AtG, and_true, relG, eqG, eqG1, eqG2, eqG3, gdG, gdG1, gnG, gnG1, List.getD_cons_zero, List.getD_cons_succ, List.getElem?_cons_succ, List.getElem?_cons_zero, Option.map_some, Option.getD_some, valsG, List.map_cons, List.map_nil, List.length_cons, List.length_nil] at hd; have d5 := hd; clear hd; subst d5; clear hs; simp only [fillG, List.set_cons_zero, List.set_cons_succ]; have hKW := Keep.tr (Keep.dr (Keep.rf _)) (hE rfl); have b2 := Keep.cell hKW b2; have g2 := Keep.cell hKW g2; have c0 := Keep.cell hKW c0; have c1 := Keep.cell hKW c1; have c2 := Keep.cell hKW c2; refine want_n rfl ?_; go_wp2_with (first | fail); simp only [DoneG, fillG, List.set_cons_zero, List.set_cons_succ, relG, eqG, eqG1, eqG2, eqG3, gdG, gdG1, gnG, gnG1, List.getD_cons_zero, List.getD_cons_succ, List.getElem?_cons_succ, List.getElem?_cons_zero, Option.map_some, Option.getD_some, valsG, List.map_cons, List.map_nil, List.length_cons, List.length_nil]; exact ⟨_, rfl, (by first | with_reducible assumption | exact krg _ | exact Keep.al (krg _) _), fun _ _ => rfl⟩)
              · (intro us W h9 hW hE hd hs K hK; obtain ⟨u0, u1, u2, u3, u4, u5, u6, u7, u8, u9, u10, u11, u12, u13, rfl⟩ := rog 14 h9 rfl; clear h9; clear hd; clear hs; simp only [fillG, List.set_cons_zero, List.set_cons_succ]; refine want_n rfl ?_; go_wp2_with (first | fail); simp only [DoneG, fillG, List.set_cons_zero, List.set_cons_succ, relG, eqG, eqG1, eqG2, eqG3, gdG, gdG1, gnG, gnG1, List.getD_cons_zero, List.getD_cons_succ, List.getElem?_cons_succ, List.getElem?_cons_zero, Option.map_some, Option.getD_some, valsG, List.map_cons, List.map_nil, List.length_cons, List.length_nil]; exact ⟨_, rfl, (by first | with_reducible assumption | exact krg _ | exact Keep.al (krg _) _), fun _ _ => rfl⟩)
              · (intro us W h9 hW hE hd hs K hK; obtain ⟨u0, u1, u2, u3, u4, u5, u6, u7, u8, u9, u10, u11, u12, u13, rfl⟩ := rog 14 h9 rfl; clear h9; clear hd; clear hs; simp only [fillG, List.set_cons_zero, List.set_cons_succ]; refine want_n rfl ?_; go_wp2_with (first | fail); simp only [DoneG, fillG, List.set_cons_zero, List.set_cons_succ, relG, eqG, eqG1, eqG2, eqG3, gdG, gdG1, gnG, gnG1, List.getD_cons_zero, List.getD_cons_succ, List.getElem?_cons_succ, List.getElem?_cons_zero, Option.map_some, Option.getD_some, valsG, List.map_cons, List.map_nil, List.length_cons, List.length_nil]; exact ⟨_, rfl, (by first | with_reducible assumption | exact krg _ | exact Keep.al (krg _) _), fun _ _ => rfl⟩)
              · (intro us W h9 hW hE hd hs K hK; obtain ⟨u0, u1, u2, u3, u4, u5, u6, u7, u8, u9, u10, u11, u12, u13, rfl⟩ := rog 14 h9 rfl; clear h9; simp only [DepG, AtG, and_true, relG, eqG, eqG1, eqG2, eqG3, gdG, gdG1, gnG, gnG1, List.getD_cons_zero, List.getD_cons_succ, List.getElem?_cons_succ, List.getElem?_cons_zero, Option.map_some, Option.getD_some, valsG, List.map_cons, List.map_nil, List.length_cons, List.length_nil] at hd; obtain ⟨d6, d7, d8⟩ := hd; subst d6; subst d7; subst d8; clear hs; simp only [fillG, List.set_cons_zero, List.set_cons_succ]; have hKW := Keep.tr (Keep.dr (Keep.rf _)) (hE rfl); have b2 := Keep.cell hKW b2; have g2 := Keep.cell hKW g2; have c0 := Keep.cell hKW c0; have c1 := Keep.cell hKW c1; have c2 := Keep.cell hKW c2; refine want_n rfl ?_; go_wp2_with (first | (go_at_call 43; refine (IH.out kt _ _ L _ _ (hkt0.out.keep (Keep.tr kw hKW)) (HI.out.keep (Keep.tr kw hKW)) (HB.out.keep (Keep.tr kw hKW) fun _ _ h => h) HKE.out HKD.out).mono ?_; rintro e w9 ⟨o9, n9, A9, m9, c9, rfl, f9, hk9⟩) | fail); simp only [DoneG, fillG, List.set_cons_zero, List.set_cons_succ, relG, eqG, eqG1, eqG2, eqG3, gdG, gdG1, gnG, gnG1, List.getD_cons_zero, List.getD_cons_succ, List.getElem?_cons_succ, List.getElem?_cons_zero, Option.map_some, Option.getD_some, valsG, List.map_cons, List.map_nil, List.length_cons, List.length_nil]; exact ⟨_, rfl, (by first | with_reducible assumption | exact krg _ | exact Keep.al (krg _) _), fun W9 hk9 => KidAt.keep ⟨o9, n9, A9, m9, c9, rfl, f9.mono fun q hq => ⟨Nat.le_trans (Below.size hKW) hq.1, hq.2⟩⟩ hk9⟩)
              · (intro us W h9 hW hE hd hs K hK; obtain ⟨u0, u1, u2, u3, u4, u5, u6, u7, u8, u9, u10, u11, u12, u13, rfl⟩ := rog 14 h9 rfl; clear h9; simp only [DepG, AtG, and_true, relG, eqG, eqG1, eqG2, eqG3, gdG, gdG1, gnG, gnG1, List.getD_cons_zero, List.getD_cons_succ, List.getElem?_cons_succ, List.getElem?_cons_zero, Option.map_some, Option.getD_some, valsG, List.map_cons, List.map_nil, List.length_cons, List.length_nil] at hd; have d9 := hd; clear hd; obtain ⟨o9, n9, A9, m9, c9, rfl, f9⟩ := d9; clear hs; simp only [fillG, List.set_cons_zero, List.set_cons_succ]; have hKW := Keep.tr (Keep.dr (Keep.rf _)) (hE rfl); have b2 := Keep.cell hKW b2; have g2 := Keep.cell hKW g2; have c0 := Keep.cell hKW c0; have c1 := Keep.cell hKW c1; have c2 := Keep.cell hKW c2; refine want_n rfl ?_; go_wp2_with (first | fail); simp only [DoneG, fillG, List.set_cons_zero, List.set_cons_succ, relG, eqG, eqG1, eqG2, eqG3, gdG, gdG1, gnG, gnG1, List.getD_cons_zero, List.getD_cons_succ, List.getElem?_cons_succ, List.getElem?_cons_zero, Option.map_some, Option.getD_some, valsG, List.map_cons, List.map_nil, List.length_cons, List.length_nil]; exact ⟨_, rfl, (by first | with_reducible assumption | exact krg _ | exact Keep.al (krg _) _), fun W9 hk9 => ⟨_, _, rfl, rfl, (hk9.frm fun _ => False).heap (fun h => h) (heap_alloc_new _ _)⟩⟩)
              · (intro us W h9 hW hE hd hs K hK; obtain ⟨u0, u1, u2, u3, u4, u5, u6, u7, u8, u9, u10, u11, u12, u13, rfl⟩ := rog 14 h9 rfl; clear h9; simp only [DepG, AtG, and_true, relG, eqG, eqG1, eqG2, eqG3, gdG, gdG1, gnG, gnG1, List.getD_cons_zero, List.getD_cons_succ, List.getElem?_cons_succ, List.getElem?_cons_zero, Option.map_some, Option.getD_some, valsG, List.map_cons, List.map_nil, List.length_cons, List.length_nil] at hd; obtain ⟨d1, d9, d10⟩ := hd; subst d1; obtain ⟨o9, n9, A9, m9, c9, rfl, f9⟩ := d9; obtain ⟨g5, cs5, rfl, e5, h5⟩ := d10; clear hs; simp only [fillG, List.set_cons_zero, List.set_cons_succ]; have hKW := Keep.tr (Keep.dr (Keep.rf _)) (hE rfl); have b2 := Keep.cell hKW b2; have g2 := Keep.cell hKW g2; have c0 := Keep.cell hKW c0; have c1 := Keep.cell hKW c1; have c2 := Keep.cell hKW c2; refine want_n rfl ?_; injection e5 with e5; subst e5; refine wp_app (.tmp 44) (.tmp 53) 22 rfl W5.heap.size 24 _ 3 48 Tryd.underlying22 typeInfo rfl (by omega) _ css.length css.flatten rfl (own_keep HR6.out.own hKW) _ 1 _ rfl (src3 h5) (one_type _ _ _ _ _) (by simp only [maxLen]; omega) (by omega) (Nat.le_trans h56 (Below.size hKW)) ?_; intro v6 w6 ha; refine hK _ _ ?_; simp only [DoneG, fillG, List.set_cons_zero, List.set_cons_succ, relG, eqG, eqG1, eqG2, eqG3, gdG, gdG1, gnG, gnG1, List.getD_cons_zero, List.getD_cons_succ, List.getElem?_cons_succ, List.getElem?_cons_zero, Option.map_some, Option.getD_some, valsG, List.map_cons, List.map_nil, List.length_cons, List.length_nil]; exact ⟨_, rfl, (by first | with_reducible assumption | exact trivial), fun W9 hk9 => (Pushed.mk (Keep.tr k46 hKW) ((hKW.frm fun _ => False).heap (fun h => h) HB6.out) (by omega) h45 h56 HR6.out (HR6.out.keep hKW) rfl f9 ha).keep hk9⟩)
              · (intro us W h9 hW hE hd hs K hK; obtain ⟨u0, u1, u2, u3, u4, u5, u6, u7, u8, u9, u10, u11, u12, u13, rfl⟩ := rog 14 h9 rfl; clear h9; clear hd; clear hs; simp only [fillG, List.set_cons_zero, List.set_cons_succ]; refine want_n rfl ?_; go_wp2_with (first | fail); simp only [DoneG, fillG, List.set_cons_zero, List.set_cons_succ, relG, eqG, eqG1, eqG2, eqG3, gdG, gdG1, gnG, gnG1, List.getD_cons_zero, List.getD_cons_succ, List.getElem?_cons_succ, List.getElem?_cons_zero, Option.map_some, Option.getD_some, valsG, List.map_cons, List.map_nil, List.length_cons, List.length_nil]; exact ⟨_, rfl, (by first | with_reducible assumption | exact krg _ | exact Keep.al (krg _) _), fun _ _ => rfl⟩)
            (intro us W7 h9 hW hE hA hl9; obtain ⟨u0, u1, u2, u3, u4, u5, u6, u7, u8, u9, u10, u11, u12, u13, rfl⟩ := rog 14 h9 rfl; clear h9; clear hl9; simp only [AllG, AtG, and_true, relG, eqG, eqG1, eqG2, eqG3, gdG, gdG1, gnG, gnG1, List.getD_cons_zero, List.getD_cons_succ, List.getElem?_cons_succ, List.getElem?_cons_zero, Option.map_some, Option.getD_some, valsG, List.map_cons, List.map_nil, List.length_cons, List.length_nil] at hA; obtain ⟨d11, d12⟩ := hA; subst d12; simp only [fillG, List.set_cons_zero, List.set_cons_succ]; refine want_n rfl ?_)
            obtain ⟨cs7, hr7, k47, hb7⟩ := d11
            have tpc := top_cells hb7 2
            have tpf := top_free hb7 2
            simp only [List.getElem?_toArray, List.getElem?_cons_succ, List.getElem?_cons_zero] at tpc
            have hb8 := heap_setT (j := 2) hb7 u11
            have hr8 := hr7.frm (Frm.st (S := (· = w.heap.size + 1 + 1)) (Frm.rf _ W7) (p := ⟨w.heap.size + 1 + 1, 2, none⟩) (.inl rfl) u11) (fun i e => by have e : i = w.heap.size + 1 + 1 := e; omega)
            have k48 : Keep W4 (W7.setCell ⟨w.heap.size + 1 + 1, 2, none⟩ u11) := Keep.st k47 (p := ⟨w.heap.size + 1 + 1, 2, none⟩) (by show W4.heap.size ≤ w.heap.size + 1 + 1; omega) u11
            obtain ⟨n9, A9, c9, e9⟩ : ∃ n A c, u11 = Value.slice A n c := by
              obtain ⟨A, c, e⟩ := own_slice hr7.own
              exact ⟨_, A, c, e⟩
            subst e9
            rw [← HTK.out] at hr8
            have HB8 := hide hb8
            have HR8 := hide hr8
            have K48 := hide k48
            clear hr7 k47 hb7 hb8 hr8 k48 hW hE b2 g2 c0 c1 c2
            go_wp2
            go_roundw
            case rel => exact ⟨css.length + 1, css ++ [cs7], _, by omega, by go_num, HB8.out, HR8.out, K48.out⟩
            case measure => simp [intOf]; omega
        · have hj2 : css.length = ks.length := by omega
          have hlti : (decide ((css.length : Int) < (ks.length : Int))) = false := by simp; omega
          have hb4w := (hkw.frm fun _ => False).heap (fun h => h) hb4
          have x0 := top_cells hbw 0
          have x1 := top_cells hbw 1
          have x2 := top_cells hbw 2
          have y0 := top_cells hb4w 0
          have y1 := top_cells hb4w 1
          have y2 := top_cells hb4w 2
          have z0 := top_free hb4w 0
          have z1 := top_free hb4w 1
          have z2 := top_free hb4w 2
          simp only [List.getElem?_toArray, List.getElem?_cons_succ, List.getElem?_cons_zero] at x0 x1 x2 y0 y1 y2
          have HBF := hide (show (((wr.setCell ⟨w.heap.size + 1, 0, none⟩ (.string (str o))).setCell ⟨w.heap.size + 1, 1, none⟩ (.int .i64 n)).setCell ⟨w.heap.size + 1, 2, none⟩ (.slice rA css.length rc)).heap[w.heap.size + 1]? = some (.cells #[.string (str o), .int .i64 n, .slice rA css.length rc] 24) from heap_setT (j := 2) (heap_setT (j := 1) (heap_setT (j := 0) hb4w (.string (str o))) (.int .i64 n)) (.slice rA css.length rc))
          rw [show ks.take css.length = ks from List.take_of_length_le (by omega)] at hrow
          have HROW := hide hrow
          have hF : Frm (· = w.heap.size + 1) wr (((wr.setCell ⟨w.heap.size + 1, 0, none⟩ (.string (str o))).setCell ⟨w.heap.size + 1, 1, none⟩ (.int .i64 n)).setCell ⟨w.heap.size + 1, 2, none⟩ (.slice rA css.length rc)) :=
            Frm.st (S := (· = w.heap.size + 1)) (p := ⟨w.heap.size + 1, 2, none⟩) (Frm.st (S := (· = w.heap.size + 1)) (p := ⟨w.heap.size + 1, 1, none⟩) (Frm.st (S := (· = w.heap.size + 1)) (p := ⟨w.heap.size + 1, 0, none⟩) (Frm.rf _ wr) (.inl rfl) _) (.inl rfl) _) (.inl rfl) _
          have HF := hide hF
          clear hbw hb4w hrow hF hj2
          go_wp2_with fail
          refine bodyPost_ret_by (results_cell_row rfl _ _ (w.heap.size + 1) 24 _ (0, 0) _ rfl HBF.out Tryd.underlying24 rfl ?_) rfl ?_
          · kernel_rfl
          · have hr2 := HROW.out.frm HF.out (fun i e => by have e : i = w.heap.size + 1 := e; omega)
            have hsz := HF.out.size
            refine ⟨_, _, _, _, _, rfl, ?_, Frm.keep kw HF.out (fun i e => by have e : i = w.heap.size + 1 := e; omega)⟩
            rw [HREN.out]
            refine ⟨_, rfl, hn, fun k hk => ?_, hr2.sl.mono fun _ _ h => h.mono fun k hk => ⟨by omega, hk.2⟩⟩
            have := World.ownsRow.lt hr2.own k hk
            exact ⟨by omega, this.2⟩
end Go.Proofs.YtoippbbodhchkaaDoor
