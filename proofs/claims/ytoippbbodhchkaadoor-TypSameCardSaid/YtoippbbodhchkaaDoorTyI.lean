/- Walks: a type normed (the reference). -/
import Derived.Test.YtoippbbodhchkaaDoorTyH
namespace Go.Proofs.YtoippbbodhchkaaDoor
open Go.RowKit
open Em (Ty)
set_option linter.unusedVariables false
set_option linter.unusedSimpArgs false
set_option maxRecDepth 100000
mutual
/-- Each var of a type is in the row. -/
def varsIn (L : List Int) : Ty → Prop
  | .mk o n ks => (o = Em.wVar → n ∈ L) ∧ varsInL L ks
def varsInL (L : List Int) : List Ty → Prop
  | [] => True
  | k :: ks => varsIn L k ∧ varsInL L ks
end
mutual
theorem varsT_sub (l : List Int) (t : Ty) : ∀ x ∈ l, x ∈ Em.varsT l t := by
  cases t with
  | mk o n ks =>
    intro x hx
    rw [Em.varsT]
    split
    · exact varsL_sub _ ks x (by simp [hx])
    · exact varsL_sub _ ks x hx
theorem varsL_sub (l : List Int) (ks : List Ty) : ∀ x ∈ l, x ∈ Em.varsL l ks := by
  cases ks with
  | nil => intro x hx; exact hx
  | cons k ks =>
    intro x hx
    rw [Em.varsL]
    exact varsL_sub _ ks x (varsT_sub l k x hx)
end
mutual
theorem varsIn_of (l L : List Int) (t : Ty) (h : ∀ x ∈ Em.varsT l t, x ∈ L) : varsIn L t := by
  cases t with
  | mk o n ks =>
    rw [Em.varsT] at h
    rw [varsIn]
    refine ⟨fun ho => ?_, varsInL_of _ L ks h⟩
    by_cases hn : n ∈ l
    · rw [if_neg (fun hh => hh.2 hn)] at h
      exact h n (varsL_sub l ks n hn)
    · rw [if_pos ⟨ho, hn⟩] at h
      exact h n (varsL_sub _ ks n (by simp))
theorem varsInL_of (l L : List Int) (ks : List Ty) (h : ∀ x ∈ Em.varsL l ks, x ∈ L) : varsInL L ks := by
  cases ks with
  | nil => trivial
  | cons k ks =>
    rw [Em.varsL] at h
    rw [varsInL]
    exact ⟨varsIn_of l L k fun x hx => h x (varsL_sub _ ks x hx), varsInL_of _ L ks h⟩
end
theorem varsInL_mem {L : List Int} {ks : List Ty} (h : varsInL L ks) : ∀ k ∈ ks, varsIn L k := by
  induction ks with
  | nil => intro k hk; simp at hk
  | cons a ks ih =>
    rw [varsInL] at h
    intro k hk
    rcases List.mem_cons.1 hk with rfl | hk
    · exact h.1
    · exact ih h.2 k hk
theorem refVar8 (w : World) (n : Int) : Calls Tryd.prog 26 #[.int .i64 n] w fun e w' => e = .returned (.agg #[.string (str Em.wVar), .int .i64 n, .slice none 0 0]) ∧ Keep w w' := by
  go_enter Tryd.func26, Tryd.ntmps26
  go_wp2_with fail
  refine bodyPost_ret_by (results_cell_row rfl _ _ w.heap.size 24 _ (0, 0) _ rfl (by simpa using heap_alloc_new w _) Tryd.underlying24 rfl ?_) rfl ⟨?_, ?_⟩
  · kernel_rfl
  · rfl
  · exact (by repeat (first | exact Keep.rf _ | assumption | apply Keep.al | apply Keep.dr | apply Keep.dn))
/-- The vars 0, 1, .. -/
def KVar (_ : World) (cs : List Value) (i : Nat) : Prop := cs = [.string (str Em.wVar), .int .i64 (i : Int), .slice none 0 0]
set_option maxHeartbeats 8000000 in
theorem refPutVar (d : Nat) (t : Ty) (w : World) (cs : List Value) (L : List Int) (v u : Value) (h : TyK (d + 1) w cs t) (hI : Is w v L) (hB : Sl 3 KVar w u (List.range L.length)) (ho : t.op = Em.wVar) (hm : t.n ∈ L) : Calls Tryd.prog 43 #[.agg cs.toArray, v, u] w fun e w' => e = .returned (.agg #[.string (str Em.wVar), .int .i64 (Em.place L t.n), .slice none 0 0]) ∧ Keep w w' := by
  obtain ⟨kv, rfl, hn, A, c, rfl, _⟩ := h
  have h1c : (str t.op).toList = [118, 97, 114] := by rw [str_list, ho]; rfl
  clear ho
  have HI := hide hI
  have HB := hide hB
  obtain ⟨vA, vc, rfl, v1, v2, hr⟩ := hI
  obtain ⟨uA, uc, rfl, u1, u2, hs⟩ := hB
  simp only [List.length_map, List.length_range] at *
  generalize t.op = o at *
  generalize t.n = n at *
  generalize t.kids = ks at *
  go_enter Tryd.func43, Tryd.ntmps43
  go_wp2_with fail
  generalize hW4 : (w.alloc (.cells #[.string (str o), .int .i64 n, .slice A ks.length c] 24)).alloc (.cells #[.string ⟨#[]⟩, .int .i64 0, .slice none 0 0] 24) = W4
  have k4 : Keep w W4 := by rw [← hW4]; exact (by repeat (first | exact Keep.rf _ | assumption | apply Keep.al | apply Keep.dr | apply Keep.dn))
  have hb4 : W4.heap[w.heap.size + 1]? = some (.cells #[.string ⟨#[]⟩, .int .i64 0, .slice none 0 0] 24) := by
    rw [← hW4]
    have := heap_alloc_new (w.alloc (.cells #[.string (str o), .int .i64 n, .slice A ks.length c] 24)) (.cells #[.string ⟨#[]⟩, .int .i64 0, .slice none 0 0] 24)
    simpa using this
  have hb0 : W4.heap[w.heap.size]? = some (.cells #[.string (str o), .int .i64 n, .slice A ks.length c] 24) := by
    rw [← hW4]
    exact ((Keep.al (Keep.rf _) _).frm fun _ => False).heap (fun h => h) (heap_alloc_new w _)
  clear hW4
  go_loopw [7] (fun i W => ∃ j : Nat, j ≤ L.length ∧ i = .int .i64 j ∧ (∀ x ∈ L.take j, x ≠ n) ∧ Keep W4 W) (fun i _ => L.length - (intOf i).toNat)
  case atStart => exact ⟨0, Nat.zero_le _, rfl, by simp, (by repeat (first | exact Keep.rf _ | assumption | apply Keep.al | apply Keep.dr | apply Keep.dn))⟩
  case round =>
    obtain ⟨j, hj, rfl, hx, hkw⟩ := hrel
    by_cases hlt : j < L.length
    · have hlti : (decide ((j : Int) < (L.length : Int))) = true := by simp; omega
      obtain ⟨vad, rfl, hcell⟩ := hr (by omega)
      have c0 := Keep.cell (Keep.tr k4 hkw) (hcell j hlt)
      simp only [List.getElem_map] at c0
      have hb0w := (hkw.frm fun _ => False).heap (fun h => h) hb0
      have e1 := top_cells hb0w 1
      simp only [List.getElem?_toArray, List.getElem?_cons_succ, List.getElem?_cons_zero] at e1
      by_cases hxn : L[j] = n
      · have HP := hide (place_at hlt hx hxn)
        have hxb : (L[j] == n) = true := by simp [hxn]
        obtain ⟨uad, rfl, hucell⟩ := hs (by omega)
        obtain ⟨ucs, hul, hucl, hku⟩ := hucell j (by simpa using hlt)
        rw [List.getElem_range] at hku
        have hku : ucs = [.string (str Em.wVar), .int .i64 (j : Int), .slice none 0 0] := hku
        subst hku
        have q0 := Keep.cell (Keep.tr k4 hkw) (hucl 0 _ rfl)
        rw [Nat.add_zero] at q0
        have q1 := cell_off (Keep.cell (Keep.tr k4 hkw) (hucl 1 _ rfl))
        have q2 := cell_off (Keep.cell (Keep.tr k4 hkw) (hucl 2 _ rfl))
        have hb4w := (hkw.frm fun _ => False).heap (fun h => h) hb4
        generalize L[j] = lj at *
        clear hxb hx hcell hr hs hucell hucl
        subst hxn
        go_wp2_with fail
        apply region_all (by kernel_rfl) Keep Keep krg ktg krg ktg (fun _ _ h => h) [some 19, some 20, some 21, some 22, some 23, some 24, some 25] [eqG _ , eqG _ , eqG _ , eqG _ , eqG _ , eqG _ , eqG _ ] [⟨[], [], true, false, false⟩, ⟨[], [], true, false, false⟩, ⟨[0, 1], [], true, false, false⟩, ⟨[2], [], true, false, false⟩, ⟨[], [], true, false, false⟩, ⟨[4], [], true, false, false⟩, ⟨[3, 5], [], true, false, false⟩] [6] (by kernel_rfl) (by kernel_rfl) 
        · refine ⟨?_, ?_, ?_, ?_, ?_, ?_, ?_, trivial⟩
          · (intro us W h9 hW hE hd hs K hK; obtain ⟨u0, u1, u2, u3, u4, u5, u6, rfl⟩ := rog 7 h9 rfl; clear h9; clear hd; clear hs; simp only [fillG, List.set_cons_zero, List.set_cons_succ]; refine want_n rfl ?_; go_wp2_with (first | fail); simp only [DoneG, fillG, List.set_cons_zero, List.set_cons_succ, relG, eqG, eqG1, eqG2, eqG3, gdG, gdG1, gnG, gnG1, List.getD_cons_zero, List.getD_cons_succ, List.getElem?_cons_succ, List.getElem?_cons_zero, Option.map_some, Option.getD_some, valsG, List.map_cons, List.map_nil, List.length_cons, List.length_nil]; exact ⟨_, rfl, (by first | with_reducible assumption | exact krg _ | exact Keep.al (krg _) _), fun _ _ => rfl⟩)
          · (intro us W h9 hW hE hd hs K hK; obtain ⟨u0, u1, u2, u3, u4, u5, u6, rfl⟩ := rog 7 h9 rfl; clear h9; clear hd; clear hs; simp only [fillG, List.set_cons_zero, List.set_cons_succ]; refine want_n rfl ?_; go_wp2_with (first | fail); simp only [DoneG, fillG, List.set_cons_zero, List.set_cons_succ, relG, eqG, eqG1, eqG2, eqG3, gdG, gdG1, gnG, gnG1, List.getD_cons_zero, List.getD_cons_succ, List.getElem?_cons_succ, List.getElem?_cons_zero, Option.map_some, Option.getD_some, valsG, List.map_cons, List.map_nil, List.length_cons, List.length_nil]; exact ⟨_, rfl, (by first | with_reducible assumption | exact krg _ | exact Keep.al (krg _) _), fun _ _ => rfl⟩)
          · (intro us W h9 hW hE hd hs K hK; obtain ⟨u0, u1, u2, u3, u4, u5, u6, rfl⟩ := rog 7 h9 rfl; clear h9; simp only [DepG, AtG, and_true, relG, eqG, eqG1, eqG2, eqG3, gdG, gdG1, gnG, gnG1, List.getD_cons_zero, List.getD_cons_succ, List.getElem?_cons_succ, List.getElem?_cons_zero, Option.map_some, Option.getD_some, valsG, List.map_cons, List.map_nil, List.length_cons, List.length_nil] at hd; obtain ⟨d0, d1⟩ := hd; subst d0; subst d1; clear hs; simp only [fillG, List.set_cons_zero, List.set_cons_succ]; refine want_n rfl ?_; go_wp2_with (first | fail); simp only [DoneG, fillG, List.set_cons_zero, List.set_cons_succ, relG, eqG, eqG1, eqG2, eqG3, gdG, gdG1, gnG, gnG1, List.getD_cons_zero, List.getD_cons_succ, List.getElem?_cons_succ, List.getElem?_cons_zero, Option.map_some, Option.getD_some, valsG, List.map_cons, List.map_nil, List.length_cons, List.length_nil]; exact ⟨_, rfl, (by first | with_reducible assumption | exact krg _ | exact Keep.al (krg _) _), fun _ _ => rfl⟩)
          · (intro us W h9 hW hE hd hs K hK; obtain ⟨u0, u1, u2, u3, u4, u5, u6, rfl⟩ := rog 7 h9 rfl; clear h9; simp only [DepG, AtG, and_true, relG, eqG, eqG1, eqG2, eqG3, gdG, gdG1, gnG, gnG1, List.getD_cons_zero, List.getD_cons_succ, List.getElem?_cons_succ, List.getElem?_cons_zero, Option.map_some, Option.getD_some, valsG, List.map_cons, List.map_nil, List.length_cons, List.length_nil] at hd; have d2 := hd; clear hd; subst d2; clear hs; simp only [fillG, List.set_cons_zero, List.set_cons_succ]; have hKW := Keep.tr (Keep.dr (Keep.rf _)) (hE rfl); have c0 := Keep.cell hKW c0; have e1 := Keep.cell hKW e1; refine want_n rfl ?_; go_wp2_with (first | fail); simp only [DoneG, fillG, List.set_cons_zero, List.set_cons_succ, relG, eqG, eqG1, eqG2, eqG3, gdG, gdG1, gnG, gnG1, List.getD_cons_zero, List.getD_cons_succ, List.getElem?_cons_succ, List.getElem?_cons_zero, Option.map_some, Option.getD_some, valsG, List.map_cons, List.map_nil, List.length_cons, List.length_nil]; exact ⟨_, rfl, (by first | with_reducible assumption | exact krg _ | exact Keep.al (krg _) _), fun _ _ => rfl⟩)
          · (intro us W h9 hW hE hd hs K hK; obtain ⟨u0, u1, u2, u3, u4, u5, u6, rfl⟩ := rog 7 h9 rfl; clear h9; clear hd; clear hs; simp only [fillG, List.set_cons_zero, List.set_cons_succ]; refine want_n rfl ?_; go_wp2_with (first | fail); simp only [DoneG, fillG, List.set_cons_zero, List.set_cons_succ, relG, eqG, eqG1, eqG2, eqG3, gdG, gdG1, gnG, gnG1, List.getD_cons_zero, List.getD_cons_succ, List.getElem?_cons_succ, List.getElem?_cons_zero, Option.map_some, Option.getD_some, valsG, List.map_cons, List.map_nil, List.length_cons, List.length_nil]; exact ⟨_, rfl, (by first | with_reducible assumption | exact krg _ | exact Keep.al (krg _) _), fun _ _ => rfl⟩)
          · (intro us W h9 hW hE hd hs K hK; obtain ⟨u0, u1, u2, u3, u4, u5, u6, rfl⟩ := rog 7 h9 rfl; clear h9; simp only [DepG, AtG, and_true, relG, eqG, eqG1, eqG2, eqG3, gdG, gdG1, gnG, gnG1, List.getD_cons_zero, List.getD_cons_succ, List.getElem?_cons_succ, List.getElem?_cons_zero, Option.map_some, Option.getD_some, valsG, List.map_cons, List.map_nil, List.length_cons, List.length_nil] at hd; have d4 := hd; clear hd; subst d4; clear hs; simp only [fillG, List.set_cons_zero, List.set_cons_succ]; have hKW := Keep.tr (Keep.dr (Keep.rf _)) (hE rfl); have c0 := Keep.cell hKW c0; have e1 := Keep.cell hKW e1; refine want_n rfl ?_; go_wp2_with (first | fail); simp only [DoneG, fillG, List.set_cons_zero, List.set_cons_succ, relG, eqG, eqG1, eqG2, eqG3, gdG, gdG1, gnG, gnG1, List.getD_cons_zero, List.getD_cons_succ, List.getElem?_cons_succ, List.getElem?_cons_zero, Option.map_some, Option.getD_some, valsG, List.map_cons, List.map_nil, List.length_cons, List.length_nil]; exact ⟨_, rfl, (by first | with_reducible assumption | exact krg _ | exact Keep.al (krg _) _), fun _ _ => rfl⟩)
          · (intro us W h9 hW hE hd hs K hK; obtain ⟨u0, u1, u2, u3, u4, u5, u6, rfl⟩ := rog 7 h9 rfl; clear h9; simp only [DepG, AtG, and_true, relG, eqG, eqG1, eqG2, eqG3, gdG, gdG1, gnG, gnG1, List.getD_cons_zero, List.getD_cons_succ, List.getElem?_cons_succ, List.getElem?_cons_zero, Option.map_some, Option.getD_some, valsG, List.map_cons, List.map_nil, List.length_cons, List.length_nil] at hd; obtain ⟨d3, d5⟩ := hd; subst d3; subst d5; clear hs; simp only [fillG, List.set_cons_zero, List.set_cons_succ]; refine want_n rfl ?_; go_wp2_with (first | fail); simp only [DoneG, fillG, List.set_cons_zero, List.set_cons_succ, relG, eqG, eqG1, eqG2, eqG3, gdG, gdG1, gnG, gnG1, List.getD_cons_zero, List.getD_cons_succ, List.getElem?_cons_succ, List.getElem?_cons_zero, Option.map_some, Option.getD_some, valsG, List.map_cons, List.map_nil, List.length_cons, List.length_nil]; exact ⟨_, rfl, (by first | with_reducible assumption | exact krg _ | exact Keep.al (krg _) _), fun _ _ => rfl⟩)
        (intro us W7 h9 hW hE hA; obtain ⟨u0, u1, u2, u3, u4, u5, u6, rfl⟩ := rog 7 h9 rfl; clear h9; simp only [AllG, AtG, and_true, relG, eqG, eqG1, eqG2, eqG3, gdG, gdG1, gnG, gnG1, List.getD_cons_zero, List.getD_cons_succ, List.getElem?_cons_succ, List.getElem?_cons_zero, Option.map_some, Option.getD_some, valsG, List.map_cons, List.map_nil, List.length_cons, List.length_nil] at hA; have d6 := hA; clear hA; subst d6; simp only [fillG, List.set_cons_zero, List.set_cons_succ]; have k7 := Keep.tr (Keep.dr (Keep.rf _)) hW; clear hW hE)
        replace q0 := Keep.cell k7 q0
        replace q1 := Keep.cell k7 q1
        replace q2 := Keep.cell k7 q2
        have hb7 := (k7.frm fun _ => False).heap (fun h => h) hb4w
        have kw := Keep.tr k4 (Keep.tr hkw k7)
        have y0 := top_cells hb7 0
        have y1 := top_cells hb7 1
        have y2 := top_cells hb7 2
        have z0 := top_free hb7 0
        have z1 := top_free hb7 1
        have z2 := top_free hb7 2
        simp only [List.getElem?_toArray, List.getElem?_cons_succ, List.getElem?_cons_zero] at y0 y1 y2
        have HBF := hide (show (((W7.setCell ⟨w.heap.size + 1, 0, none⟩ (.string (str Em.wVar))).setCell ⟨w.heap.size + 1, 1, none⟩ (.int .i64 (j : Int))).setCell ⟨w.heap.size + 1, 2, none⟩ (.slice none 0 0)).heap[w.heap.size + 1]? = some (.cells #[.string (str Em.wVar), .int .i64 (j : Int), .slice none 0 0] 24) from heap_setT (j := 2) (heap_setT (j := 1) (heap_setT (j := 0) hb7 (.string (str Em.wVar))) (.int .i64 (j : Int))) (.slice none 0 0))
        have hF : Frm (· = w.heap.size + 1) W7 (((W7.setCell ⟨w.heap.size + 1, 0, none⟩ (.string (str Em.wVar))).setCell ⟨w.heap.size + 1, 1, none⟩ (.int .i64 (j : Int))).setCell ⟨w.heap.size + 1, 2, none⟩ (.slice none 0 0)) :=
          Frm.st (S := (· = w.heap.size + 1)) (p := ⟨w.heap.size + 1, 2, none⟩) (Frm.st (S := (· = w.heap.size + 1)) (p := ⟨w.heap.size + 1, 1, none⟩) (Frm.st (S := (· = w.heap.size + 1)) (p := ⟨w.heap.size + 1, 0, none⟩) (Frm.rf _ W7) (.inl rfl) _) (.inl rfl) _) (.inl rfl) _
        have HF := hide hF
        clear hb7 hF hb0w hb4w c0 e1
        go_wp2_with fail
        refine bodyPost_ret_by (results_cell_row rfl _ _ (w.heap.size + 1) 24 _ (0, 0) _ rfl HBF.out Tryd.underlying24 rfl ?_) rfl ?_
        · kernel_rfl
        · exact ⟨by rw [HP.out], Frm.keep kw HF.out fun i e => by have e : i = w.heap.size + 1 := e; omega⟩
      · have hxb : (L[j] == n) = false := by simpa using hxn
        have HS := hide (show ∀ x ∈ L.take (j + 1), x ≠ n from by
          rw [List.take_succ_eq_append_getElem hlt]
          intro x hm
          rcases List.mem_append.1 hm with hm | hm
          · exact hx x hm
          · rw [List.mem_singleton.1 hm]; exact hxn)
        generalize L[j] = lj at *
        clear hxn hx hcell hr hs
        go_wp2_with fail
        apply region_all (by kernel_rfl) Keep Keep krg ktg krg ktg (fun _ _ h => h) [some 19, some 20, some 21, some 22, some 23, some 24, some 25] [eqG _ , eqG _ , eqG _ , eqG _ , eqG _ , eqG _ , eqG _ ] [⟨[], [], true, false, false⟩, ⟨[], [], true, false, false⟩, ⟨[0, 1], [], true, false, false⟩, ⟨[2], [], true, false, false⟩, ⟨[], [], true, false, false⟩, ⟨[4], [], true, false, false⟩, ⟨[3, 5], [], true, false, false⟩] [6] (by kernel_rfl) (by kernel_rfl) 
        · refine ⟨?_, ?_, ?_, ?_, ?_, ?_, ?_, trivial⟩
          · (intro us W h9 hW hE hd hs K hK; obtain ⟨u0, u1, u2, u3, u4, u5, u6, rfl⟩ := rog 7 h9 rfl; clear h9; clear hd; clear hs; simp only [fillG, List.set_cons_zero, List.set_cons_succ]; refine want_n rfl ?_; go_wp2_with (first | fail); simp only [DoneG, fillG, List.set_cons_zero, List.set_cons_succ, relG, eqG, eqG1, eqG2, eqG3, gdG, gdG1, gnG, gnG1, List.getD_cons_zero, List.getD_cons_succ, List.getElem?_cons_succ, List.getElem?_cons_zero, Option.map_some, Option.getD_some, valsG, List.map_cons, List.map_nil, List.length_cons, List.length_nil]; exact ⟨_, rfl, (by first | with_reducible assumption | exact krg _ | exact Keep.al (krg _) _), fun _ _ => rfl⟩)
          · (intro us W h9 hW hE hd hs K hK; obtain ⟨u0, u1, u2, u3, u4, u5, u6, rfl⟩ := rog 7 h9 rfl; clear h9; clear hd; clear hs; simp only [fillG, List.set_cons_zero, List.set_cons_succ]; refine want_n rfl ?_; go_wp2_with (first | fail); simp only [DoneG, fillG, List.set_cons_zero, List.set_cons_succ, relG, eqG, eqG1, eqG2, eqG3, gdG, gdG1, gnG, gnG1, List.getD_cons_zero, List.getD_cons_succ, List.getElem?_cons_succ, List.getElem?_cons_zero, Option.map_some, Option.getD_some, valsG, List.map_cons, List.map_nil, List.length_cons, List.length_nil]; exact ⟨_, rfl, (by first | with_reducible assumption | exact krg _ | exact Keep.al (krg _) _), fun _ _ => rfl⟩)
          · (intro us W h9 hW hE hd hs K hK; obtain ⟨u0, u1, u2, u3, u4, u5, u6, rfl⟩ := rog 7 h9 rfl; clear h9; simp only [DepG, AtG, and_true, relG, eqG, eqG1, eqG2, eqG3, gdG, gdG1, gnG, gnG1, List.getD_cons_zero, List.getD_cons_succ, List.getElem?_cons_succ, List.getElem?_cons_zero, Option.map_some, Option.getD_some, valsG, List.map_cons, List.map_nil, List.length_cons, List.length_nil] at hd; obtain ⟨d0, d1⟩ := hd; subst d0; subst d1; clear hs; simp only [fillG, List.set_cons_zero, List.set_cons_succ]; refine want_n rfl ?_; go_wp2_with (first | fail); simp only [DoneG, fillG, List.set_cons_zero, List.set_cons_succ, relG, eqG, eqG1, eqG2, eqG3, gdG, gdG1, gnG, gnG1, List.getD_cons_zero, List.getD_cons_succ, List.getElem?_cons_succ, List.getElem?_cons_zero, Option.map_some, Option.getD_some, valsG, List.map_cons, List.map_nil, List.length_cons, List.length_nil]; exact ⟨_, rfl, (by first | with_reducible assumption | exact krg _ | exact Keep.al (krg _) _), fun _ _ => rfl⟩)
          · (intro us W h9 hW hE hd hs K hK; obtain ⟨u0, u1, u2, u3, u4, u5, u6, rfl⟩ := rog 7 h9 rfl; clear h9; simp only [DepG, AtG, and_true, relG, eqG, eqG1, eqG2, eqG3, gdG, gdG1, gnG, gnG1, List.getD_cons_zero, List.getD_cons_succ, List.getElem?_cons_succ, List.getElem?_cons_zero, Option.map_some, Option.getD_some, valsG, List.map_cons, List.map_nil, List.length_cons, List.length_nil] at hd; have d2 := hd; clear hd; subst d2; clear hs; simp only [fillG, List.set_cons_zero, List.set_cons_succ]; have hKW := Keep.tr (Keep.dr (Keep.rf _)) (hE rfl); have c0 := Keep.cell hKW c0; have e1 := Keep.cell hKW e1; refine want_n rfl ?_; go_wp2_with (first | fail); simp only [DoneG, fillG, List.set_cons_zero, List.set_cons_succ, relG, eqG, eqG1, eqG2, eqG3, gdG, gdG1, gnG, gnG1, List.getD_cons_zero, List.getD_cons_succ, List.getElem?_cons_succ, List.getElem?_cons_zero, Option.map_some, Option.getD_some, valsG, List.map_cons, List.map_nil, List.length_cons, List.length_nil]; exact ⟨_, rfl, (by first | with_reducible assumption | exact krg _ | exact Keep.al (krg _) _), fun _ _ => rfl⟩)
          · (intro us W h9 hW hE hd hs K hK; obtain ⟨u0, u1, u2, u3, u4, u5, u6, rfl⟩ := rog 7 h9 rfl; clear h9; clear hd; clear hs; simp only [fillG, List.set_cons_zero, List.set_cons_succ]; refine want_n rfl ?_; go_wp2_with (first | fail); simp only [DoneG, fillG, List.set_cons_zero, List.set_cons_succ, relG, eqG, eqG1, eqG2, eqG3, gdG, gdG1, gnG, gnG1, List.getD_cons_zero, List.getD_cons_succ, List.getElem?_cons_succ, List.getElem?_cons_zero, Option.map_some, Option.getD_some, valsG, List.map_cons, List.map_nil, List.length_cons, List.length_nil]; exact ⟨_, rfl, (by first | with_reducible assumption | exact krg _ | exact Keep.al (krg _) _), fun _ _ => rfl⟩)
          · (intro us W h9 hW hE hd hs K hK; obtain ⟨u0, u1, u2, u3, u4, u5, u6, rfl⟩ := rog 7 h9 rfl; clear h9; simp only [DepG, AtG, and_true, relG, eqG, eqG1, eqG2, eqG3, gdG, gdG1, gnG, gnG1, List.getD_cons_zero, List.getD_cons_succ, List.getElem?_cons_succ, List.getElem?_cons_zero, Option.map_some, Option.getD_some, valsG, List.map_cons, List.map_nil, List.length_cons, List.length_nil] at hd; have d4 := hd; clear hd; subst d4; clear hs; simp only [fillG, List.set_cons_zero, List.set_cons_succ]; have hKW := Keep.tr (Keep.dr (Keep.rf _)) (hE rfl); have c0 := Keep.cell hKW c0; have e1 := Keep.cell hKW e1; refine want_n rfl ?_; go_wp2_with (first | fail); simp only [DoneG, fillG, List.set_cons_zero, List.set_cons_succ, relG, eqG, eqG1, eqG2, eqG3, gdG, gdG1, gnG, gnG1, List.getD_cons_zero, List.getD_cons_succ, List.getElem?_cons_succ, List.getElem?_cons_zero, Option.map_some, Option.getD_some, valsG, List.map_cons, List.map_nil, List.length_cons, List.length_nil]; exact ⟨_, rfl, (by first | with_reducible assumption | exact krg _ | exact Keep.al (krg _) _), fun _ _ => rfl⟩)
          · (intro us W h9 hW hE hd hs K hK; obtain ⟨u0, u1, u2, u3, u4, u5, u6, rfl⟩ := rog 7 h9 rfl; clear h9; simp only [DepG, AtG, and_true, relG, eqG, eqG1, eqG2, eqG3, gdG, gdG1, gnG, gnG1, List.getD_cons_zero, List.getD_cons_succ, List.getElem?_cons_succ, List.getElem?_cons_zero, Option.map_some, Option.getD_some, valsG, List.map_cons, List.map_nil, List.length_cons, List.length_nil] at hd; obtain ⟨d3, d5⟩ := hd; subst d3; subst d5; clear hs; simp only [fillG, List.set_cons_zero, List.set_cons_succ]; refine want_n rfl ?_; go_wp2_with (first | fail); simp only [DoneG, fillG, List.set_cons_zero, List.set_cons_succ, relG, eqG, eqG1, eqG2, eqG3, gdG, gdG1, gnG, gnG1, List.getD_cons_zero, List.getD_cons_succ, List.getElem?_cons_succ, List.getElem?_cons_zero, Option.map_some, Option.getD_some, valsG, List.map_cons, List.map_nil, List.length_cons, List.length_nil]; exact ⟨_, rfl, (by first | with_reducible assumption | exact krg _ | exact Keep.al (krg _) _), fun _ _ => rfl⟩)
        (intro us W7 h9 hW hE hA; obtain ⟨u0, u1, u2, u3, u4, u5, u6, rfl⟩ := rog 7 h9 rfl; clear h9; simp only [AllG, AtG, and_true, relG, eqG, eqG1, eqG2, eqG3, gdG, gdG1, gnG, gnG1, List.getD_cons_zero, List.getD_cons_succ, List.getElem?_cons_succ, List.getElem?_cons_zero, Option.map_some, Option.getD_some, valsG, List.map_cons, List.map_nil, List.length_cons, List.length_nil] at hA; have d6 := hA; clear hA; subst d6; simp only [fillG, List.set_cons_zero, List.set_cons_succ]; have k7 := Keep.tr (Keep.dr (Keep.rf _)) hW; clear hW hE)
        go_wp2_with fail
        go_roundw
        case rel => exact ⟨j + 1, by omega, by go_num, HS.out, Keep.tr hkw k7⟩
        case measure => simp [intOf]; omega
    · exact absurd hm fun hm => hx n (by rw [List.take_of_length_le (by omega)]; exact hm) rfl
end Go.Proofs.YtoippbbodhchkaaDoor
