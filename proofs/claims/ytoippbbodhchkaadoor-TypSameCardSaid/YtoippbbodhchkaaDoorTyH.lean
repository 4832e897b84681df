/- Walk: a type normed (package typ). -/
import Derived.Test.YtoippbbodhchkaaDoorTyG
namespace Go.Proofs.YtoippbbodhchkaaDoor
open Go.RowKit
open Em (Ty)
set_option linter.unusedVariables false
set_option linter.unusedSimpArgs false
set_option maxRecDepth 100000
/-- What Norm gives. -/
def NormR (w : World) (d : Nat) (t : Ty) (e : Ending) (w' : World) : Prop :=
  ∃ o n A m c, e = .returned (.agg #[.string o, .int .i64 n, .slice A m c]) ∧ TyF (fun k => w.heap.size ≤ k ∧ k < w'.heap.size) d w' [.string o, .int .i64 n, .slice A m c] (Em.normT t) ∧ Keep w w'
/-- A row of numbers, and all else as it was. -/
def IsAt (L : List Int) (W : World) (v : Value) : Prop := ∃ A c, v = .slice A L.length c ∧ Is W (.slice A L.length c) L
theorem IsAt.keep {L : List Int} {W W' : World} {v : Value} (h : IsAt L W v) (k : Keep W W') : IsAt L W' v := by
  obtain ⟨A, c, h1, h2⟩ := h
  exact ⟨A, c, h1, h2.keep k⟩
theorem IsAt.of_grew {w0 W : World} {v : Value} {L : List Int} (h : Grew w0 v L W) : IsAt L W v := by
  obtain ⟨A, c, rfl⟩ := own_slice h.1
  exact ⟨A, c, rfl, is_own h.1⟩
set_option maxHeartbeats 4000000 in
theorem typNorm (d : Nat) (t : Ty) (w : World) (cs : List Value) (h : TyK d w cs t) (hnd : nodes t ≤ 100000) : Calls Tryd.prog 20 #[.agg cs.toArray] w (NormR w d t) := by
  cases d with
  | zero => exact h.elim
  | succ d =>
    have HT := hide h
    have HV := hide fun W (k : Keep w W) => typVars t W _ ⟨d + 1, cs, rfl, h.keep k⟩ (by have := vars_nodes [] t; simp at this; omega)
    obtain ⟨kv, rfl, kn, kA, kc, rfl, _⟩ := h
    go_enter Tryd.func20, Tryd.ntmps20
    go_wp2_with fail
    generalize hW4 : (w.alloc (.cells #[.string (str t.op), .int .i64 t.n, .slice kA t.kids.length kc] 24)).alloc (.cells #[.string ⟨#[]⟩, .int .i64 0, .slice none 0 0] 24) = W4
    have k4 : Keep w W4 := by rw [← hW4]; exact (by repeat (first | exact Keep.rf _ | assumption | apply Keep.al | apply Keep.dr | apply Keep.dn))
    have hs4 : W4.heap.size = w.heap.size + 2 := by rw [← hW4]; simp
    have hb4 : W4.heap[w.heap.size + 1]? = some (.cells #[.string ⟨#[]⟩, .int .i64 0, .slice none 0 0] 24) := by
      rw [← hW4]
      have := heap_alloc_new (w.alloc (.cells #[.string (str t.op), .int .i64 t.n, .slice kA t.kids.length kc] 24)) (.cells #[.string ⟨#[]⟩, .int .i64 0, .slice none 0 0] 24)
      simpa using this
    have hb0 : W4.heap[w.heap.size]? = some (.cells #[.string (str t.op), .int .i64 t.n, .slice kA t.kids.length kc] 24) := by
      rw [← hW4]
      exact ((Keep.al (Keep.rf _) _).frm fun _ => False).heap (fun h => h) (heap_alloc_new w _)
    have e0 := top_cells hb0 0
    have e1 := top_cells hb0 1
    have e2 := top_cells hb0 2
    simp only [List.getElem?_toArray, List.getElem?_cons_succ, List.getElem?_cons_zero] at e0 e1 e2
    clear hW4
    apply region_last 4 _ (by kernel_rfl) Keep Keep krg ktg krg ktg (fun _ _ h => h) [some 3, some 4, some 5, some 6, none] [eqG _ , eqG _ , fun us W v => IsAt (Em.varsT [] t) W v, fun us W v => KidAt W4 (d + 1) (Em.normT t) v W, fun _ _ _ => True] [⟨[], [], true, false, false⟩, ⟨[], [], true, false, false⟩, ⟨[1], [], true, false, false⟩, ⟨[0, 2], [], true, false, false⟩, ⟨[3], [], true, false, false⟩] [2, 3] (by kernel_rfl) (by kernel_rfl) (by kernel_rfl) rfl (by kernel_rfl)
    · refine ⟨?_, ?_, ?_, ?_, trivial⟩
      · (intro us W h9 hW hE hd hs K hK; obtain ⟨u0, u1, u2, u3, u4, rfl⟩ := rog 5 h9 rfl; clear h9; clear hd; clear hs; simp only [fillG, List.set_cons_zero, List.set_cons_succ]; have hKW := Keep.tr (Keep.dr (Keep.rf _)) (hE rfl); have e0 := Keep.cell hKW e0; have e1 := Keep.cell hKW e1; have e2 := Keep.cell hKW e2; refine want_n rfl ?_; go_wp2_with (first | fail); simp only [DoneG, fillG, List.set_cons_zero, List.set_cons_succ, relG, eqG, eqG1, eqG2, eqG3, gdG, gdG1, gnG, gnG1, List.getD_cons_zero, List.getD_cons_succ, List.getElem?_cons_succ, List.getElem?_cons_zero, Option.map_some, Option.getD_some, valsG, List.map_cons, List.map_nil, List.length_cons, List.length_nil]; exact ⟨_, rfl, (by first | with_reducible assumption | exact krg _ | exact Keep.al (krg _) _), fun _ _ => rfl⟩)
      · (intro us W h9 hW hE hd hs K hK; obtain ⟨u0, u1, u2, u3, u4, rfl⟩ := rog 5 h9 rfl; clear h9; clear hd; clear hs; simp only [fillG, List.set_cons_zero, List.set_cons_succ]; have hKW := Keep.tr (Keep.dr (Keep.rf _)) (hE rfl); have e0 := Keep.cell hKW e0; have e1 := Keep.cell hKW e1; have e2 := Keep.cell hKW e2; refine want_n rfl ?_; go_wp2_with (first | fail); simp only [DoneG, fillG, List.set_cons_zero, List.set_cons_succ, relG, eqG, eqG1, eqG2, eqG3, gdG, gdG1, gnG, gnG1, List.getD_cons_zero, List.getD_cons_succ, List.getElem?_cons_succ, List.getElem?_cons_zero, Option.map_some, Option.getD_some, valsG, List.map_cons, List.map_nil, List.length_cons, List.length_nil]; exact ⟨_, rfl, (by first | with_reducible assumption | exact krg _ | exact Keep.al (krg _) _), fun _ _ => rfl⟩)
      · (intro us W h9 hW hE hd hs K hK; obtain ⟨u0, u1, u2, u3, u4, rfl⟩ := rog 5 h9 rfl; clear h9; simp only [DepG, AtG, and_true, relG, eqG, eqG1, eqG2, eqG3, gdG, gdG1, gnG, gnG1, List.getD_cons_zero, List.getD_cons_succ, List.getElem?_cons_succ, List.getElem?_cons_zero, Option.map_some, Option.getD_some, valsG, List.map_cons, List.map_nil, List.length_cons, List.length_nil] at hd; have d1 := hd; clear hd; subst d1; clear hs; simp only [fillG, List.set_cons_zero, List.set_cons_succ]; have hKW := Keep.tr (Keep.dr (Keep.rf _)) (hE rfl); have e0 := Keep.cell hKW e0; have e1 := Keep.cell hKW e1; have e2 := Keep.cell hKW e2; refine want_n rfl ?_; go_wp2_with (first | (go_at_call 17; refine (HV.out _ (Keep.tr k4 hKW)).mono ?_; rintro e w9 ⟨v9, rfl, g9⟩; have hk9 := g9.2) | fail); simp only [DoneG, fillG, List.set_cons_zero, List.set_cons_succ, relG, eqG, eqG1, eqG2, eqG3, gdG, gdG1, gnG, gnG1, List.getD_cons_zero, List.getD_cons_succ, List.getElem?_cons_succ, List.getElem?_cons_zero, Option.map_some, Option.getD_some, valsG, List.map_cons, List.map_nil, List.length_cons, List.length_nil]; exact ⟨_, rfl, (by first | with_reducible assumption | exact krg _ | exact Keep.al (krg _) _), fun W9 hk9 => IsAt.keep (IsAt.of_grew g9) hk9⟩)
      · (intro us W h9 hW hE hd hs K hK; obtain ⟨u0, u1, u2, u3, u4, rfl⟩ := rog 5 h9 rfl; clear h9; simp only [DepG, AtG, and_true, relG, eqG, eqG1, eqG2, eqG3, gdG, gdG1, gnG, gnG1, List.getD_cons_zero, List.getD_cons_succ, List.getElem?_cons_succ, List.getElem?_cons_zero, Option.map_some, Option.getD_some, valsG, List.map_cons, List.map_nil, List.length_cons, List.length_nil] at hd; obtain ⟨d0, d2⟩ := hd; subst d0; obtain ⟨A2, c2, rfl, i2⟩ := d2; clear hs; simp only [fillG, List.set_cons_zero, List.set_cons_succ]; have hKW := Keep.tr (Keep.dr (Keep.rf _)) (hE rfl); have e0 := Keep.cell hKW e0; have e1 := Keep.cell hKW e1; have e2 := Keep.cell hKW e2; refine want_n rfl ?_; go_wp2_with (first | (go_at_call 42; refine (typRenamed (d + 1) t _ _ (Em.varsT [] t) _ (HT.out.keep (Keep.tr k4 hKW)) i2 hnd).mono ?_; rintro e w9 ⟨o9, n9, A9, m9, c9, rfl, f9, hk9⟩) | fail); simp only [DoneG, fillG, List.set_cons_zero, List.set_cons_succ, relG, eqG, eqG1, eqG2, eqG3, gdG, gdG1, gnG, gnG1, List.getD_cons_zero, List.getD_cons_succ, List.getElem?_cons_succ, List.getElem?_cons_zero, Option.map_some, Option.getD_some, valsG, List.map_cons, List.map_nil, List.length_cons, List.length_nil]; exact ⟨_, rfl, (by first | with_reducible assumption | exact krg _ | exact Keep.al (krg _) _), fun W9 hk9 => KidAt.keep ⟨o9, n9, A9, m9, c9, rfl, f9.mono fun q hq => ⟨Nat.le_trans (Below.size hKW) hq.1, hq.2⟩⟩ hk9⟩)
    (intro us W7 h9 hW hE hA hl9; obtain ⟨u0, u1, u2, u3, u4, rfl⟩ := rog 5 h9 rfl; clear h9; clear hl9; simp only [AllG, AtG, and_true, relG, eqG, eqG1, eqG2, eqG3, gdG, gdG1, gnG, gnG1, List.getD_cons_zero, List.getD_cons_succ, List.getElem?_cons_succ, List.getElem?_cons_zero, Option.map_some, Option.getD_some, valsG, List.map_cons, List.map_nil, List.length_cons, List.length_nil] at hA; obtain ⟨d2, d3⟩ := hA; obtain ⟨A2, c2, rfl, i2⟩ := d2; obtain ⟨o9, n9, A9, m9, c9, rfl, f9⟩ := d3; simp only [fillG, List.set_cons_zero, List.set_cons_succ]; have k7 := Keep.tr (Keep.dr (Keep.rf _)) hW; clear hW hE; refine want_n rfl ?_)
    have hb7 := (k7.frm fun _ => False).heap (fun h => h) hb4
    have kw := Keep.tr k4 k7
    have y0 := top_cells hb7 0
    have y1 := top_cells hb7 1
    have y2 := top_cells hb7 2
    have z0 := top_free hb7 0
    have z1 := top_free hb7 1
    have z2 := top_free hb7 2
    simp only [List.getElem?_toArray, List.getElem?_cons_succ, List.getElem?_cons_zero] at y0 y1 y2
    have HBF := hide (show (((W7.setCell ⟨w.heap.size + 1, 0, none⟩ (.string o9)).setCell ⟨w.heap.size + 1, 1, none⟩ (.int .i64 n9)).setCell ⟨w.heap.size + 1, 2, none⟩ (.slice A9 m9 c9)).heap[w.heap.size + 1]? = some (.cells #[.string o9, .int .i64 n9, .slice A9 m9 c9] 24) from heap_setT (j := 2) (heap_setT (j := 1) (heap_setT (j := 0) hb7 (.string o9)) (.int .i64 n9)) (.slice A9 m9 c9))
    have hF : Frm (· = w.heap.size + 1) W7 (((W7.setCell ⟨w.heap.size + 1, 0, none⟩ (.string o9)).setCell ⟨w.heap.size + 1, 1, none⟩ (.int .i64 n9)).setCell ⟨w.heap.size + 1, 2, none⟩ (.slice A9 m9 c9)) :=
      Frm.st (S := (· = w.heap.size + 1)) (p := ⟨w.heap.size + 1, 2, none⟩) (Frm.st (S := (· = w.heap.size + 1)) (p := ⟨w.heap.size + 1, 1, none⟩) (Frm.st (S := (· = w.heap.size + 1)) (p := ⟨w.heap.size + 1, 0, none⟩) (Frm.rf _ W7) (.inl rfl) _) (.inl rfl) _) (.inl rfl) _
    have HF := hide hF
    have FF := hide f9
    clear hb7 hF f9 e0 e1 e2 hb0 hb4 i2
    go_wp2_with fail
    refine bodyPost_ret_by (results_cell_row rfl _ _ (w.heap.size + 1) 24 _ (0, 0) _ rfl HBF.out Tryd.underlying24 rfl ?_) rfl ?_
    · kernel_rfl
    · have hsz := HF.out.size
      exact ⟨_, _, _, _, _, rfl, (FF.out.frm HF.out fun k hk e => by have e : k = w.heap.size + 1 := e; omega).mono fun k hk => ⟨by omega, by omega⟩, Frm.keep kw HF.out fun i e => by have e : i = w.heap.size + 1 := e; omega⟩
end Go.Proofs.YtoippbbodhchkaaDoor
