/- Walks: the graph of a number; the laws' own check (shape). -/
import Derived.Test.YtilhglnfjaablaaShapeT
import Derived.Test.YtilhglnfjaablaaLibK
import Derived.Test.YtilhglnfjaablaaReg
namespace Go.Proofs.Ytilhglnfjaablaa
open Go.RowKit
set_option linter.unusedVariables false
set_option linter.unusedSimpArgs false
set_option maxRecDepth 100000
theorem drawRefInt (w : World) (dv : Value) (n : Int) (ho : n % 2 = 1) : Calls Try.prog 47 #[dv, .int .i64 n] w fun e w' => e = .returned (.agg #[.bool true, .int .i64 (n / 2)]) ∧ Keep w w' := by
  have ho1 : (n % 2 == 1) = true := by simpa using ho
  clear ho
  go_enter Try.func47, Try.ntmps47
  go_wp2_with fail
  refine (heapIsInt n _).mono ?_
  rintro e w1 ⟨rfl, rfl⟩
  rw [ho1]
  go_wp2_with fail
  refine (heapNum n _).mono ?_
  rintro e w1 ⟨rfl, rfl⟩
  go_wp2_with fail
  refine bodyPost_ret_by (results_cell_row rfl _ _ w.heap.size 31 _ (0, 0) _ rfl (by simpa using heap_alloc_new w _) Try.underlying31 rfl ?_) rfl ⟨?_, ?_⟩
  · kernel_rfl
  · rfl
  · exact (by repeat (first | exact Keep.rf _ | assumption | apply Keep.al | apply Keep.dr | apply Keep.dn))
set_option maxHeartbeats 4000000 in
theorem shapeOfInt (w : World) (q : Option Addr) (n : Int) (ho : n % 2 = 1) : Calls Try.prog 13 #[.pointer q, .int .i64 n] w fun e w' => e = .returned (.tuple #[.agg #[.bool true, .int .i64 (n / 2), .slice none 0 0], .int .i64 0]) ∧ Keep w w' := by
  have HO := hide ho
  clear ho
  have hmm := @run_makeMap Try.prog
  go_enter Try.func13, Try.ntmps13
  go_wp2_with fail
  refine (drawRefInt _ _ n HO.out).mono ?_
  rintro e w1 ⟨rfl, k1⟩
  have hG : ((((w.alloc (.cells #[.bool false, .int .i64 0, .slice none 0 0] 34)).alloc (.map #[] 0)).alloc (.cells #[.pointer q, .map (some (w.heap.size + 1)), .slice none 0 0, .bool false] 88))).heap[w.heap.size]? = some (.cells #[.bool false, .int .i64 0, .slice none 0 0] 34) :=
    (((by repeat (first | exact Keep.rf _ | assumption | apply Keep.al | apply Keep.dr | apply Keep.dn)) : Keep (w.alloc (.cells #[.bool false, .int .i64 0, .slice none 0 0] 34)) _).frm fun _ => False).heap (fun h => h) (heap_alloc_new w _)
  have hD : ((((w.alloc (.cells #[.bool false, .int .i64 0, .slice none 0 0] 34)).alloc (.map #[] 0)).alloc (.cells #[.pointer q, .map (some (w.heap.size + 1)), .slice none 0 0, .bool false] 88))).heap[w.heap.size + 1 + 1]? = some (.cells #[.pointer q, .map (some (w.heap.size + 1)), .slice none 0 0, .bool false] 88) := by
    have := heap_alloc_new ((w.alloc (.cells #[.bool false, .int .i64 0, .slice none 0 0] 34)).alloc (.map #[] 0)) (.cells #[.pointer q, .map (some (w.heap.size + 1)), .slice none 0 0, .bool false] 88)
    simpa using this
  have k0 : Keep w (((w.alloc (.cells #[.bool false, .int .i64 0, .slice none 0 0] 34)).alloc (.map #[] 0)).alloc (.cells #[.pointer q, .map (some (w.heap.size + 1)), .slice none 0 0, .bool false] 88)) := (by repeat (first | exact Keep.rf _ | assumption | apply Keep.al | apply Keep.dr | apply Keep.dn))
  generalize World.alloc (World.alloc (World.alloc w _) _) _ = W1 at *
  have kal := Keep.al k1 (.cells #[.bool true, .int .i64 (n / 2)] 31)
  have hx := heap_alloc_new w1 (.cells #[.bool true, .int .i64 (n / 2)] 31)
  have hG2 := (kal.frm fun _ => False).heap (fun h => h) hG
  have hD2 := (kal.frm fun _ => False).heap (fun h => h) hD
  have k02 := Keep.tr k0 kal
  have x0 := top_cells hx 0
  have x1 := top_cells hx 1
  have d2 := top_cells hD2 2
  have d3 := top_cells hD2 3
  have g0 := top_cells hG2 0
  have g1 := top_cells hG2 1
  have g2 := top_cells hG2 2
  simp only [List.getElem?_toArray, List.getElem?_cons_succ, List.getElem?_cons_zero] at x0 x1 d2 d3 g0 g1 g2
  have HG2 := hide hG2
  clear hx hG hD hG2 hD2 kal k1 k0 hmm
  go_wp2_with fail
  generalize World.alloc w1 _ = W2 at *
  generalize w1.heap.size = r at *
  apply region_all (by kernel_rfl) Keep (Frm (· = w.heap.size)) krg ktg (Frm.rf _) (fun _ _ _ => Frm.tr) (fun _ _ h => Keep.frm h _) [some 29, some 30, some 31, some 32, some 33, some 34, none, some 5] [eqG _ , eqG _ , eqG _ , eqG _ , eqG _ , eqG _ , fun us W v => W.heap[w.heap.size]? = some (.cells #[.bool true, .int .i64 (n / 2), .slice none 0 0] 34), eqG _ ] [⟨[], [], true, false, false⟩, ⟨[], [], true, false, false⟩, ⟨[1], [], true, false, false⟩, ⟨[2], [], true, false, false⟩, ⟨[3], [], true, false, false⟩, ⟨[0, 4], [], true, false, false⟩, ⟨[5], [], true, true, true⟩, ⟨[], [], false, false, false⟩] [6, 7] (by kernel_rfl) (by kernel_rfl) 
  · refine ⟨?_, ?_, ?_, ?_, ?_, ?_, ?_, ?_, trivial⟩
    · (intro us W h9 hW hE hd hs K hK; obtain ⟨u0, u1, u2, u3, u4, u5, u6, u7, rfl⟩ := rog 8 h9 rfl; clear h9; clear hd; clear hs; simp only [fillG, List.set_cons_zero, List.set_cons_succ]; have hKW := Keep.tr (Keep.dr (Keep.rf _)) (hE rfl); have x0 := Keep.cell hKW x0; have x1 := Keep.cell hKW x1; have d2 := Keep.cell hKW d2; have g0 := Keep.cell hKW g0; have g1 := Keep.cell hKW g1; have g2 := Keep.cell hKW g2; refine want_n rfl ?_; go_wp2_with (first | fail); simp only [DoneG, fillG, List.set_cons_zero, List.set_cons_succ, relG, eqG, eqG1, eqG2, eqG3, gdG, gdG1, gnG, gnG1, List.getD_cons_zero, List.getD_cons_succ, List.getElem?_cons_succ, List.getElem?_cons_zero, Option.map_some, Option.getD_some, valsG, List.map_cons, List.map_nil, List.length_cons, List.length_nil]; exact ⟨_, rfl, (by first | with_reducible assumption | exact krg _ | exact Keep.al (krg _) _), fun _ _ => rfl⟩)
    · (intro us W h9 hW hE hd hs K hK; obtain ⟨u0, u1, u2, u3, u4, u5, u6, u7, rfl⟩ := rog 8 h9 rfl; clear h9; clear hd; clear hs; simp only [fillG, List.set_cons_zero, List.set_cons_succ]; refine want_n rfl ?_; go_wp2_with (first | fail); simp only [DoneG, fillG, List.set_cons_zero, List.set_cons_succ, relG, eqG, eqG1, eqG2, eqG3, gdG, gdG1, gnG, gnG1, List.getD_cons_zero, List.getD_cons_succ, List.getElem?_cons_succ, List.getElem?_cons_zero, Option.map_some, Option.getD_some, valsG, List.map_cons, List.map_nil, List.length_cons, List.length_nil]; exact ⟨_, rfl, (by first | with_reducible assumption | exact krg _ | exact Keep.al (krg _) _), fun _ _ => rfl⟩)
    · (intro us W h9 hW hE hd hs K hK; obtain ⟨u0, u1, u2, u3, u4, u5, u6, u7, rfl⟩ := rog 8 h9 rfl; clear h9; simp only [DepG, AtG, and_true, relG, eqG, eqG1, eqG2, eqG3, gdG, gdG1, gnG, gnG1, List.getD_cons_zero, List.getD_cons_succ, List.getElem?_cons_succ, List.getElem?_cons_zero, Option.map_some, Option.getD_some, valsG, List.map_cons, List.map_nil, List.length_cons, List.length_nil] at hd; have d1 := hd; clear hd; subst d1; clear hs; simp only [fillG, List.set_cons_zero, List.set_cons_succ]; refine want_n rfl ?_; go_wp2_with (first | fail); simp only [DoneG, fillG, List.set_cons_zero, List.set_cons_succ, relG, eqG, eqG1, eqG2, eqG3, gdG, gdG1, gnG, gnG1, List.getD_cons_zero, List.getD_cons_succ, List.getElem?_cons_succ, List.getElem?_cons_zero, Option.map_some, Option.getD_some, valsG, List.map_cons, List.map_nil, List.length_cons, List.length_nil]; exact ⟨_, rfl, (by first | with_reducible assumption | exact krg _ | exact Keep.al (krg _) _), fun _ _ => rfl⟩)
    · (intro us W h9 hW hE hd hs K hK; obtain ⟨u0, u1, u2, u3, u4, u5, u6, u7, rfl⟩ := rog 8 h9 rfl; clear h9; simp only [DepG, AtG, and_true, relG, eqG, eqG1, eqG2, eqG3, gdG, gdG1, gnG, gnG1, List.getD_cons_zero, List.getD_cons_succ, List.getElem?_cons_succ, List.getElem?_cons_zero, Option.map_some, Option.getD_some, valsG, List.map_cons, List.map_nil, List.length_cons, List.length_nil] at hd; have d2 := hd; clear hd; subst d2; clear hs; simp only [fillG, List.set_cons_zero, List.set_cons_succ]; refine want_n rfl ?_; go_wp2_with (first | fail); simp only [DoneG, fillG, List.set_cons_zero, List.set_cons_succ, relG, eqG, eqG1, eqG2, eqG3, gdG, gdG1, gnG, gnG1, List.getD_cons_zero, List.getD_cons_succ, List.getElem?_cons_succ, List.getElem?_cons_zero, Option.map_some, Option.getD_some, valsG, List.map_cons, List.map_nil, List.length_cons, List.length_nil]; exact ⟨_, rfl, (by first | with_reducible assumption | exact krg _ | exact Keep.al (krg _) _), fun _ _ => rfl⟩)
    · (intro us W h9 hW hE hd hs K hK; obtain ⟨u0, u1, u2, u3, u4, u5, u6, u7, rfl⟩ := rog 8 h9 rfl; clear h9; simp only [DepG, AtG, and_true, relG, eqG, eqG1, eqG2, eqG3, gdG, gdG1, gnG, gnG1, List.getD_cons_zero, List.getD_cons_succ, List.getElem?_cons_succ, List.getElem?_cons_zero, Option.map_some, Option.getD_some, valsG, List.map_cons, List.map_nil, List.length_cons, List.length_nil] at hd; have d3 := hd; clear hd; subst d3; clear hs; simp only [fillG, List.set_cons_zero, List.set_cons_succ]; have hKW := Keep.tr (Keep.dr (Keep.rf _)) (hE rfl); have x0 := Keep.cell hKW x0; have x1 := Keep.cell hKW x1; have d2 := Keep.cell hKW d2; have g0 := Keep.cell hKW g0; have g1 := Keep.cell hKW g1; have g2 := Keep.cell hKW g2; refine want_n rfl ?_; go_wp2_with (first | fail); simp only [DoneG, fillG, List.set_cons_zero, List.set_cons_succ, relG, eqG, eqG1, eqG2, eqG3, gdG, gdG1, gnG, gnG1, List.getD_cons_zero, List.getD_cons_succ, List.getElem?_cons_succ, List.getElem?_cons_zero, Option.map_some, Option.getD_some, valsG, List.map_cons, List.map_nil, List.length_cons, List.length_nil]; exact ⟨_, rfl, (by first | with_reducible assumption | exact krg _ | exact Keep.al (krg _) _), fun _ _ => rfl⟩)
    · (intro us W h9 hW hE hd hs K hK; obtain ⟨u0, u1, u2, u3, u4, u5, u6, u7, rfl⟩ := rog 8 h9 rfl; clear h9; simp only [DepG, AtG, and_true, relG, eqG, eqG1, eqG2, eqG3, gdG, gdG1, gnG, gnG1, List.getD_cons_zero, List.getD_cons_succ, List.getElem?_cons_succ, List.getElem?_cons_zero, Option.map_some, Option.getD_some, valsG, List.map_cons, List.map_nil, List.length_cons, List.length_nil] at hd; obtain ⟨d0, d4⟩ := hd; subst d0; subst d4; clear hs; simp only [fillG, List.set_cons_zero, List.set_cons_succ]; refine want_n rfl ?_; go_wp2_with (first | fail); simp only [DoneG, fillG, List.set_cons_zero, List.set_cons_succ, relG, eqG, eqG1, eqG2, eqG3, gdG, gdG1, gnG, gnG1, List.getD_cons_zero, List.getD_cons_succ, List.getElem?_cons_succ, List.getElem?_cons_zero, Option.map_some, Option.getD_some, valsG, List.map_cons, List.map_nil, List.length_cons, List.length_nil]; exact ⟨_, rfl, (by first | with_reducible assumption | exact krg _ | exact Keep.al (krg _) _), fun _ _ => rfl⟩)
    · (intro us W h9 hW hE hd hs K hK; obtain ⟨u0, u1, u2, u3, u4, u5, u6, u7, rfl⟩ := rog 8 h9 rfl; clear h9; simp only [DepG, AtG, and_true, relG, eqG, eqG1, eqG2, eqG3, gdG, gdG1, gnG, gnG1, List.getD_cons_zero, List.getD_cons_succ, List.getElem?_cons_succ, List.getElem?_cons_zero, Option.map_some, Option.getD_some, valsG, List.map_cons, List.map_nil, List.length_cons, List.length_nil] at hd; have d5 := hd; clear hd; subst d5; clear hs; simp only [fillG, List.set_cons_zero, List.set_cons_succ]; have hKW := Keep.tr (Keep.dr (Keep.rf _)) (hE rfl); have x0 := Keep.cell hKW x0; have x1 := Keep.cell hKW x1; have d2 := Keep.cell hKW d2; have g0 := Keep.cell hKW g0; have g1 := Keep.cell hKW g1; have g2 := Keep.cell hKW g2; refine want_n rfl ?_; have hg9 := (hKW.frm fun _ => False).heap (fun h => h) HG2.out; have f0 := top_free hg9 0; have f1 := top_free hg9 1; have f2 := top_free hg9 2; have hrel9 := frm_set3 W w.heap.size (.bool true) (.int .i64 (n / 2)) (.slice none 0 0); go_wp2_with fail; simp only [DoneG, fillG, List.set_cons_zero, List.set_cons_succ, relG, eqG, eqG1, eqG2, eqG3, gdG, gdG1, gnG, gnG1, List.getD_cons_zero, List.getD_cons_succ, List.getElem?_cons_succ, List.getElem?_cons_zero, Option.map_some, Option.getD_some, valsG, List.map_cons, List.map_nil, List.length_cons, List.length_nil]; exact ⟨undef, trivial, (by first | with_reducible assumption | exact trivial), fun W9 hk9 => ((hk9.frm fun _ => False).heap (fun h => h) (heap_set3 ((hKW.frm fun _ => False).heap (fun h => h) HG2.out) _ _ _))⟩)
    · (intro us W h9 hW hE hd hs K hK; obtain ⟨u0, u1, u2, u3, u4, u5, u6, u7, rfl⟩ := rog 8 h9 rfl; clear h9; clear hd; clear hs; simp only [fillG, List.set_cons_zero, List.set_cons_succ]; refine want_n rfl ?_; go_wp2_with (first | fail); simp only [DoneG, fillG, List.set_cons_zero, List.set_cons_succ, relG, eqG, eqG1, eqG2, eqG3, gdG, gdG1, gnG, gnG1, List.getD_cons_zero, List.getD_cons_succ, List.getElem?_cons_succ, List.getElem?_cons_zero, Option.map_some, Option.getD_some, valsG, List.map_cons, List.map_nil, List.length_cons, List.length_nil]; exact ⟨_, rfl, (by first | with_reducible assumption | exact krg _ | exact Keep.al (krg _) _), fun _ _ => rfl⟩)
  (intro us W4 h9 hW hE hA; obtain ⟨u0, u1, u2, u3, u4, u5, u6, u7, rfl⟩ := rog 8 h9 rfl; clear h9; simp only [AllG, AtG, and_true, relG, eqG, eqG1, eqG2, eqG3, gdG, gdG1, gnG, gnG1, List.getD_cons_zero, List.getD_cons_succ, List.getElem?_cons_succ, List.getElem?_cons_zero, Option.map_some, Option.getD_some, valsG, List.map_cons, List.map_nil, List.length_cons, List.length_nil] at hA; obtain ⟨d6, d7⟩ := hA; subst d7; simp only [fillG, List.set_cons_zero, List.set_cons_succ])
  go_wp2_with fail
  refine bodyPost_ret_by (results_cell2 rfl _ _ w.heap.size 34 _ (0, 0) _ rfl d6 Try.underlying34 rfl ?_) rfl ⟨rfl, ?_⟩
  · kernel_rfl
  · exact Frm.keep (Keep.tr k02 (by repeat (first | exact Keep.rf _ | assumption | apply Keep.al | apply Keep.dr | apply Keep.dn))) hW (fun i e => by have e : i = w.heap.size := e; omega)
end Go.Proofs.Ytilhglnfjaablaa
