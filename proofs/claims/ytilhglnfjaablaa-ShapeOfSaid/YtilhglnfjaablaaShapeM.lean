/- The law ShapeOf: walk. -/
import Derived.Test.YtilhglnfjaablaaShapeV
import Derived.Test.YtilhglnfjaablaaShapeR
namespace Go.Proofs.Ytilhglnfjaablaa
open Go.RowKit Go.Maps
set_option linter.unusedVariables false
set_option linter.unusedSimpArgs false
set_option maxRecDepth 100000
set_option maxHeartbeats 16000000 in
theorem ShapeOf_walk (w : World) (words : Int) (hwo : (Lit.int .i64 words).wf = true) (v : Value) (tags : List Int) (hv : Is w v tags ∧ ∀ n ∈ tags, (Lit.int .i64 n).wf = true) (_ : tags.length ≤ 17592186044416) (u : Value) (fields : List (List Int)) (hu : Sl 1 KIs w u fields) (_ : True) (n : Int) (hn : (Lit.int .i64 n).wf = true) :
    Calls Try.prog 3 #[.int .i64 words, v, u, .int .i64 n] w fun e w' => e = .returned (.bool true) ∧ Keep w w' := by
  have HP := lawPair w words hwo v tags hv.1 hv.2 u fields hu
  obtain ⟨tA, tc, rfl, _⟩ := hv.1
  obtain ⟨fA, fc, rfl, _⟩ := hu
  simp only [List.length_map] at HP ⊢
  clear hv
  go_enter Try.func3, Try.ntmps3
  go_wp2_with fail
  refine HP.mono ?_
  intro e w1 R
  clear HP
  rcases R with ⟨rfl, k1⟩ | ⟨p, q, m, S, T, H, lv, l, rfl, rfl, hB, hl⟩
  · by_cases h4 : words > 400
    all_goals
      go_wp2_with fail
      go_ret
      exact ⟨rfl, k1⟩
  by_cases h4 : (m : Int) > 400
  · go_wp2_with fail
    go_ret
    exact ⟨rfl, hB.2.2.2.2.2⟩
  obtain ⟨b1, b2, b3, b4, b5, b6⟩ := hB
  obtain ⟨lA, lc, rfl, _⟩ := hl
  go_wp2_with fail
  refine (shapeOf _ b1 n hn).mono ?_
  rintro e w2 ⟨a, rfl, hga, k2⟩
  have HGA := hide hga
  obtain ⟨ua, rfl, _, ⟨aA, ac, rfl, _⟩⟩ := hga
  generalize hg : Em.ofH H n = o at *
  obtain ⟨g, c⟩ := o
  simp only at *
  have HG := hide hg
  clear hg
  go_wp2_with fail
  have ka := Keep.al (Keep.rf w2) (.cells #[.bool g.root.1, .int .i64 g.root.2, .slice aA g.blocks.length ac] 34)
  have hxa := heap_alloc_new w2 (.cells #[.bool g.root.1, .int .i64 g.root.2, .slice aA g.blocks.length ac] 34)
  have k13 := Keep.tr k2 ka
  have HGA3 := hide (HGA.out.keep ka)
  clear HGA ka k2
  generalize hsa : w2.heap.size = xa at *
  clear hsa
  generalize World.alloc w2 _ = w3 at *
  refine (ref18Of _ (b2.keep k13) n hn).mono ?_
  rintro e w4 ⟨b, rfl, hgb, k4⟩
  rw [HG.out] at hgb ⊢
  have HGB := hide hgb
  obtain ⟨ub, rfl, _, ⟨bA, bc, rfl, _⟩⟩ := hgb
  simp only
  go_wp2_with fail
  have kb := Keep.al (Keep.rf w4) (.cells #[.bool g.root.1, .int .i64 g.root.2, .slice bA g.blocks.length bc] 34)
  have hxb := heap_alloc_new w4 (.cells #[.bool g.root.1, .int .i64 g.root.2, .slice bA g.blocks.length bc] 34)
  have k35 := Keep.tr k4 kb
  have k15 := Keep.tr k13 k35
  have HGA5 := hide (HGA3.out.keep k35)
  have HGB5 := hide (HGB.out.keep kb)
  have hxa5 := (k35.frm fun _ => False).heap (fun h => h) hxa
  clear HGA3 HGB kb k4 k13 k35 hxa
  generalize hsb : w4.heap.size = xb at *
  clear hsb
  generalize World.alloc w4 _ = w5 at *
  refine (shapeText _ (b1.keep k15) n hn).mono ?_
  rintro e w6 ⟨k6, rfl⟩
  have k16 := Keep.tr k15 k6
  go_wp2_with fail
  refine (ref18Text _ (b2.keep k16) n hn).mono ?_
  rintro e w7 ⟨k7, rfl⟩
  have k57 := Keep.tr k6 k7
  have hxa7 := (k57.frm fun _ => False).heap (fun h => h) hxa5
  have hxb7 := (k57.frm fun _ => False).heap (fun h => h) hxb
  have HGA7 := hide (HGA5.out.keep k57)
  have HGB7 := hide (HGB5.out.keep k57)
  have a0 := top_cells hxa7 0
  have a1 := top_cells hxa7 1
  have a2 := top_cells hxa7 2
  have d0 := top_cells hxb7 0
  have d1 := top_cells hxb7 1
  have d2 := top_cells hxb7 2
  simp only [List.getElem?_toArray, List.getElem?_cons_succ, List.getElem?_cons_zero] at a0 a1 a2 d0 d1 d2
  have K7 := hide (Keep.tr b6 (Keep.tr k16 k7))
  generalize (Em.textH H n).getD [] = tx
  generalize (Em.textH H n).isSome = tb
  clear hxa5 hxb hxa7 hxb7 HGA5 HGB5 k15 k16 k6 k7 k57 b6
  go_wp2_with fail
  refine (refSame18 g g _ _ _ HGA7.out HGB7.out).mono ?_
  rintro e w8 ⟨rfl, k8⟩
  rw [decide_eq_true rfl]
  have hsn : ((str tx).toList == (str tx).toList) = true := by simp
  cases tb
  all_goals
    go_wp2_with fail
    refine (law18Known w8).mono ?_
    rintro e w9 ⟨rfl, k9⟩
    go_wp2_with fail
    go_ret
    exact ⟨rfl, Keep.tr K7.out (Keep.tr k8 k9)⟩
end Go.Proofs.Ytilhglnfjaablaa
