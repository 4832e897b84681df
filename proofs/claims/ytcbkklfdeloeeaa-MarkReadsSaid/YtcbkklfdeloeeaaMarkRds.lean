/- The law MarkReads: walk. -/
import Derived.Test.YtcbkklfdeloeeaaMarkU
namespace Go.Proofs.Ytcbkklfdeloeeaa
open Go.RowKit
open Em (Ty)
set_option linter.unusedVariables false
set_option maxRecDepth 100000
set_option maxHeartbeats 8000000 in
theorem MarkReads_walk (w : World) (v : Value) (l : List UInt8) (hb : Bs w v l) (_hz : l.length ≤ 140737488351232) : Calls Try.prog 13 #[v] w fun e w' => e = .returned (.bool true) ∧ Keep w w' := by
  have HB := hide hb
  obtain ⟨A, c, rfl, hlc, hcm, _⟩ := hb
  by_cases g1 : 200 < l.length
  · go_enter Try.func13, Try.ntmps13
    go_wp2_with fail
    go_ret
    exact ⟨rfl, (by repeat (first | exact Keep.rf _ | assumption | apply Keep.al | apply Keep.dr | apply Keep.dn))⟩
  go_enter Try.func13, Try.ntmps13
  go_wp2_with fail
  refine (markRead w _ l HB.out).mono ?_
  rintro e w1 ⟨o1, n1, A1, m1, c1, rfl, k1, t1⟩
  have hb1 := heap_alloc_new w1 (.cells #[.string o1, .int .i64 n1, .slice A1 m1 c1] 26)
  have k1' : Keep w (w1.alloc (.cells #[.string o1, .int .i64 n1, .slice A1 m1 c1] 26)) := Keep.al k1 _
  have t1' := t1.keep (Keep.al (Keep.rf w1) (.cells #[.string o1, .int .i64 n1, .slice A1 m1 c1] 26))
  generalize hbo : (Em.readT l).isSome = bo
  have HBO := hide hbo
  have R2 := hide fun W (k : Keep w W) => refRead12 W _ l (HB.out.keep k)
  clear t1 hbo
  go_wp2_with fail
  generalize World.alloc w1 _ = W1 at *
  refine (R2.out _ k1').mono ?_
  rintro e w2 ⟨o2, n2, A2, m2, c2, rfl, k2, t2⟩
  rw [HBO.out]
  have hb2 := heap_alloc_new w2 (.cells #[.string o2, .int .i64 n2, .slice A2 m2 c2] 26)
  have k2' : Keep W1 (w2.alloc (.cells #[.string o2, .int .i64 n2, .slice A2 m2 c2] 26)) := Keep.al k2 _
  have t2' := t2.keep (Keep.al (Keep.rf w2) (.cells #[.string o2, .int .i64 n2, .slice A2 m2 c2] 26))
  have hb1' := (k2'.frm fun _ => False).heap (fun h => h) hb1
  have t1'' := t1'.keep k2'
  have x0 := top_cells hb1' 0
  have x1 := top_cells hb1' 1
  have x2 := top_cells hb1' 2
  have y0 := top_cells hb2 0
  have y1 := top_cells hb2 1
  have y2 := top_cells hb2 2
  simp only [List.getElem?_toArray, List.getElem?_cons_succ, List.getElem?_cons_zero] at x0 x1 x2 y0 y1 y2
  have kk := Keep.tr k1' k2'
  have HS := hide (refSame1 2000 _ _ _ _ _ t1'' t2')
  clear t2 t1' t2' hb1 hb2 hb1' t1'' k2 k2' k1 k1'
  go_wp2_with fail
  generalize World.alloc w2 _ = W2 at *
  refine HS.out.mono ?_
  rintro e w3 ⟨rfl, k3⟩
  rw [Em.eqT_refl]
  cases bo
  all_goals
    go_wp2_with fail
    refine (markKnown _).mono ?_
    rintro e w4 ⟨rfl, k4⟩
    go_wp2_with fail
    go_ret
    exact ⟨rfl, Keep.tr (Keep.tr kk k3) k4⟩
end Go.Proofs.Ytcbkklfdeloeeaa
