/- Walks: are two values one? (reference of shape) -/
import Derived.Test.YtilhglnfjaablaaShapeB
namespace Go.Proofs.Ytilhglnfjaablaa
open Go.RowKit
set_option linter.unusedVariables false
set_option maxRecDepth 100000
theorem rf_eq (x y : Bool × Int) : decide (x = y) = (decide (x.1 = y.1) && decide (x.2 = y.2)) := by
  obtain ⟨x1, x2⟩ := x
  obtain ⟨y1, y2⟩ := y
  rw [Bool.eq_iff_iff, Bool.and_eq_true, decide_eq_true_iff, decide_eq_true_iff, decide_eq_true_iff, Prod.mk.injEq]
set_option maxHeartbeats 4000000 in
theorem refSame1s (x y : Bool × Int) (w : World) : Calls Try.prog 53 #[.agg #[.bool x.1, .int .i64 x.2], .agg #[.bool y.1, .int .i64 y.2]] w fun e w' => e = .returned (.bool (decide (x = y))) ∧ Keep w w' := by
  rw [rf_eq]
  obtain ⟨b1, n1⟩ := x
  obtain ⟨b2, n2⟩ := y
  simp only
  by_cases hn : n1 = n2
  · subst hn
    cases b1 <;> cases b2
    all_goals
      go_enter Try.func53, Try.ntmps53
      go_wp2_with fail
      go_ret
      exact ⟨by simp, (by repeat (first | exact Keep.rf _ | assumption | apply Keep.al | apply Keep.dr | apply Keep.dn))⟩
  · have hn2 : (n1 == n2) = false := by simpa using hn
    rw [decide_eq_false hn, Bool.and_false]
    cases b1 <;> cases b2
    all_goals
      go_enter Try.func53, Try.ntmps53
      go_wp2_with fail
      go_ret
      exact ⟨rfl, (by repeat (first | exact Keep.rf _ | assumption | apply Keep.al | apply Keep.dr | apply Keep.dn))⟩
theorem gr_eq (g h : Em.Gr) : decide (g = h) = (decide (g.root = h.root) && decide (g.blocks = h.blocks)) := by
  obtain ⟨g1, g2⟩ := g
  obtain ⟨h1, h2⟩ := h
  rw [Bool.eq_iff_iff, Bool.and_eq_true, decide_eq_true_iff, decide_eq_true_iff, decide_eq_true_iff, Em.Gr.mk.injEq]
set_option maxHeartbeats 8000000 in
theorem shapeSame (g h : Em.Gr) (w : World) (v v' : Value) (hg : GrV w v g) (hh : GrV w v' h) : Calls Try.prog 24 #[v, v'] w fun e w' => e = .returned (.bool (decide (g = h))) ∧ Keep w w' := by
  have hq := gr_eq g h
  obtain ⟨u, rfl, _, hu⟩ := hg
  obtain ⟨u', rfl, _, hu'⟩ := hh
  have HF := hide fun W (k : Keep w W) => blksEqual g.blocks h.blocks W u u' (hu.keep k fun _ _ h => h.keep k) (hu'.keep k fun _ _ h => h.keep k)
  obtain ⟨A, c, rfl, _⟩ := hu
  obtain ⟨A', c', rfl, _⟩ := hu'
  obtain ⟨⟨b1, n1⟩, xs⟩ := g
  obtain ⟨⟨b2, n2⟩, ys⟩ := h
  simp only at hq HF ⊢
  rw [rf_eq] at hq
  simp only at hq
  generalize decide ((⟨(b1, n1), xs⟩ : Em.Gr) = ⟨(b2, n2), ys⟩) = q at hq ⊢
  generalize decide (xs = ys) = kq at *
  by_cases hn : n1 = n2
  · subst hn
    by_cases hb : b1 = b2
    · subst hb
      have HQ := hide (hq.trans (show _ = kq by rw [decide_eq_true rfl, decide_eq_true rfl]; rfl))
      clear hq
      cases b1
      all_goals
        go_enter Try.func24, Try.ntmps24
        go_wp2_with fail
        refine (HF.out _ (by repeat (first | exact Keep.rf _ | assumption | apply Keep.al | apply Keep.dr | apply Keep.dn))).mono ?_
        rintro e w1 ⟨rfl, k1⟩
        go_wp2_with fail
        go_ret
        rw [HQ.out]
        exact ⟨rfl, Keep.tr (by repeat (first | exact Keep.rf _ | assumption | apply Keep.al | apply Keep.dr | apply Keep.dn)) k1⟩
    · have HQ := hide (hq.trans (show _ = false by rw [decide_eq_false hb]; rfl))
      clear hq
      cases b1 <;> cases b2
      all_goals (first | exact (hb rfl).elim | skip)
      all_goals
        go_enter Try.func24, Try.ntmps24
        go_wp2_with fail
        go_ret
        rw [HQ.out]
        exact ⟨rfl, (by repeat (first | exact Keep.rf _ | assumption | apply Keep.al | apply Keep.dr | apply Keep.dn))⟩
  · have hn2 : (n1 == n2) = false := by simpa using hn
    have HQ := hide (hq.trans (show _ = false by rw [decide_eq_false hn, Bool.and_false]; rfl))
    clear hq
    cases b1 <;> cases b2
    all_goals
      go_enter Try.func24, Try.ntmps24
      go_wp2_with fail
      go_ret
      rw [HQ.out]
      exact ⟨rfl, (by repeat (first | exact Keep.rf _ | assumption | apply Keep.al | apply Keep.dr | apply Keep.dn))⟩
end Go.Proofs.Ytilhglnfjaablaa
