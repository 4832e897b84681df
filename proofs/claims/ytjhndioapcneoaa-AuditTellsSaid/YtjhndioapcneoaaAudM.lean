/- The law AuditTells: walk. -/
import Derived.Test.YtjhndioapcneoaaAudC
import Derived.Test.YtjhndioapcneoaaAudR
namespace Go.Proofs.Ytjhndioapcneoaa
open Go.RowKit Go.Maps
set_option linter.unusedVariables false
set_option maxRecDepth 100000
set_option maxHeartbeats 1000000 in
theorem AuditTells_walk (w : World) (v : Value) (l : List (Int × Int)) (h : Sl 2 KC w v l) (_ : True) (u : Value) (r : List ((Int × Int) × Int)) (g : Sl 4 KR w u r) (_ : True) : Calls Try.prog 12 #[v, u] w fun e w' => e = .returned (.bool true) ∧ Keep w w' := by
  have H1 := hide fun W (k : Keep w W) => audOnce W v l (h.keep k fun _ _ h => h)
  have H2 := hide fun W (k : Keep w W) => refOnce W v l (h.keep k fun _ _ h => h)
  have H3 := hide fun W (k : Keep w W) => audRises W v l (h.keep k fun _ _ h => h)
  have H4 := hide fun W (k : Keep w W) => refRises W v l (h.keep k fun _ _ h => h)
  have H5 := hide fun W (k : Keep w W) (hl : r.length ≤ 1000000) => audKnown W v u l r (h.keep k fun _ _ h => h) (g.keep k fun _ _ h => h) hl
  have H6 := hide fun W (k : Keep w W) => refKnown W v u l r (h.keep k fun _ _ h => h) (g.keep k fun _ _ h => h)
  obtain ⟨A, c, rfl, _⟩ := h
  obtain ⟨A2, c2, rfl, _⟩ := g
  generalize decide l.Nodup = x1 at *
  generalize Em.rises l = x2 at *
  generalize Em.known l r = x3 at *
  by_cases hb : 50 < l.length
  · go_enter Try.func12, Try.ntmps12
    go_wp2
    go_ret
    exact ⟨rfl, (by repeat (first | exact Keep.rf _ | assumption | apply Keep.al | apply Keep.dr | apply Keep.dn))⟩
  · by_cases hb2 : 50 < r.length
    · go_enter Try.func12, Try.ntmps12
      go_wp2
      go_ret
      exact ⟨rfl, (by repeat (first | exact Keep.rf _ | assumption | apply Keep.al | apply Keep.dr | apply Keep.dn))⟩
    · have hrl : r.length ≤ 1000000 := by omega
      go_enter Try.func12, Try.ntmps12
      go_wp2_with fail
      refine (H1.out _ (by repeat (first | exact Keep.rf _ | assumption | apply Keep.al | apply Keep.dr | apply Keep.dn))).mono ?_
      rintro e w1 ⟨rfl, k1⟩
      go_wp2_with fail
      refine (H2.out _ k1).mono ?_
      rintro e w2 ⟨rfl, k2⟩
      have k2 := Keep.tr k1 k2
      go_wp2_with fail
      refine (H3.out _ k2).mono ?_
      rintro e w3 ⟨rfl, k3⟩
      have k3 := Keep.tr k2 k3
      go_wp2_with fail
      refine (H4.out _ k3).mono ?_
      rintro e w4 ⟨rfl, k4⟩
      have k4 := Keep.tr k3 k4
      go_wp2_with fail
      refine (H5.out _ k4 hrl).mono ?_
      rintro e w5 ⟨rfl, k5⟩
      have k5 := Keep.tr k4 k5
      go_wp2_with fail
      refine (H6.out _ k5).mono ?_
      rintro e w6 ⟨rfl, k6⟩
      have k6 := Keep.tr k5 k6
      go_wp2_with fail
      refine (audKnowns _).mono ?_
      rintro e w7 ⟨rfl, k7⟩
      have k7 := Keep.tr k6 k7
      go_wp2_with fail
      go_ret
      exact ⟨by simp, k7⟩
end Go.Proofs.Ytjhndioapcneoaa
