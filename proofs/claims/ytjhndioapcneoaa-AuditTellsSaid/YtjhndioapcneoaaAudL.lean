/- The laws of package audit. -/
import Derived.Test.YtjhndioapcneoaaAudK
namespace Go.Proofs.Ytjhndioapcneoaa
open Go.RowKit Go.Maps
set_option linter.unusedVariables false
set_option maxRecDepth 100000
namespace Em
theorem newer_trans {a b c : Int × Int} (h1 : newer b a = true) (h2 : newer c b = true) : newer c a = true := by
  simp only [newer, Bool.or_eq_true, Bool.and_eq_true, decide_eq_true_eq] at *
  omega
theorem newer_irr (a : Int × Int) : newer a a = false := by simp [newer]
theorem rises_first (l : List (Int × Int)) (a : Int × Int) (h : rises (a :: l) = true) : ∀ x ∈ l, newer x a = true := by
  induction l generalizing a with
  | nil => simp
  | cons b l ih =>
    rw [rises, Bool.and_eq_true] at h
    intro x hx
    rcases List.mem_cons.1 hx with rfl | hx
    · exact h.1
    · exact newer_trans h.1 (ih b h.2 x hx)
theorem rises_tail (l : List (Int × Int)) (a : Int × Int) (h : rises (a :: l) = true) : rises l = true := by
  cases l with
  | nil => rfl
  | cons b l => rw [rises, Bool.and_eq_true] at h; exact h.2
theorem rises_nodup (l : List (Int × Int)) (h : rises l = true) : l.Nodup := by
  induction l with
  | nil => exact List.nodup_nil
  | cons a l ih =>
    refine List.nodup_cons.2 ⟨fun hm => ?_, ih (rises_tail l a h)⟩
    have := rises_first l a h a hm
    rw [newer_irr] at this
    cases this
end Em
theorem audServer (w : World) : Calls Try.prog 61 #[.pointer none] w fun e w' => e = .returned (.pointer none) ∧ Keep w w' := by
  go_enter Try.func61, Try.ntmps61
  go_wp2
  go_ret
  exact ⟨rfl, (by repeat (first | exact Keep.rf _ | assumption | apply Keep.al | apply Keep.dr | apply Keep.dn))⟩
theorem audLog (w : World) : Calls Try.prog 62 #[.pointer none] w fun e w' => e = .returned (.slice none 0 0) ∧ Keep w w' := by
  go_enter Try.func62, Try.ntmps62
  go_wp2
  go_ret
  exact ⟨rfl, (by repeat (first | exact Keep.rf _ | assumption | apply Keep.al | apply Keep.dr | apply Keep.dn))⟩
theorem audReplies (w : World) : Calls Try.prog 63 #[.pointer none] w fun e w' => e = .returned (.slice none 0 0) ∧ Keep w w' := by
  go_enter Try.func63, Try.ntmps63
  go_wp2
  go_ret
  exact ⟨rfl, (by repeat (first | exact Keep.rf _ | assumption | apply Keep.al | apply Keep.dr | apply Keep.dn))⟩
theorem audSound (w : World) : Calls Try.prog 55 #[.pointer none] w fun e w' => e = .returned (.bool true) ∧ Keep w w' := by
  go_enter Try.func55, Try.ntmps55
  go_wp2_with fail
  refine (audServer _).mono ?_
  rintro e w1 ⟨rfl, k1⟩
  go_wp2_with fail
  refine (audLog _).mono ?_
  rintro e w2 ⟨rfl, k2⟩
  go_wp2_with fail
  refine (audRises _ _ [] (Sl.nil _)).mono ?_
  rintro e w3 ⟨rfl, k3⟩
  simp only [show Em.rises [] = true from rfl]
  go_wp2_with fail
  refine (audReplies _).mono ?_
  rintro e w4 ⟨rfl, k4⟩
  go_wp2_with fail
  refine (audKnown _ _ _ [] [] (Sl.nil _) (Sl.nil _) (by simp)).mono ?_
  rintro e w5 ⟨rfl, k5⟩
  simp only [show Em.known [] [] = true from rfl]
  go_wp2_with fail
  go_ret
  exact ⟨rfl, Keep.tr (Keep.tr k1 k2) (Keep.tr k3 (Keep.tr k4 k5))⟩
theorem audKnowns (w : World) : Calls Try.prog 39 #[] w fun e w' => e = .returned (.bool true) ∧ Keep w w' := by
  go_enter Try.func39, Try.ntmps39
  go_wp2_with fail
  refine (audOnce _ _ [(0, 1), (0, 1)] (sl_lit encC _ rfl rfl rfl (fun _ => rfl) (by simp) (fun a ha => ?_))).mono ?_
  · simp only [List.mem_cons, List.not_mem_nil, or_false, or_self] at ha
    subst ha
    exact ⟨rfl, by decide, by decide⟩
  rintro e w1 ⟨rfl, k1⟩
  simp only [show decide ([((0 : Int), (1 : Int)), (0, 1)]).Nodup = false from by decide]
  go_wp2_with fail
  refine (audOnce _ _ [] (Sl.nil _)).mono ?_
  rintro e w2 ⟨rfl, k2⟩
  simp only [show decide ([] : List (Int × Int)).Nodup = true from by decide]
  go_wp2_with fail
  refine (audSound _).mono ?_
  rintro e w3 ⟨rfl, k3⟩
  go_wp2_with fail
  go_ret
  exact ⟨rfl, Keep.tr (Keep.tr (by repeat (first | exact Keep.rf _ | assumption | apply Keep.al | apply Keep.dr | apply Keep.dn)) k1) (Keep.tr k2 k3)⟩
end Go.Proofs.Ytjhndioapcneoaa
