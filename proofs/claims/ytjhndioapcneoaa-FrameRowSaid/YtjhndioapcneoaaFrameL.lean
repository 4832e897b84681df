/- Walks: the laws of frame return true. -/
import Derived.Test.YtjhndioapcneoaaFrameG
namespace Go.Proofs.Ytjhndioapcneoaa
open Go.RowKit
set_option linter.unusedVariables false
set_option maxRecDepth 100000
theorem frame1_len : (Em.frame 1 []).length = 6 := by rw [Em.frame_len]; simp [Em.putN_known]
set_option maxHeartbeats 1000000 in
theorem frameKnown (w : World) : Calls Try.prog 31 #[] w fun e w' => e = .returned (.bool true) ∧ Keep w w' := by
  go_enter Try.func31, Try.ntmps31
  go_wp2_with fail
  refine (framePut 1 _ [] _ (Bs.nil _) (by simp)).mono ?_
  rintro e w1 ⟨r, rfl, ho, hk⟩
  obtain ⟨A1, c1, rfl⟩ := ho.slice
  rw [frame1_len]
  go_wp2
  go_ret
  exact ⟨rfl, hk⟩
theorem ret_tru {a : Bool} (h : a = true) : Ending.returned (.bool a) = .returned (.bool true) := by rw [h]
set_option maxHeartbeats 4000000 in
theorem FramePuts_walk (w : World) (k : Int) (hk : (Lit.int .u8 k).wf = true) (v : Value) (l : List UInt8) (h : Bs w v l) (hz : l.length ≤ 140737488351232) (v2 : Value) (m : List UInt8) (h2 : Bs w v2 m) (hz2 : m.length ≤ 140737488351232) : Calls Try.prog 7 #[.int .u8 k, v, v2] w fun e w' => e = .returned (.bool true) ∧ Keep w w' := by
  obtain ⟨b, rfl⟩ := in_u8 hk
  clear hk
  have h0 := h
  have h20 := h2
  obtain ⟨A, c, rfl, hlc, hcm, hr⟩ := h
  obtain ⟨A2, c2, rfl, hlc2, hcm2, hr2⟩ := h2
  clear hr hr2
  by_cases hl : l.length ≤ 500
  · by_cases hm : m.length ≤ 50
    · have hfl := frame_len_le b l (by omega)
      have HG := hide (Em.getF_put b l m (by omega))
      have hcv : ∀ W u x, Bs W u x → (convert 25 9 u).run Try.prog W = .ok (.string (str x)) W := fun W u x hb => run_conv_bs hb _ _ _ Try.underlying25 Try.underlying5 Try.underlying9
      have HC := hide hcv
      clear hcv
      have hb := b.toNat_lt
      go_enter Try.func7, Try.ntmps7
      go_wp2_with fail
      refine (framePut b _ l _ h0 (by omega)).mono ?_
      rintro e w1 ⟨r1, rfl, ho1, hk1⟩
      obtain ⟨A3, c3, rfl⟩ := ho1.slice
      go_wp2_with fail
      refine (refFPut b _ l _ (h0.keep hk1) (by omega)).mono ?_
      rintro e w2 ⟨r2, rfl, ho2, hk2⟩
      obtain ⟨A4, c4, rfl⟩ := ho2.slice
      have hk3 := Keep.tr hk1 hk2
      have ho1 := ho1.bs.keep hk2
      have ho2 := ho2.bs
      go_wp2_with (first
        | (at_builtin; refine appB (w0 := w2) rfl (.tmp 36) (.tmp 37) rfl _ [] rfl (Ob.new [] rfl rfl rfl (Nat.le_refl _) (by simp)) _ _ rfl (ho1.keep (by repeat (first | exact Keep.rf _ | assumption | apply Keep.al | apply Keep.dr | apply Keep.dn))) (by repeat (first | exact Keep.rf _ | assumption | apply Keep.al | apply Keep.dr | apply Keep.dn)) (by first | omega | (simp; omega)) ?_; intro v5 w5 ho5 hk5 hg5 hat5; simp only [List.nil_append] at ho5)
        | (at_builtin; refine appB (w0 := w2) rfl (.tmp 38) (.tmp 39) rfl _ _ rfl ho5 _ _ rfl (h20.keep (Keep.tr hk3 hk5)) hk5 (by first | omega | (simp; omega)) ?_; intro v6 w6 ho6 hk6 hg6 hat6)
        | fail)
      refine (frameGet _ _ _ ho6.bs).mono ?_
      rintro e w7 ⟨hk7, hq⟩
      rw [HG.out] at hq
      obtain ⟨r7, rfl, hx⟩ := hq
      have hkk := Keep.tr hk6 hk7
      have x1 := HC.out _ _ _ (ho1.keep hkk)
      have x2 := HC.out _ _ _ (ho2.keep hkk)
      have x3 := HC.out _ _ _ hx
      have x4 := HC.out _ _ _ (h0.keep (Keep.tr hk3 hkk))
      generalize Em.frame b l = F at *
      go_wp2_with (first
        | (go_at_call 31; refine (frameKnown _).mono ?_; rintro e w8 ⟨rfl, hk8⟩)
        | fail)
      go_ret
      exact ⟨ret_tru (by simp), Keep.tr (Keep.tr hk3 hkk) hk8⟩
    · go_enter Try.func7, Try.ntmps7
      go_wp2
      go_ret
      exact ⟨rfl, Keep.rf _⟩
  · go_enter Try.func7, Try.ntmps7
    go_wp2
    go_ret
    exact ⟨rfl, Keep.rf _⟩
set_option maxHeartbeats 4000000 in
theorem FrameGets_walk (w : World) (v : Value) (l : List UInt8) (h : Bs w v l) (hz : l.length ≤ 140737488351232) : Calls Try.prog 8 #[v] w fun e w' => e = .returned (.bool true) ∧ Keep w w' := by
  have h0 := h
  obtain ⟨A, c, rfl, hlc, hcm, hr⟩ := h
  clear hr
  by_cases hl : l.length ≤ 300
  · have hcv : ∀ W u x, Bs W u x → (convert 25 9 u).run Try.prog W = .ok (.string (str x)) W := fun W u x hb => run_conv_bs hb _ _ _ Try.underlying25 Try.underlying5 Try.underlying9
    have HC := hide hcv
    clear hcv
    have hG : ∃ g, g = Em.getF l := ⟨_, rfl⟩
    obtain ⟨g, hg⟩ := hG
    have HG := hide hg
    clear hg
    go_enter Try.func8, Try.ntmps8
    go_wp2_with (first
      | (at_builtin; refine appB (w0 := w) rfl (.tmp 15) (.tmp 16) rfl _ [] rfl (Ob.new [] rfl rfl rfl (Nat.le_refl _) (by simp)) _ _ rfl (h0.keep (by repeat (first | exact Keep.rf _ | assumption | apply Keep.al | apply Keep.dr | apply Keep.dn))) (by repeat (first | exact Keep.rf _ | assumption | apply Keep.al | apply Keep.dr | apply Keep.dn)) (by first | omega | (simp; omega)) ?_; intro v5 w5 ho5 hk5 hg5 hat5; simp only [List.nil_append] at ho5)
      | fail)
    refine (frameGet _ _ _ ho5.bs).mono ?_
    rintro e w7 ⟨hk7, hq⟩
    have hkk := Keep.tr hk5 hk7
    rw [← HG.out] at hq
    rcases g with _ | ⟨k, b, n⟩
    · simp only at hq
      subst hq
      go_wp2_with fail
      refine (refFGet _ _ _ (h0.keep hkk)).mono ?_
      rintro e w8 ⟨hk8, hq⟩
      rw [← HG.out] at hq
      simp only at hq
      subst hq
      have x1 := HC.out w8 _ _ (Bs.nil _)
      go_wp2_with (first
        | (go_at_call 31; refine (frameKnown _).mono ?_; rintro e w9 ⟨rfl, hk9⟩)
        | fail)
      go_ret
      exact ⟨rfl, Keep.tr (Keep.tr hkk hk8) hk9⟩
    · obtain ⟨r7, rfl, hx⟩ := hq
      go_wp2_with fail
      refine (refFGet _ _ _ (h0.keep hkk)).mono ?_
      rintro e w8 ⟨hk8, hq⟩
      rw [← HG.out] at hq
      obtain ⟨r8, rfl, hx2⟩ := hq
      have x1 := HC.out w8 _ _ (hx.keep hk8)
      have x2 := HC.out w8 _ _ hx2
      go_wp2_with (first
        | (go_at_call 31; refine (frameKnown _).mono ?_; rintro e w9 ⟨rfl, hk9⟩)
        | fail)
      go_ret
      exact ⟨rfl, Keep.tr (Keep.tr hkk hk8) hk9⟩
  · go_enter Try.func8, Try.ntmps8
    go_wp2
    go_ret
    exact ⟨rfl, Keep.rf _⟩
end Go.Proofs.Ytjhndioapcneoaa
