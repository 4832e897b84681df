/- Walks: more laws of frame return true. -/
import Derived.Test.YtjhndioapcneoaaFrameL
import Derived.Test.YtjhndioapcneoaaSumL
namespace Go.Proofs.Ytjhndioapcneoaa
open Go.RowKit
set_option linter.unusedVariables false
set_option maxRecDepth 100000
theorem turned_law (k : UInt8) (l : List UInt8) (i : Nat) (hi : i < (Em.frame k l).length) (b : UInt8) (hb : b ≠ 0) (k' : UInt8) (b' : List UInt8) (n : Nat) (h : Em.getF ((Em.frame k l).set i ((Em.frame k l)[i] ^^^ b)) = some (k', b', n)) : ((n : Int) != ((Em.frame k l).length : Int)) = true := by
  rw [bne_iff_ne]
  have := Em.frame_turn k l i hi _ (xor_ne _ b hb) k' b' n h
  omega
set_option maxHeartbeats 4000000 in
theorem FrameTurned_walk (w : World) (k : Int) (hk : (Lit.int .u8 k).wf = true) (v : Value) (l : List UInt8) (h : Bs w v l) (hz : l.length ≤ 140737488351232) (at_ : Int) (hat : (Lit.int .i64 at_).wf = true) (c : Int) (hc : (Lit.int .u8 c).wf = true) : Calls Try.prog 9 #[.int .u8 k, v, .int .i64 at_, .int .u8 c] w (Tru w) := by
  have h0 := h
  obtain ⟨b, rfl⟩ := in_u8 hc
  have hb2 := b.toNat_lt
  obtain ⟨kk, rfl⟩ := in_u8 hk
  clear hc hk
  have hkk2 := kk.toNat_lt
  obtain ⟨A, cc, rfl, hlc, hcm, hr⟩ := h
  clear hr
  by_cases h2 : l.length ≤ 400
  · by_cases h3 : b = 0
    · have h3' : ((b.toNat : Int) == 0) = true := by subst h3; rfl
      go_enter Try.func9, Try.ntmps9
      go_wp2
      go_ret
      exact ⟨rfl, Keep.rf _⟩
    · have h3' : ((b.toNat : Int) == 0) = false := by
        rw [beq_eq_false_iff_ne]
        intro e
        exact h3 (UInt8.toNat_inj.1 (by simpa using e))
      have hfl := frame_len_le kk l (by omega)
      have hfp : 5 ≤ (Em.frame kk l).length := by rw [Em.frame_len]; omega
      have HT := hide (turned_law kk l)
      go_enter Try.func9, Try.ntmps9
      go_wp2_with fail
      refine (refFPut kk _ l _ h0 (by omega)).mono ?_
      rintro e w1 ⟨r1, rfl, ho1, hk1⟩
      generalize Em.frame kk l = F at *
      obtain ⟨k, hk, hke⟩ : ∃ k : Nat, k < F.length ∧ (at_ % 65536) % (F.length : Int) = (k : Int) := ⟨((at_ % 65536) % (F.length : Int)).toNat, by
          have := Int.emod_lt_of_pos (at_ % 65536) (show (0 : Int) < F.length by omega)
          have := Int.emod_nonneg (at_ % 65536) (show (F.length : Int) ≠ 0 by omega)
          omega, by
          have := Int.emod_nonneg (at_ % 65536) (show (F.length : Int) ≠ 0 by omega)
          omega⟩
      have em := and_mask at_
      have hnn : 0 ≤ at_ % 65536 := by omega
      have HT2 := hide (HT.out k hk b h3)
      have fx := xor_go F[k] b
      clear HT
      obtain ⟨g, cap, rfl, hcap, hgb, hgs, hcell, hfr⟩ := ho1.form (by omega)
      have hck := hcell k hk
      have hfk := hfr k
      unfold bv at hck
      generalize F[k] ^^^ b = nb at fx HT2
      have hB1 := (ho1.set rfl k nb).bs
      have hKK := Keep.st hk1 (p := ⟨g, k, none⟩) hgb (bv nb)
      unfold bv at hB1 hKK
      clear hcell hfr
      go_wp2_with fail
      refine (frameGet _ _ _ hB1).mono ?_
      rintro e w7 ⟨hk7, hq⟩
      have hk8 := Keep.tr hKK hk7
      rcases hg : Em.getF (F.set k nb) with _ | ⟨k9, b9, n9⟩
      · rw [hg] at hq
        simp only at hq
        subst hq
        clear hg HT2
        go_wp2_with (first
          | (go_at_call 31; refine (frameKnown _).mono ?_; rintro e w9 ⟨rfl, hk9⟩)
          | fail)
        go_ret
        exact ⟨rfl, Keep.tr hk8 hk9⟩
      · rw [hg] at hq
        obtain ⟨r7, rfl, hx⟩ := hq
        have hn9 := HT2.out _ _ _ hg
        clear hg HT2
        go_wp2_with (first
          | (go_at_call 31; refine (frameKnown _).mono ?_; rintro e w9 ⟨rfl, hk9⟩)
          | fail)
        go_ret
        exact ⟨rfl, Keep.tr hk8 hk9⟩
  · go_enter Try.func9, Try.ntmps9
    go_wp2
    go_ret
    exact ⟨rfl, Keep.rf _⟩
set_option maxHeartbeats 4000000 in
theorem FrameLong_walk (w : World) (n : Int) (hn : (Lit.int .i64 n).wf = true) (k : Int) (hk : (Lit.int .u8 k).wf = true) : Calls Try.prog 10 #[.int .i64 n, .int .u8 k] w (Tru w) := by
  obtain ⟨kk, rfl⟩ := in_u8 hk
  clear hk
  have hb := in_i64 hn
  by_cases h1 : 0 ≤ n
  · obtain ⟨m, rfl⟩ := Int.eq_ofNat_of_zero_le h1
    clear h1 hn
    by_cases h3 : m ≤ 4100
    · obtain ⟨w1, hm, ho, hk1⟩ := run_makeB w m (by omega)
      have ho := ho.bs
      have hl : (List.replicate m (0 : UInt8)).length = m := by simp
      generalize List.replicate m (0 : UInt8) = l at ho hl
      have hkk := kk.toNat_lt
      by_cases h2 : m ≤ 4000
      · have HG := hide (Em.getF_put kk l [] (by omega))
        rw [List.append_nil] at HG
        go_enter Try.func10, Try.ntmps10
        go_wp2_with fail
        refine (framePut kk _ l _ ho (by omega)).mono ?_
        rintro e w2 ⟨r1, rfl, ho2, hk2⟩
        have hk3 := Keep.tr hk1 hk2
        obtain ⟨A2, c2, rfl⟩ := ho2.slice
        generalize Em.frame kk l = F at *
        go_wp2_with fail
        refine (frameGet _ _ _ ho2.bs).mono ?_
        rintro e w7 ⟨hk7, hq⟩
        have hk8 := Keep.tr hk3 hk7
        rw [HG.out] at hq
        obtain ⟨r7, rfl, A7, c7, rfl, hx⟩ := hq
        clear hx
        rw [hl]
        go_wp2_with (first
          | (go_at_call 31; refine (frameKnown _).mono ?_; rintro e w9 ⟨rfl, hk9⟩)
          | fail)
        go_ret
        exact ⟨ret_tru (by simp <;> omega), Keep.tr hk8 hk9⟩
      · go_enter Try.func10, Try.ntmps10
        go_wp2_with fail
        refine (framePut_long kk _ l _ ho (by omega)).mono ?_
        rintro e w2 ⟨rfl, rfl⟩
        go_wp2_with fail
        refine (frameGet _ _ _ (Bs.nil _)).mono ?_
        rintro e w7 ⟨hk7, hq⟩
        simp only [Em.getF_nil] at hq
        subst hq
        have hk8 := Keep.tr hk1 hk7
        go_wp2_with (first
          | (go_at_call 31; refine (frameKnown _).mono ?_; rintro e w9 ⟨rfl, hk9⟩)
          | fail)
        go_ret
        exact ⟨ret_tru (by simp <;> omega), Keep.tr hk8 hk9⟩
    · go_enter Try.func10, Try.ntmps10
      go_wp2
      go_ret
      exact ⟨rfl, Keep.rf _⟩
  · go_enter Try.func10, Try.ntmps10
    go_wp2
    go_ret
    exact ⟨rfl, Keep.rf _⟩
end Go.Proofs.Ytjhndioapcneoaa
