/- The law UnpickMany: walk. -/
import Derived.Test.YtoehaijmkmdggaaRdK
import Derived.Test.YtoehaijmkmdggaaRdMP
import Derived.Test.YtoehaijmkmdggaaLib
namespace Go.Proofs.Ytoehaijmkmdggaa
open Go.RowKit
open Em (Ty)
set_option linter.unusedVariables false
set_option linter.unusedSimpArgs false
set_option maxRecDepth 100000
set_option maxHeartbeats 8000000 in
theorem UnpickMany_lo (w : World) (n : Int) (hnb : -9223372036854775808 ≤ n ∧ n ≤ 9223372036854775807) (h0 : ¬ n < 0) (h1 : ¬ n > 2003) (h2 : ¬ n > 20) : Calls Try.prog 9 #[.int .i64 n] w fun e w' => e = .returned (.bool true) ∧ Keep w w' := by
  obtain ⟨m, rfl⟩ := Int.eq_ofNat_of_zero_le (show 0 ≤ n by omega)
  obtain ⟨g, c, hg, hg1, hg2⟩ := Em.graph_many m (by omega)
  have HG := hide hg
  have HG1 := hide hg1
  have HG2 := hide hg2
  have hm : m ≤ 2003 := by omega
  clear hg hg1 hg2
  go_enter Try.func9, Try.ntmps9
  go_wp2_with fail
  go_loopw [3, 4] (fun v i W => ∃ j : Nat, j ≤ m ∧ i = .int .i64 (j : Int) ∧ Obs W w.heap.size v (List.replicate j 1) ∧ Keep w W) (fun _ i _ => m - (intOf i).toNat)
  case atStart => exact ⟨0, Nat.zero_le _, rfl, Ob.nil _ _ _, Keep.rf _⟩
  case round =>
    obtain ⟨j, hj, rfl, ho, kw⟩ := hrel
    obtain ⟨A, c9, rfl⟩ := ho.slice
    have HO := hide ho
    have KW := hide kw
    clear ho kw
    by_cases hlt : j < m
    · have hlti : (j : Int) < (m : Int) := by omega
      go_wp2_with (first
        | (at_builtin; go_loud (refine appB (w0 := w) rfl (.tmp 26) (.tmp 27) rfl _ (List.replicate j 1) rfl (Ob.keep HO.out (by repeat (first | exact Keep.rf _ | assumption | apply Keep.al | apply Keep.dr | apply Keep.dn))) _ [1] rfl (Bs.lit [1] rfl (by simp) rfl (by simp) (by omega)) (Keep.al KW.out _) (by simp; omega) ?_); intro v5 w5 ho5 hk5 _ _; obtain ⟨A5, c5, e5⟩ := own_slice ho5; subst e5; have HO5 := hide ho5; have HK5 := hide hk5; clear ho5 hk5)
        | fail)
      go_roundw
      case rel => exact ⟨j + 1, by omega, by go_num, by have := HO5.out; rw [List.replicate_succ']; simpa using this, HK5.out⟩
      case measure => simp [intOf]; omega
    · have hlti : ¬ (j : Int) < (m : Int) := by omega
      obtain rfl : j = m := by omega
      clear hj hlt
      go_wp2_with (first
        | (at_builtin; go_loud (refine appB (w0 := w) rfl (.tmp 30) (.tmp 31) rfl _ (List.replicate j 1) rfl (Ob.keep HO.out (by repeat (first | exact Keep.rf _ | assumption | apply Keep.al | apply Keep.dr | apply Keep.dn))) _ [0] rfl (Bs.lit [0] rfl (by simp) rfl (by simp) (by omega)) (Keep.al KW.out _) (by simp; omega) ?_); intro v5 w5 ho5 hk5 _ _; obtain ⟨A5, c5, e5⟩ := own_slice ho5; subst e5; have HO5 := hide ho5; have HK5 := hide hk5; clear ho5 hk5)
        | fail)
      refine (refT23 _ [117, 110, 105, 116] none 0 0).mono ?_
      rintro e w6 ⟨rfl, k6⟩
      have HO6 := hide (show Bs w6 (.slice A5 (j + 1) c5) (List.replicate j 1 ++ [0]) from by
        have h9 := (HO5.out.keep k6).bs
        have hlen : (List.replicate j (1 : UInt8) ++ [(0 : UInt8)]).length = j + 1 := by simp
        rwa [hlen] at h9)
      have HK6 := hide (Keep.tr HK5.out k6)
      clear k6
      go_wp2_with fail
      refine (refT23 _ [108, 105, 115, 116] _ 1 1).mono ?_
      rintro e w7 ⟨rfl, k7⟩
      have hT := sl_one3 (K := TyK 1) (x := .mk Em.wUnit 0 []) ((k7.frm fun _ => False).heap (fun h => h) (heap_alloc_new w6 (.cells #[.string (str [117, 110, 105, 116]), .int .i64 0, .slice none 0 0] 25))) ⟨_, rfl, (by decide : (Lit.int .i64 0).wf = true), Sl.nil w7⟩
      have hty : TyK 2 w7 [.string (str [108, 105, 115, 116]), .int .i64 0, .slice (some ⟨w6.heap.size, 0, none⟩) 1 1] Em.tyLU := ⟨_, rfl, (by decide : (Lit.int .i64 0).wf = true), hT⟩
      have hk7 : Keep w6 w7 := Keep.tr ((Keep.rf w6).al _) k7
      have HG9 := hide (unpickGraphE HG.out 2 _ w7 _ (HO6.out.keep hk7) hty)
      have HK7 := hide (Keep.tr HK6.out hk7)
      clear k7 hT hty hk7
      go_wp2_with fail
      refine HG9.out.mono ?_
      rintro e w8 ⟨A8, c8, rfl, _, k8⟩
      have HK8 := hide (Keep.tr HK7.out k8)
      clear k8
      have hc := (HG1.out (by omega)).1
      have hl := (HG1.out (by omega)).2
      subst hc
      rw [hl]
      clear hl
      go_wp2_with fail
      refine (law23Known _).mono ?_
      rintro e w9 ⟨rfl, k9⟩
      go_wp2_with fail
      go_ret
      exact ⟨rfl, Keep.tr (Keep.tr HK8.out (by repeat (first | exact Keep.rf _ | assumption | apply Keep.al | apply Keep.dr | apply Keep.dn))) k9⟩
set_option maxHeartbeats 8000000 in
theorem UnpickMany_hi (w : World) (n : Int) (hnb : -9223372036854775808 ≤ n ∧ n ≤ 9223372036854775807) (h0 : ¬ n < 0) (h1 : ¬ n > 2003) (h2 : n > 20) (h3 : ¬ n < 1998) : Calls Try.prog 9 #[.int .i64 n] w fun e w' => e = .returned (.bool true) ∧ Keep w w' := by
  obtain ⟨m, rfl⟩ := Int.eq_ofNat_of_zero_le (show 0 ≤ n by omega)
  obtain ⟨g, c, hg, hg1, hg2⟩ := Em.graph_many m (by omega)
  have HG := hide hg
  have HG1 := hide hg1
  have HG2 := hide hg2
  have hm : m ≤ 2003 := by omega
  clear hg hg1 hg2
  go_enter Try.func9, Try.ntmps9
  go_wp2_with fail
  go_loopw [3, 4] (fun v i W => ∃ j : Nat, j ≤ m ∧ i = .int .i64 (j : Int) ∧ Obs W w.heap.size v (List.replicate j 1) ∧ Keep w W) (fun _ i _ => m - (intOf i).toNat)
  case atStart => exact ⟨0, Nat.zero_le _, rfl, Ob.nil _ _ _, Keep.rf _⟩
  case round =>
    obtain ⟨j, hj, rfl, ho, kw⟩ := hrel
    obtain ⟨A, c9, rfl⟩ := ho.slice
    have HO := hide ho
    have KW := hide kw
    clear ho kw
    by_cases hlt : j < m
    · have hlti : (j : Int) < (m : Int) := by omega
      go_wp2_with (first
        | (at_builtin; go_loud (refine appB (w0 := w) rfl (.tmp 26) (.tmp 27) rfl _ (List.replicate j 1) rfl (Ob.keep HO.out (by repeat (first | exact Keep.rf _ | assumption | apply Keep.al | apply Keep.dr | apply Keep.dn))) _ [1] rfl (Bs.lit [1] rfl (by simp) rfl (by simp) (by omega)) (Keep.al KW.out _) (by simp; omega) ?_); intro v5 w5 ho5 hk5 _ _; obtain ⟨A5, c5, e5⟩ := own_slice ho5; subst e5; have HO5 := hide ho5; have HK5 := hide hk5; clear ho5 hk5)
        | fail)
      go_roundw
      case rel => exact ⟨j + 1, by omega, by go_num, by have := HO5.out; rw [List.replicate_succ']; simpa using this, HK5.out⟩
      case measure => simp [intOf]; omega
    · have hlti : ¬ (j : Int) < (m : Int) := by omega
      obtain rfl : j = m := by omega
      clear hj hlt
      go_wp2_with (first
        | (at_builtin; go_loud (refine appB (w0 := w) rfl (.tmp 30) (.tmp 31) rfl _ (List.replicate j 1) rfl (Ob.keep HO.out (by repeat (first | exact Keep.rf _ | assumption | apply Keep.al | apply Keep.dr | apply Keep.dn))) _ [0] rfl (Bs.lit [0] rfl (by simp) rfl (by simp) (by omega)) (Keep.al KW.out _) (by simp; omega) ?_); intro v5 w5 ho5 hk5 _ _; obtain ⟨A5, c5, e5⟩ := own_slice ho5; subst e5; have HO5 := hide ho5; have HK5 := hide hk5; clear ho5 hk5)
        | fail)
      refine (refT23 _ [117, 110, 105, 116] none 0 0).mono ?_
      rintro e w6 ⟨rfl, k6⟩
      have HO6 := hide (show Bs w6 (.slice A5 (j + 1) c5) (List.replicate j 1 ++ [0]) from by
        have h9 := (HO5.out.keep k6).bs
        have hlen : (List.replicate j (1 : UInt8) ++ [(0 : UInt8)]).length = j + 1 := by simp
        rwa [hlen] at h9)
      have HK6 := hide (Keep.tr HK5.out k6)
      clear k6
      go_wp2_with fail
      refine (refT23 _ [108, 105, 115, 116] _ 1 1).mono ?_
      rintro e w7 ⟨rfl, k7⟩
      have hT := sl_one3 (K := TyK 1) (x := .mk Em.wUnit 0 []) ((k7.frm fun _ => False).heap (fun h => h) (heap_alloc_new w6 (.cells #[.string (str [117, 110, 105, 116]), .int .i64 0, .slice none 0 0] 25))) ⟨_, rfl, (by decide : (Lit.int .i64 0).wf = true), Sl.nil w7⟩
      have hty : TyK 2 w7 [.string (str [108, 105, 115, 116]), .int .i64 0, .slice (some ⟨w6.heap.size, 0, none⟩) 1 1] Em.tyLU := ⟨_, rfl, (by decide : (Lit.int .i64 0).wf = true), hT⟩
      have hk7 : Keep w6 w7 := Keep.tr ((Keep.rf w6).al _) k7
      have HG9 := hide (unpickGraphE HG.out 2 _ w7 _ (HO6.out.keep hk7) hty)
      have HK7 := hide (Keep.tr HK6.out hk7)
      clear k7 hT hty hk7
      go_wp2_with fail
      refine HG9.out.mono ?_
      rintro e w8 ⟨A8, c8, rfl, _, k8⟩
      have HK8 := hide (Keep.tr HK7.out k8)
      clear k8
      by_cases h2000 : (j : Int) > 2000
      · have hc := HG2.out (by omega)
        subst hc
        go_wp2_with fail
        refine (law23Known _).mono ?_
        rintro e w9 ⟨rfl, k9⟩
        go_wp2_with fail
        go_ret
        exact ⟨rfl, Keep.tr (Keep.tr HK8.out (by repeat (first | exact Keep.rf _ | assumption | apply Keep.al | apply Keep.dr | apply Keep.dn))) k9⟩
      · have hc := (HG1.out (by omega)).1
        have hl := (HG1.out (by omega)).2
        subst hc
        rw [hl]
        clear hl
        go_wp2_with fail
        refine (law23Known _).mono ?_
        rintro e w9 ⟨rfl, k9⟩
        go_wp2_with fail
        go_ret
        exact ⟨rfl, Keep.tr (Keep.tr HK8.out (by repeat (first | exact Keep.rf _ | assumption | apply Keep.al | apply Keep.dr | apply Keep.dn))) k9⟩
set_option maxHeartbeats 8000000 in
theorem UnpickMany_walk (w : World) (n : Int) (hn : (Lit.int .i64 n).wf = true) : Calls Try.prog 9 #[.int .i64 n] w fun e w' => e = .returned (.bool true) ∧ Keep w w' := by
  have hnb := in_i64 hn
  clear hn
  by_cases h0 : n < 0
  · go_enter Try.func9, Try.ntmps9
    go_wp2_with fail
    go_ret
    exact ⟨rfl, (by repeat (first | exact Keep.rf _ | assumption | apply Keep.al | apply Keep.dr | apply Keep.dn))⟩
  by_cases h1 : n > 2003
  · go_enter Try.func9, Try.ntmps9
    go_wp2_with fail
    go_ret
    exact ⟨rfl, (by repeat (first | exact Keep.rf _ | assumption | apply Keep.al | apply Keep.dr | apply Keep.dn))⟩
  by_cases h2 : n > 20
  · by_cases h3 : n < 1998
    · go_enter Try.func9, Try.ntmps9
      go_wp2_with fail
      go_ret
      exact ⟨rfl, (by repeat (first | exact Keep.rf _ | assumption | apply Keep.al | apply Keep.dr | apply Keep.dn))⟩
    · exact UnpickMany_hi w n hnb h0 h1 h2 h3
  · exact UnpickMany_lo w n hnb h0 h1 h2
end Go.Proofs.Ytoehaijmkmdggaa
