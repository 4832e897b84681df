/- The law's known of chapter 22. -/
import Derived.Test.YtoehaijmkmdggaaTPkG
import Derived.Test.YtoehaijmkmdggaaTRdT
set_option linter.unusedSimpArgs false
set_option linter.unusedVariables false
namespace Go.Proofs.Ytoehaijmkmdggaa
open Go.RowKit
open Em (Ty)
set_option linter.unusedVariables false
set_option linter.unusedSimpArgs false
set_option maxRecDepth 100000
abbrev tyLIk : Ty := .mk Em.wList 0 [.mk Em.wInt 0 []]
theorem known22 : Em.bytesK [(2, [7, 1])] 0 tyLIk = ([1, 6, 0], 0) := by kernel_rfl
theorem intW_3' : intW 3 = 7 := by decide
set_option maxHeartbeats 8000000 in
theorem law22Known (w : World) : Calls Try.prog 19 #[] w fun e w' => e = .returned (.bool true) ∧ Keep w w' := by
  go_enter Try.func19, Try.ntmps19
  go_wp2_with fail
  refine (heapNew 9 _ (by omega)).mono ?_
  rintro e w1 ⟨p, S, rfl, hR, hS, k1⟩
  go_wp2_with fail
  refine (heapInt 3 _).mono ?_
  rintro e w2 ⟨rfl, rfl⟩
  rw [intW_3']
  go_wp2_with fail
  refine (heapInt 0 _).mono ?_
  rintro e w2 ⟨rfl, rfl⟩
  rw [intW_0]
  go_wp2_with fail
  have kA : Keep w1 (w1.alloc (.cells #[.int .i64 7, .int .i64 1] 36)) := (by repeat (first | exact Keep.rf _ | assumption | apply Keep.al | apply Keep.dr | apply Keep.dn))
  have hal := heapAlloc _ (hR.keep kA) 2 (by decide) (.slice (some ⟨w1.heap.size, 0, none⟩) 2 2) [7, 1] (Cs.lit _ rfl rfl rfl (by simp) (by simp)) (by decide) (by simp)
  have ha : Em.alloc 9 [] 2 [7, 1] = some (0, [(2, [7, 1])]) := by kernel_rfl
  unfold AllocH at hal
  rw [ha] at hal
  have HAL := hide hal
  have KA := hide (Keep.tr k1 kA)
  have HSN := hide hS
  clear hal ha kA k1 hS hR
  refine HAL.out.mono ?_
  rintro e w3 ⟨rfl, S', hR3, F3, _⟩
  have K3 := hide (Frm.keep KA.out F3 fun i hi => HSN.out i hi)
  have HR3 := hide hR3
  clear hR3 F3 HAL
  go_wp2_with fail
  refine (refT23 _ [105, 110, 116] none 0 0).mono ?_
  rintro e w4 ⟨rfl, k4⟩
  go_wp2_with fail
  refine (refT23 _ [108, 105, 115, 116] _ 1 1).mono ?_
  rintro e w5 ⟨rfl, k5⟩
  have hT := sl_one3 (K := TyK 1) (x := .mk Em.wInt 0 []) ((k5.frm fun _ => False).heap (fun h => h) (heap_alloc_new w4 (.cells #[.string (str [105, 110, 116]), .int .i64 0, .slice none 0 0] 25))) ⟨_, rfl, (by decide : (Lit.int .i64 0).wf = true), Sl.nil w5⟩
  have hty : TyK 2 w5 [.string (str [108, 105, 115, 116]), .int .i64 0, .slice (some ⟨w4.heap.size, 0, none⟩) 1 1] tyLIk := ⟨_, rfl, (by decide : (Lit.int .i64 0).wf = true), hT⟩
  have k35 : Keep w3 w5 := Keep.tr k4 (Keep.tr ((Keep.rf w4).al _) k5)
  have hPB := pickBytes w5 (HR3.out.keep k35) 0 (by decide) tyLIk 2 _ hty
  rw [known22] at hPB
  have HPB := hide hPB
  have K5 := hide (Keep.tr K3.out k35)
  clear hT hty k4 k5 k35 hPB
  go_wp2_with fail
  refine HPB.out.mono ?_
  rintro e w6 ⟨A6, c6, rfl, hb6, k6⟩
  have hb6 : Bs w6 (.slice A6 3 c6) [1, 6, 0] := hb6
  have hcv := run_conv_bs hb6 22 5 9 Try.underlying22 Try.underlying5 Try.underlying9
  have hs5 : (str [1, 6, 0]).toList == [1, 6, 0] := by rw [opB]; rfl
  have K6 := hide (Keep.tr K5.out k6)
  clear hb6 k6 HPB
  go_wp2_with fail
  go_ret
  exact ⟨rfl, K6.out⟩
end Go.Proofs.Ytoehaijmkmdggaa
