/- The law TypOdd: walk. Printed by gen_tyodd.py. -/
import Derived.Test.YtoippbbodhchkaaDoorTyTel
namespace Go.Proofs.YtoippbbodhchkaaDoor
open Go.RowKit
open Em (Ty)
set_option linter.unusedVariables false
set_option maxRecDepth 100000
abbrev kSet : Ty := .mk [115, 101, 116] 0 []
abbrev kBig : Ty := .mk Em.wVar 1099511627776 []
theorem big_is : Em.isT kBig = true := by decide +kernel
theorem int_is : Em.isT kInt = true := by decide +kernel
theorem flat_row (op : List UInt8) (n : Int) (hn : (Lit.int .i64 n).wf = true) (W : World) : TyK 1 W [.string (str op), .int .i64 n, .slice none 0 0] (.mk op n []) := ⟨_, rfl, hn, Sl.nil _⟩
abbrev odd0 : Ty := .mk [] 0 []
theorem odd0_no : Em.isT odd0 = false := by decide +kernel
abbrev odd1 : Ty := .mk Em.wList 0 []
theorem odd1_no : Em.isT odd1 = false := by decide +kernel
abbrev odd2 : Ty := .mk Em.wInt 1 []
theorem odd2_no : Em.isT odd2 = false := by decide +kernel
abbrev odd3 : Ty := .mk Em.wVar (-1) []
theorem odd3_no : Em.isT odd3 = false := by decide +kernel
abbrev odd4 : Ty := .mk Em.wPair 0 [kInt]
theorem odd4_no : Em.isT odd4 = false := by decide +kernel
abbrev odd5 : Ty := .mk Em.wFun 0 [kInt, kInt, kInt]
theorem odd5_no : Em.isT odd5 = false := by decide +kernel
abbrev odd6 : Ty := .mk Em.wRef 2 [kInt]
theorem odd6_no : Em.isT odd6 = false := by decide +kernel
abbrev odd7 : Ty := .mk Em.wList 0 [kSet]
theorem odd7_no : Em.isT odd7 = false := by decide +kernel
abbrev odd8 : Ty := .mk Em.wCell 0 [kInt]
theorem odd8_no : Em.isT odd8 = false := by decide +kernel
set_option maxHeartbeats 8000000 in
theorem TypOdd_0 (w : World) (ht : Tens w) : Calls Tryd.prog 5 #[.int .i64 0] w fun e w' => e = .returned (.bool true) ∧ Keep w w' := by
  have HTN := hide ht
  clear ht
  go_enter Tryd.func5, Tryd.ntmps5
  go_wp2_with fail
  generalize hW : World.alloc (World.alloc (World.alloc (World.alloc (World.alloc (World.alloc (World.alloc w _) _) _) _) _) _) _ = W7
  have k7 : Keep w W7 := by rw [← hW]; exact (by repeat (first | exact Keep.rf _ | assumption | apply Keep.al | apply Keep.dr | apply Keep.dn))
  have d0 : W7.cell? ⟨w.heap.size, 0, none⟩ = some (.string (str Em.wInt)) := by rw [← hW]; exact Keep.cell (w := World.alloc w _) (by repeat (first | exact Keep.rf _ | assumption | apply Keep.al | apply Keep.dr | apply Keep.dn)) (lit_cells rfl 0 rfl)
  have d1 : W7.cell? ⟨w.heap.size, 1, none⟩ = some (.int .i64 0) := by rw [← hW]; exact Keep.cell (w := World.alloc w _) (by repeat (first | exact Keep.rf _ | assumption | apply Keep.al | apply Keep.dr | apply Keep.dn)) (lit_cells rfl 1 rfl)
  have d2 : W7.cell? ⟨w.heap.size, 2, none⟩ = some (.slice none 0 0) := by rw [← hW]; exact Keep.cell (w := World.alloc w _) (by repeat (first | exact Keep.rf _ | assumption | apply Keep.al | apply Keep.dr | apply Keep.dn)) (lit_cells rfl 2 rfl)
  have hT : TyV W7 (.agg #[.string (str []), .int .i64 0, .slice none 0 0]) odd0 := ⟨1, _, rfl, flat_row _ _ (by decide) _⟩
  clear hW
  refine (typIsT odd0 W7 _ hT).mono ?_
  rintro e w8 ⟨rfl, k8⟩
  rw [odd0_no]
  replace d0 := Keep.cell k8 d0
  replace d1 := Keep.cell k8 d1
  replace d2 := Keep.cell k8 d2
  have k08 := Keep.tr k7 k8
  clear hT k8 k7
  go_wp2_with fail
  refine (typIsT kInt w8 _ ⟨1, _, rfl, flat_row _ _ (by decide) _⟩).mono ?_
  rintro e w9 ⟨rfl, k9⟩
  rw [int_is]
  have k09 := Keep.tr k08 k9
  clear d0 d1 d2 k08 k9
  go_wp2_with fail
  refine (refVar8 w9 1099511627776).mono ?_
  rintro e w10 ⟨rfl, k10⟩
  have k010 := Keep.tr k09 k10
  go_wp2_with fail
  refine (typIsT kBig w10 _ ⟨1, _, rfl, flat_row _ _ (by decide) _⟩).mono ?_
  rintro e w11 ⟨rfl, k11⟩
  rw [big_is]
  have k011 := Keep.tr k010 k11
  go_wp2_with fail
  refine (law8Known _ (HTN.out.keep k011)).mono ?_
  rintro e w12 ⟨rfl, k12⟩
  go_wp2_with fail
  go_ret
  exact ⟨rfl, Keep.tr k011 k12⟩
set_option maxHeartbeats 8000000 in
theorem TypOdd_1 (w : World) (ht : Tens w) : Calls Tryd.prog 5 #[.int .i64 1] w fun e w' => e = .returned (.bool true) ∧ Keep w w' := by
  have HTN := hide ht
  clear ht
  go_enter Tryd.func5, Tryd.ntmps5
  go_wp2_with fail
  generalize hW : World.alloc (World.alloc (World.alloc (World.alloc (World.alloc (World.alloc (World.alloc w _) _) _) _) _) _) _ = W7
  have k7 : Keep w W7 := by rw [← hW]; exact (by repeat (first | exact Keep.rf _ | assumption | apply Keep.al | apply Keep.dr | apply Keep.dn))
  have d0 : W7.cell? ⟨w.heap.size, 0, none⟩ = some (.string (str Em.wInt)) := by rw [← hW]; exact Keep.cell (w := World.alloc w _) (by repeat (first | exact Keep.rf _ | assumption | apply Keep.al | apply Keep.dr | apply Keep.dn)) (lit_cells rfl 0 rfl)
  have d1 : W7.cell? ⟨w.heap.size, 1, none⟩ = some (.int .i64 0) := by rw [← hW]; exact Keep.cell (w := World.alloc w _) (by repeat (first | exact Keep.rf _ | assumption | apply Keep.al | apply Keep.dr | apply Keep.dn)) (lit_cells rfl 1 rfl)
  have d2 : W7.cell? ⟨w.heap.size, 2, none⟩ = some (.slice none 0 0) := by rw [← hW]; exact Keep.cell (w := World.alloc w _) (by repeat (first | exact Keep.rf _ | assumption | apply Keep.al | apply Keep.dr | apply Keep.dn)) (lit_cells rfl 2 rfl)
  have hT : TyV W7 (.agg #[.string (str Em.wList), .int .i64 0, .slice none 0 0]) odd1 := ⟨1, _, rfl, flat_row _ _ (by decide) _⟩
  clear hW
  refine (typIsT odd1 W7 _ hT).mono ?_
  rintro e w8 ⟨rfl, k8⟩
  rw [odd1_no]
  replace d0 := Keep.cell k8 d0
  replace d1 := Keep.cell k8 d1
  replace d2 := Keep.cell k8 d2
  have k08 := Keep.tr k7 k8
  clear hT k8 k7
  go_wp2_with fail
  refine (typIsT kInt w8 _ ⟨1, _, rfl, flat_row _ _ (by decide) _⟩).mono ?_
  rintro e w9 ⟨rfl, k9⟩
  rw [int_is]
  have k09 := Keep.tr k08 k9
  clear d0 d1 d2 k08 k9
  go_wp2_with fail
  refine (refVar8 w9 1099511627776).mono ?_
  rintro e w10 ⟨rfl, k10⟩
  have k010 := Keep.tr k09 k10
  go_wp2_with fail
  refine (typIsT kBig w10 _ ⟨1, _, rfl, flat_row _ _ (by decide) _⟩).mono ?_
  rintro e w11 ⟨rfl, k11⟩
  rw [big_is]
  have k011 := Keep.tr k010 k11
  go_wp2_with fail
  refine (law8Known _ (HTN.out.keep k011)).mono ?_
  rintro e w12 ⟨rfl, k12⟩
  go_wp2_with fail
  go_ret
  exact ⟨rfl, Keep.tr k011 k12⟩
set_option maxHeartbeats 8000000 in
theorem TypOdd_2 (w : World) (ht : Tens w) : Calls Tryd.prog 5 #[.int .i64 2] w fun e w' => e = .returned (.bool true) ∧ Keep w w' := by
  have HTN := hide ht
  clear ht
  go_enter Tryd.func5, Tryd.ntmps5
  go_wp2_with fail
  generalize hW : World.alloc (World.alloc (World.alloc (World.alloc (World.alloc (World.alloc (World.alloc w _) _) _) _) _) _) _ = W7
  have k7 : Keep w W7 := by rw [← hW]; exact (by repeat (first | exact Keep.rf _ | assumption | apply Keep.al | apply Keep.dr | apply Keep.dn))
  have d0 : W7.cell? ⟨w.heap.size, 0, none⟩ = some (.string (str Em.wInt)) := by rw [← hW]; exact Keep.cell (w := World.alloc w _) (by repeat (first | exact Keep.rf _ | assumption | apply Keep.al | apply Keep.dr | apply Keep.dn)) (lit_cells rfl 0 rfl)
  have d1 : W7.cell? ⟨w.heap.size, 1, none⟩ = some (.int .i64 0) := by rw [← hW]; exact Keep.cell (w := World.alloc w _) (by repeat (first | exact Keep.rf _ | assumption | apply Keep.al | apply Keep.dr | apply Keep.dn)) (lit_cells rfl 1 rfl)
  have d2 : W7.cell? ⟨w.heap.size, 2, none⟩ = some (.slice none 0 0) := by rw [← hW]; exact Keep.cell (w := World.alloc w _) (by repeat (first | exact Keep.rf _ | assumption | apply Keep.al | apply Keep.dr | apply Keep.dn)) (lit_cells rfl 2 rfl)
  have hT : TyV W7 (.agg #[.string (str Em.wInt), .int .i64 1, .slice none 0 0]) odd2 := ⟨1, _, rfl, flat_row _ _ (by decide) _⟩
  clear hW
  refine (typIsT odd2 W7 _ hT).mono ?_
  rintro e w8 ⟨rfl, k8⟩
  rw [odd2_no]
  replace d0 := Keep.cell k8 d0
  replace d1 := Keep.cell k8 d1
  replace d2 := Keep.cell k8 d2
  have k08 := Keep.tr k7 k8
  clear hT k8 k7
  go_wp2_with fail
  refine (typIsT kInt w8 _ ⟨1, _, rfl, flat_row _ _ (by decide) _⟩).mono ?_
  rintro e w9 ⟨rfl, k9⟩
  rw [int_is]
  have k09 := Keep.tr k08 k9
  clear d0 d1 d2 k08 k9
  go_wp2_with fail
  refine (refVar8 w9 1099511627776).mono ?_
  rintro e w10 ⟨rfl, k10⟩
  have k010 := Keep.tr k09 k10
  go_wp2_with fail
  refine (typIsT kBig w10 _ ⟨1, _, rfl, flat_row _ _ (by decide) _⟩).mono ?_
  rintro e w11 ⟨rfl, k11⟩
  rw [big_is]
  have k011 := Keep.tr k010 k11
  go_wp2_with fail
  refine (law8Known _ (HTN.out.keep k011)).mono ?_
  rintro e w12 ⟨rfl, k12⟩
  go_wp2_with fail
  go_ret
  exact ⟨rfl, Keep.tr k011 k12⟩
set_option maxHeartbeats 8000000 in
theorem TypOdd_3 (w : World) (ht : Tens w) : Calls Tryd.prog 5 #[.int .i64 3] w fun e w' => e = .returned (.bool true) ∧ Keep w w' := by
  have HTN := hide ht
  clear ht
  go_enter Tryd.func5, Tryd.ntmps5
  go_wp2_with fail
  generalize hW : World.alloc (World.alloc (World.alloc (World.alloc (World.alloc (World.alloc (World.alloc w _) _) _) _) _) _) _ = W7
  have k7 : Keep w W7 := by rw [← hW]; exact (by repeat (first | exact Keep.rf _ | assumption | apply Keep.al | apply Keep.dr | apply Keep.dn))
  have d0 : W7.cell? ⟨w.heap.size, 0, none⟩ = some (.string (str Em.wInt)) := by rw [← hW]; exact Keep.cell (w := World.alloc w _) (by repeat (first | exact Keep.rf _ | assumption | apply Keep.al | apply Keep.dr | apply Keep.dn)) (lit_cells rfl 0 rfl)
  have d1 : W7.cell? ⟨w.heap.size, 1, none⟩ = some (.int .i64 0) := by rw [← hW]; exact Keep.cell (w := World.alloc w _) (by repeat (first | exact Keep.rf _ | assumption | apply Keep.al | apply Keep.dr | apply Keep.dn)) (lit_cells rfl 1 rfl)
  have d2 : W7.cell? ⟨w.heap.size, 2, none⟩ = some (.slice none 0 0) := by rw [← hW]; exact Keep.cell (w := World.alloc w _) (by repeat (first | exact Keep.rf _ | assumption | apply Keep.al | apply Keep.dr | apply Keep.dn)) (lit_cells rfl 2 rfl)
  have hT : TyV W7 (.agg #[.string (str Em.wVar), .int .i64 (-1), .slice none 0 0]) odd3 := ⟨1, _, rfl, flat_row _ _ (by decide) _⟩
  clear hW
  refine (typIsT odd3 W7 _ hT).mono ?_
  rintro e w8 ⟨rfl, k8⟩
  rw [odd3_no]
  replace d0 := Keep.cell k8 d0
  replace d1 := Keep.cell k8 d1
  replace d2 := Keep.cell k8 d2
  have k08 := Keep.tr k7 k8
  clear hT k8 k7
  go_wp2_with fail
  refine (typIsT kInt w8 _ ⟨1, _, rfl, flat_row _ _ (by decide) _⟩).mono ?_
  rintro e w9 ⟨rfl, k9⟩
  rw [int_is]
  have k09 := Keep.tr k08 k9
  clear d0 d1 d2 k08 k9
  go_wp2_with fail
  refine (refVar8 w9 1099511627776).mono ?_
  rintro e w10 ⟨rfl, k10⟩
  have k010 := Keep.tr k09 k10
  go_wp2_with fail
  refine (typIsT kBig w10 _ ⟨1, _, rfl, flat_row _ _ (by decide) _⟩).mono ?_
  rintro e w11 ⟨rfl, k11⟩
  rw [big_is]
  have k011 := Keep.tr k010 k11
  go_wp2_with fail
  refine (law8Known _ (HTN.out.keep k011)).mono ?_
  rintro e w12 ⟨rfl, k12⟩
  go_wp2_with fail
  go_ret
  exact ⟨rfl, Keep.tr k011 k12⟩
set_option maxHeartbeats 8000000 in
theorem TypOdd_4 (w : World) (ht : Tens w) : Calls Tryd.prog 5 #[.int .i64 4] w fun e w' => e = .returned (.bool true) ∧ Keep w w' := by
  have HTN := hide ht
  clear ht
  go_enter Tryd.func5, Tryd.ntmps5
  go_wp2_with fail
  generalize hW : World.alloc (World.alloc (World.alloc (World.alloc (World.alloc (World.alloc (World.alloc w _) _) _) _) _) _) _ = W7
  have k7 : Keep w W7 := by rw [← hW]; exact (by repeat (first | exact Keep.rf _ | assumption | apply Keep.al | apply Keep.dr | apply Keep.dn))
  have d0 : W7.cell? ⟨w.heap.size, 0, none⟩ = some (.string (str Em.wInt)) := by rw [← hW]; exact Keep.cell (w := World.alloc w _) (by repeat (first | exact Keep.rf _ | assumption | apply Keep.al | apply Keep.dr | apply Keep.dn)) (lit_cells rfl 0 rfl)
  have d1 : W7.cell? ⟨w.heap.size, 1, none⟩ = some (.int .i64 0) := by rw [← hW]; exact Keep.cell (w := World.alloc w _) (by repeat (first | exact Keep.rf _ | assumption | apply Keep.al | apply Keep.dr | apply Keep.dn)) (lit_cells rfl 1 rfl)
  have d2 : W7.cell? ⟨w.heap.size, 2, none⟩ = some (.slice none 0 0) := by rw [← hW]; exact Keep.cell (w := World.alloc w _) (by repeat (first | exact Keep.rf _ | assumption | apply Keep.al | apply Keep.dr | apply Keep.dn)) (lit_cells rfl 2 rfl)
  have hs : Sl 3 (TyK 1) W7 (.slice (some ⟨w.heap.size + 1, 0, none⟩) 1 1) [kInt] := by
    rw [← hW]
    exact Sl.keep (sl_lit (w := (World.alloc w _)) (t := 24) (fun t : Ty => [Value.string (str t.op), .int .i64 t.n, .slice none 0 0]) [kInt] rfl (by simp) rfl (fun _ => rfl) (by simp) (fun a ha => by
      obtain rfl : a = kInt := by simpa using ha
      exact flat_row _ _ (by decide) _)) (by repeat (first | exact Keep.rf _ | assumption | apply Keep.al | apply Keep.dr | apply Keep.dn)) (fun _ _ h => h.keep (by repeat (first | exact Keep.rf _ | assumption | apply Keep.al | apply Keep.dr | apply Keep.dn)))
  have hT : TyV W7 (.agg #[.string (str Em.wPair), .int .i64 0, .slice (some ⟨w.heap.size + 1, 0, none⟩) 1 1]) odd4 := ⟨2, _, rfl, _, rfl, by decide, hs⟩
  clear hW
  refine (typIsT odd4 W7 _ hT).mono ?_
  rintro e w8 ⟨rfl, k8⟩
  rw [odd4_no]
  replace d0 := Keep.cell k8 d0
  replace d1 := Keep.cell k8 d1
  replace d2 := Keep.cell k8 d2
  have k08 := Keep.tr k7 k8
  clear hT hs k8 k7
  go_wp2_with fail
  refine (typIsT kInt w8 _ ⟨1, _, rfl, flat_row _ _ (by decide) _⟩).mono ?_
  rintro e w9 ⟨rfl, k9⟩
  rw [int_is]
  have k09 := Keep.tr k08 k9
  clear d0 d1 d2 k08 k9
  go_wp2_with fail
  refine (refVar8 w9 1099511627776).mono ?_
  rintro e w10 ⟨rfl, k10⟩
  have k010 := Keep.tr k09 k10
  go_wp2_with fail
  refine (typIsT kBig w10 _ ⟨1, _, rfl, flat_row _ _ (by decide) _⟩).mono ?_
  rintro e w11 ⟨rfl, k11⟩
  rw [big_is]
  have k011 := Keep.tr k010 k11
  go_wp2_with fail
  refine (law8Known _ (HTN.out.keep k011)).mono ?_
  rintro e w12 ⟨rfl, k12⟩
  go_wp2_with fail
  go_ret
  exact ⟨rfl, Keep.tr k011 k12⟩
set_option maxHeartbeats 8000000 in
theorem TypOdd_5 (w : World) (ht : Tens w) : Calls Tryd.prog 5 #[.int .i64 5] w fun e w' => e = .returned (.bool true) ∧ Keep w w' := by
  have HTN := hide ht
  clear ht
  go_enter Tryd.func5, Tryd.ntmps5
  go_wp2_with fail
  generalize hW : World.alloc (World.alloc (World.alloc (World.alloc (World.alloc (World.alloc (World.alloc w _) _) _) _) _) _) _ = W7
  have k7 : Keep w W7 := by rw [← hW]; exact (by repeat (first | exact Keep.rf _ | assumption | apply Keep.al | apply Keep.dr | apply Keep.dn))
  have d0 : W7.cell? ⟨w.heap.size, 0, none⟩ = some (.string (str Em.wInt)) := by rw [← hW]; exact Keep.cell (w := World.alloc w _) (by repeat (first | exact Keep.rf _ | assumption | apply Keep.al | apply Keep.dr | apply Keep.dn)) (lit_cells rfl 0 rfl)
  have d1 : W7.cell? ⟨w.heap.size, 1, none⟩ = some (.int .i64 0) := by rw [← hW]; exact Keep.cell (w := World.alloc w _) (by repeat (first | exact Keep.rf _ | assumption | apply Keep.al | apply Keep.dr | apply Keep.dn)) (lit_cells rfl 1 rfl)
  have d2 : W7.cell? ⟨w.heap.size, 2, none⟩ = some (.slice none 0 0) := by rw [← hW]; exact Keep.cell (w := World.alloc w _) (by repeat (first | exact Keep.rf _ | assumption | apply Keep.al | apply Keep.dr | apply Keep.dn)) (lit_cells rfl 2 rfl)
  have hs : Sl 3 (TyK 1) W7 (.slice (some ⟨w.heap.size + 2, 0, none⟩) 3 3) [kInt, kInt, kInt] := by
    rw [← hW]
    exact Sl.keep (sl_lit (w := (World.alloc (World.alloc w _) _)) (t := 24) (fun t : Ty => [Value.string (str t.op), .int .i64 t.n, .slice none 0 0]) [kInt, kInt, kInt] rfl (by simp) rfl (fun _ => rfl) (by simp) (fun a ha => by
      obtain rfl : a = kInt := by simpa using ha
      exact flat_row _ _ (by decide) _)) (by repeat (first | exact Keep.rf _ | assumption | apply Keep.al | apply Keep.dr | apply Keep.dn)) (fun _ _ h => h.keep (by repeat (first | exact Keep.rf _ | assumption | apply Keep.al | apply Keep.dr | apply Keep.dn)))
  have hT : TyV W7 (.agg #[.string (str Em.wFun), .int .i64 0, .slice (some ⟨w.heap.size + 2, 0, none⟩) 3 3]) odd5 := ⟨2, _, rfl, _, rfl, by decide, hs⟩
  clear hW
  refine (typIsT odd5 W7 _ hT).mono ?_
  rintro e w8 ⟨rfl, k8⟩
  rw [odd5_no]
  replace d0 := Keep.cell k8 d0
  replace d1 := Keep.cell k8 d1
  replace d2 := Keep.cell k8 d2
  have k08 := Keep.tr k7 k8
  clear hT hs k8 k7
  go_wp2_with fail
  refine (typIsT kInt w8 _ ⟨1, _, rfl, flat_row _ _ (by decide) _⟩).mono ?_
  rintro e w9 ⟨rfl, k9⟩
  rw [int_is]
  have k09 := Keep.tr k08 k9
  clear d0 d1 d2 k08 k9
  go_wp2_with fail
  refine (refVar8 w9 1099511627776).mono ?_
  rintro e w10 ⟨rfl, k10⟩
  have k010 := Keep.tr k09 k10
  go_wp2_with fail
  refine (typIsT kBig w10 _ ⟨1, _, rfl, flat_row _ _ (by decide) _⟩).mono ?_
  rintro e w11 ⟨rfl, k11⟩
  rw [big_is]
  have k011 := Keep.tr k010 k11
  go_wp2_with fail
  refine (law8Known _ (HTN.out.keep k011)).mono ?_
  rintro e w12 ⟨rfl, k12⟩
  go_wp2_with fail
  go_ret
  exact ⟨rfl, Keep.tr k011 k12⟩
set_option maxHeartbeats 8000000 in
theorem TypOdd_6 (w : World) (ht : Tens w) : Calls Tryd.prog 5 #[.int .i64 6] w fun e w' => e = .returned (.bool true) ∧ Keep w w' := by
  have HTN := hide ht
  clear ht
  go_enter Tryd.func5, Tryd.ntmps5
  go_wp2_with fail
  generalize hW : World.alloc (World.alloc (World.alloc (World.alloc (World.alloc (World.alloc (World.alloc w _) _) _) _) _) _) _ = W7
  have k7 : Keep w W7 := by rw [← hW]; exact (by repeat (first | exact Keep.rf _ | assumption | apply Keep.al | apply Keep.dr | apply Keep.dn))
  have d0 : W7.cell? ⟨w.heap.size, 0, none⟩ = some (.string (str Em.wInt)) := by rw [← hW]; exact Keep.cell (w := World.alloc w _) (by repeat (first | exact Keep.rf _ | assumption | apply Keep.al | apply Keep.dr | apply Keep.dn)) (lit_cells rfl 0 rfl)
  have d1 : W7.cell? ⟨w.heap.size, 1, none⟩ = some (.int .i64 0) := by rw [← hW]; exact Keep.cell (w := World.alloc w _) (by repeat (first | exact Keep.rf _ | assumption | apply Keep.al | apply Keep.dr | apply Keep.dn)) (lit_cells rfl 1 rfl)
  have d2 : W7.cell? ⟨w.heap.size, 2, none⟩ = some (.slice none 0 0) := by rw [← hW]; exact Keep.cell (w := World.alloc w _) (by repeat (first | exact Keep.rf _ | assumption | apply Keep.al | apply Keep.dr | apply Keep.dn)) (lit_cells rfl 2 rfl)
  have hs : Sl 3 (TyK 1) W7 (.slice (some ⟨w.heap.size + 3, 0, none⟩) 1 1) [kInt] := by
    rw [← hW]
    exact Sl.keep (sl_lit (w := (World.alloc (World.alloc (World.alloc w _) _) _)) (t := 24) (fun t : Ty => [Value.string (str t.op), .int .i64 t.n, .slice none 0 0]) [kInt] rfl (by simp) rfl (fun _ => rfl) (by simp) (fun a ha => by
      obtain rfl : a = kInt := by simpa using ha
      exact flat_row _ _ (by decide) _)) (by repeat (first | exact Keep.rf _ | assumption | apply Keep.al | apply Keep.dr | apply Keep.dn)) (fun _ _ h => h.keep (by repeat (first | exact Keep.rf _ | assumption | apply Keep.al | apply Keep.dr | apply Keep.dn)))
  have hT : TyV W7 (.agg #[.string (str Em.wRef), .int .i64 2, .slice (some ⟨w.heap.size + 3, 0, none⟩) 1 1]) odd6 := ⟨2, _, rfl, _, rfl, by decide, hs⟩
  clear hW
  refine (typIsT odd6 W7 _ hT).mono ?_
  rintro e w8 ⟨rfl, k8⟩
  rw [odd6_no]
  replace d0 := Keep.cell k8 d0
  replace d1 := Keep.cell k8 d1
  replace d2 := Keep.cell k8 d2
  have k08 := Keep.tr k7 k8
  clear hT hs k8 k7
  go_wp2_with fail
  refine (typIsT kInt w8 _ ⟨1, _, rfl, flat_row _ _ (by decide) _⟩).mono ?_
  rintro e w9 ⟨rfl, k9⟩
  rw [int_is]
  have k09 := Keep.tr k08 k9
  clear d0 d1 d2 k08 k9
  go_wp2_with fail
  refine (refVar8 w9 1099511627776).mono ?_
  rintro e w10 ⟨rfl, k10⟩
  have k010 := Keep.tr k09 k10
  go_wp2_with fail
  refine (typIsT kBig w10 _ ⟨1, _, rfl, flat_row _ _ (by decide) _⟩).mono ?_
  rintro e w11 ⟨rfl, k11⟩
  rw [big_is]
  have k011 := Keep.tr k010 k11
  go_wp2_with fail
  refine (law8Known _ (HTN.out.keep k011)).mono ?_
  rintro e w12 ⟨rfl, k12⟩
  go_wp2_with fail
  go_ret
  exact ⟨rfl, Keep.tr k011 k12⟩
set_option maxHeartbeats 8000000 in
theorem TypOdd_7 (w : World) (ht : Tens w) : Calls Tryd.prog 5 #[.int .i64 7] w fun e w' => e = .returned (.bool true) ∧ Keep w w' := by
  have HTN := hide ht
  clear ht
  go_enter Tryd.func5, Tryd.ntmps5
  go_wp2_with fail
  generalize hW : World.alloc (World.alloc (World.alloc (World.alloc (World.alloc (World.alloc (World.alloc w _) _) _) _) _) _) _ = W7
  have k7 : Keep w W7 := by rw [← hW]; exact (by repeat (first | exact Keep.rf _ | assumption | apply Keep.al | apply Keep.dr | apply Keep.dn))
  have d0 : W7.cell? ⟨w.heap.size, 0, none⟩ = some (.string (str Em.wInt)) := by rw [← hW]; exact Keep.cell (w := World.alloc w _) (by repeat (first | exact Keep.rf _ | assumption | apply Keep.al | apply Keep.dr | apply Keep.dn)) (lit_cells rfl 0 rfl)
  have d1 : W7.cell? ⟨w.heap.size, 1, none⟩ = some (.int .i64 0) := by rw [← hW]; exact Keep.cell (w := World.alloc w _) (by repeat (first | exact Keep.rf _ | assumption | apply Keep.al | apply Keep.dr | apply Keep.dn)) (lit_cells rfl 1 rfl)
  have d2 : W7.cell? ⟨w.heap.size, 2, none⟩ = some (.slice none 0 0) := by rw [← hW]; exact Keep.cell (w := World.alloc w _) (by repeat (first | exact Keep.rf _ | assumption | apply Keep.al | apply Keep.dr | apply Keep.dn)) (lit_cells rfl 2 rfl)
  have hs : Sl 3 (TyK 1) W7 (.slice (some ⟨w.heap.size + 4, 0, none⟩) 1 1) [kSet] := by
    rw [← hW]
    exact Sl.keep (sl_lit (w := (World.alloc (World.alloc (World.alloc (World.alloc w _) _) _) _)) (t := 24) (fun t : Ty => [Value.string (str t.op), .int .i64 t.n, .slice none 0 0]) [kSet] rfl (by simp) rfl (fun _ => rfl) (by simp) (fun a ha => by
      obtain rfl : a = kSet := by simpa using ha
      exact flat_row _ _ (by decide) _)) (by repeat (first | exact Keep.rf _ | assumption | apply Keep.al | apply Keep.dr | apply Keep.dn)) (fun _ _ h => h.keep (by repeat (first | exact Keep.rf _ | assumption | apply Keep.al | apply Keep.dr | apply Keep.dn)))
  have hT : TyV W7 (.agg #[.string (str Em.wList), .int .i64 0, .slice (some ⟨w.heap.size + 4, 0, none⟩) 1 1]) odd7 := ⟨2, _, rfl, _, rfl, by decide, hs⟩
  clear hW
  refine (typIsT odd7 W7 _ hT).mono ?_
  rintro e w8 ⟨rfl, k8⟩
  rw [odd7_no]
  replace d0 := Keep.cell k8 d0
  replace d1 := Keep.cell k8 d1
  replace d2 := Keep.cell k8 d2
  have k08 := Keep.tr k7 k8
  clear hT hs k8 k7
  go_wp2_with fail
  refine (typIsT kInt w8 _ ⟨1, _, rfl, flat_row _ _ (by decide) _⟩).mono ?_
  rintro e w9 ⟨rfl, k9⟩
  rw [int_is]
  have k09 := Keep.tr k08 k9
  clear d0 d1 d2 k08 k9
  go_wp2_with fail
  refine (refVar8 w9 1099511627776).mono ?_
  rintro e w10 ⟨rfl, k10⟩
  have k010 := Keep.tr k09 k10
  go_wp2_with fail
  refine (typIsT kBig w10 _ ⟨1, _, rfl, flat_row _ _ (by decide) _⟩).mono ?_
  rintro e w11 ⟨rfl, k11⟩
  rw [big_is]
  have k011 := Keep.tr k010 k11
  go_wp2_with fail
  refine (law8Known _ (HTN.out.keep k011)).mono ?_
  rintro e w12 ⟨rfl, k12⟩
  go_wp2_with fail
  go_ret
  exact ⟨rfl, Keep.tr k011 k12⟩
set_option maxHeartbeats 8000000 in
theorem TypOdd_8 (w : World) (ht : Tens w) : Calls Tryd.prog 5 #[.int .i64 8] w fun e w' => e = .returned (.bool true) ∧ Keep w w' := by
  have HTN := hide ht
  clear ht
  go_enter Tryd.func5, Tryd.ntmps5
  go_wp2_with fail
  generalize hW : World.alloc (World.alloc (World.alloc (World.alloc (World.alloc (World.alloc (World.alloc w _) _) _) _) _) _) _ = W7
  have k7 : Keep w W7 := by rw [← hW]; exact (by repeat (first | exact Keep.rf _ | assumption | apply Keep.al | apply Keep.dr | apply Keep.dn))
  have d0 : W7.cell? ⟨w.heap.size, 0, none⟩ = some (.string (str Em.wInt)) := by rw [← hW]; exact Keep.cell (w := World.alloc w _) (by repeat (first | exact Keep.rf _ | assumption | apply Keep.al | apply Keep.dr | apply Keep.dn)) (lit_cells rfl 0 rfl)
  have d1 : W7.cell? ⟨w.heap.size, 1, none⟩ = some (.int .i64 0) := by rw [← hW]; exact Keep.cell (w := World.alloc w _) (by repeat (first | exact Keep.rf _ | assumption | apply Keep.al | apply Keep.dr | apply Keep.dn)) (lit_cells rfl 1 rfl)
  have d2 : W7.cell? ⟨w.heap.size, 2, none⟩ = some (.slice none 0 0) := by rw [← hW]; exact Keep.cell (w := World.alloc w _) (by repeat (first | exact Keep.rf _ | assumption | apply Keep.al | apply Keep.dr | apply Keep.dn)) (lit_cells rfl 2 rfl)
  have hs : Sl 3 (TyK 1) W7 (.slice (some ⟨w.heap.size + 5, 0, none⟩) 1 1) [kInt] := by
    rw [← hW]
    exact Sl.keep (sl_lit (w := (World.alloc (World.alloc (World.alloc (World.alloc (World.alloc w _) _) _) _) _)) (t := 24) (fun t : Ty => [Value.string (str t.op), .int .i64 t.n, .slice none 0 0]) [kInt] rfl (by simp) rfl (fun _ => rfl) (by simp) (fun a ha => by
      obtain rfl : a = kInt := by simpa using ha
      exact flat_row _ _ (by decide) _)) (by repeat (first | exact Keep.rf _ | assumption | apply Keep.al | apply Keep.dr | apply Keep.dn)) (fun _ _ h => h.keep (by repeat (first | exact Keep.rf _ | assumption | apply Keep.al | apply Keep.dr | apply Keep.dn)))
  have hT : TyV W7 (.agg #[.string (str Em.wCell), .int .i64 0, .slice (some ⟨w.heap.size + 5, 0, none⟩) 1 1]) odd8 := ⟨2, _, rfl, _, rfl, by decide, hs⟩
  clear hW
  refine (typIsT odd8 W7 _ hT).mono ?_
  rintro e w8 ⟨rfl, k8⟩
  rw [odd8_no]
  replace d0 := Keep.cell k8 d0
  replace d1 := Keep.cell k8 d1
  replace d2 := Keep.cell k8 d2
  have k08 := Keep.tr k7 k8
  clear hT hs k8 k7
  go_wp2_with fail
  refine (typIsT kInt w8 _ ⟨1, _, rfl, flat_row _ _ (by decide) _⟩).mono ?_
  rintro e w9 ⟨rfl, k9⟩
  rw [int_is]
  have k09 := Keep.tr k08 k9
  clear d0 d1 d2 k08 k9
  go_wp2_with fail
  refine (refVar8 w9 1099511627776).mono ?_
  rintro e w10 ⟨rfl, k10⟩
  have k010 := Keep.tr k09 k10
  go_wp2_with fail
  refine (typIsT kBig w10 _ ⟨1, _, rfl, flat_row _ _ (by decide) _⟩).mono ?_
  rintro e w11 ⟨rfl, k11⟩
  rw [big_is]
  have k011 := Keep.tr k010 k11
  go_wp2_with fail
  refine (law8Known _ (HTN.out.keep k011)).mono ?_
  rintro e w12 ⟨rfl, k12⟩
  go_wp2_with fail
  go_ret
  exact ⟨rfl, Keep.tr k011 k12⟩
set_option maxHeartbeats 8000000 in
theorem TypOdd_walk (w : World) (n : Int) (_hn : (Lit.int .i64 n).wf = true) (ht : Tens w) : Calls Tryd.prog 5 #[.int .i64 n] w fun e w' => e = .returned (.bool true) ∧ Keep w w' := by
  by_cases h0 : n < 0
  · go_enter Tryd.func5, Tryd.ntmps5
    go_wp2_with fail
    go_ret
    exact ⟨rfl, (by repeat (first | exact Keep.rf _ | assumption | apply Keep.al | apply Keep.dr | apply Keep.dn))⟩
  by_cases h1 : 9 ≤ n
  · have h2 : n ≥ 9 := h1
    go_enter Tryd.func5, Tryd.ntmps5
    go_wp2_with fail
    go_ret
    exact ⟨rfl, (by repeat (first | exact Keep.rf _ | assumption | apply Keep.al | apply Keep.dr | apply Keep.dn))⟩
  have hc : n = 0 ∨ n = 1 ∨ n = 2 ∨ n = 3 ∨ n = 4 ∨ n = 5 ∨ n = 6 ∨ n = 7 ∨ n = 8 := by omega
  rcases hc with rfl | rfl | rfl | rfl | rfl | rfl | rfl | rfl | rfl
  · exact TypOdd_0 w ht
  · exact TypOdd_1 w ht
  · exact TypOdd_2 w ht
  · exact TypOdd_3 w ht
  · exact TypOdd_4 w ht
  · exact TypOdd_5 w ht
  · exact TypOdd_6 w ht
  · exact TypOdd_7 w ht
  · exact TypOdd_8 w ht
end Go.Proofs.YtoippbbodhchkaaDoor
