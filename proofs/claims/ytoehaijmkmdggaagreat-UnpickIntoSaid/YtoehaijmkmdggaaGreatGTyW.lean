/- What a type is in memory. Walks: the functions of package typ. Walks: are two types one? is a type sent? (package typ, and the reference) -/
import Derived.Test.YtoehaijmkmdggaaGreatGLib
import Derived.Test.YtoehaijmkmdggaaGreatGReg
import Derived.Test.YtoehaijmkmdggaaGreatGOpen
import Derived.Test.YtoehaijmkmdggaaGreatGLibR
import Derived.Test.YtoehaijmkmdggaaGreatGHeapPure
import Derived.Test.YtoehaijmkmdggaaGreatProg
import Derived.Shelf.Abstract
set_option linter.unusedSimpArgs false
set_option linter.unusedVariables false
set_option linter.unusedSimpArgs false
namespace Go.Proofs.YtoehaijmkmdggaaGreat
open Go.RowKit
open Em (Ty)
set_option linter.unusedVariables false
/-- A type's cells, so deep at most. -/
def TyK : Nat → World → List Value → Ty → Prop
  | 0, _, _, _ => False
  | d + 1, w, cs, t => ∃ v, cs = [.string (str t.op), .int .i64 t.n, v] ∧ (Lit.int .i64 t.n).wf = true ∧ Sl 3 (TyK d) w v t.kids
theorem TyK.keep : ∀ {d : Nat} {w w' : World} {cs : List Value} {t : Ty}, TyK d w cs t → Keep w w' → TyK d w' cs t
  | 0, _, _, _, _, h, _ => h
  | d + 1, w, w', cs, t, ⟨v, h1, h2, h3⟩, k => ⟨v, h1, h2, h3.keep k fun cs x h => TyK.keep h k⟩
theorem TyK.succ : ∀ {d : Nat} {w : World} {cs : List Value} {t : Ty}, TyK d w cs t → TyK (d + 1) w cs t
  | 0, _, _, _, h => h.elim
  | d + 1, w, cs, t, ⟨v, h1, h2, h3⟩ => ⟨v, h1, h2, h3.mono fun cs x h => TyK.succ h⟩
theorem TyK.le {d e : Nat} {w : World} {cs : List Value} {t : Ty} (h : TyK d w cs t) (hle : d ≤ e) : TyK e w cs t := by
  induction hle with
  | refl => exact h
  | step _ ih => exact ih.succ
/-- A value that is a type. -/
def TyV (w : World) (v : Value) (t : Ty) : Prop := ∃ d cs, v = .agg cs.toArray ∧ TyK d w cs t
theorem TyV.keep {w w' : World} {v : Value} {t : Ty} (h : TyV w v t) (k : Keep w w') : TyV w' v t := by
  obtain ⟨d, cs, h1, h2⟩ := h
  exact ⟨d, cs, h1, h2.keep k⟩
end Go.Proofs.YtoehaijmkmdggaaGreat
namespace Go.Proofs.YtoehaijmkmdggaaGreat
open Go.RowKit
open Em (Ty)
set_option linter.unusedVariables false
set_option maxRecDepth 100000
set_option maxHeartbeats 1000000 in
theorem typSize (d : Nat) : ∀ (t : Ty) (w : World) (cs : List Value) (most : Int), TyK d w cs t → 1 ≤ most → most ≤ 100000 → Calls Tryz.prog 43 #[.agg cs.toArray, .int .i64 most] w fun e w' => e = .returned (.int .i64 (Em.sz most t)) ∧ Keep w w' := by
  induction d with
  | zero => intro t w cs most h; exact h.elim
  | succ d ih =>
    intro t w cs most h hm1 hm2
    obtain ⟨v, rfl, hn, A, c, rfl, hlc, hcm, hr⟩ := h
    have IH := hide ih
    have hst : Em.sz most t = Em.szL most 1 t.kids := by cases t; rfl
    have HST := hide hst
    clear ih hst
    generalize t.kids = ks at *
    go_enter Tryz.func43, Tryz.ntmps43
    go_wp2_with fail
    go_loopw [5, 11] (fun m i W => ∃ (j : Nat) (x : Int), j ≤ ks.length ∧ i = .int .i64 j ∧ m = .int .i64 x ∧ Em.szL most 1 ks = Em.szL most x (ks.drop j) ∧ 1 ≤ x ∧ x ≤ most ∧ Keep w W) (fun _ i _ => ks.length - (intOf i).toNat)
    case atStart => exact ⟨0, 1, by omega, rfl, rfl, rfl, by omega, by omega, (by repeat (first | exact Keep.rf _ | assumption | apply Keep.al | apply Keep.dr | apply Keep.dn))⟩
    case round =>
      obtain ⟨j, x, hj, rfl, rfl, hx, hx1, hx2, hk⟩ := hrel
      have HX := hide hx
      clear hx
      by_cases hlt : j < ks.length
      · obtain ⟨ad, rfl, hcell⟩ := hr (by omega)
        obtain ⟨cs, hcs, hcl, hkt⟩ := hcell j hlt
        have hkt0 := hkt
        have hdr := hide (List.drop_eq_getElem_cons hlt)
        generalize ks[j] = kt at *
        cases d with
        | zero => exact hkt.elim
        | succ d =>
          obtain ⟨kv, rfl, kn, kA, kc, rfl, _⟩ := hkt
          have c0 := Keep.cell hk (hcl 0 _ rfl)
          rw [Nat.add_zero] at c0
          have c1 := cell_off (Keep.cell hk (hcl 1 _ rfl))
          have c2 := cell_off (Keep.cell hk (hcl 2 _ rfl))
          clear hcell hcl hr
          by_cases hge : most ≤ x
          · have hfin := hide (Em.szL_ge most x (ks.drop j) hge)
            go_wp2_with fail
            go_ret
            refine ⟨ret_int ?_, (by repeat (first | exact Keep.rf _ | assumption | apply Keep.al | apply Keep.dr | apply Keep.dn))⟩
            rw [HST.out, HX.out, hfin.out]
          · have hsz := Em.sz_le (most - x) kt (by omega)
            go_wp2_with fail
            refine (IH.out kt _ _ (most - x) (hkt0.keep (by repeat (first | exact Keep.rf _ | assumption | apply Keep.al | apply Keep.dr | apply Keep.dn))) (by omega) (by omega)).mono ?_
            rintro e w' ⟨rfl, hk2⟩
            have hon : Em.szL most 1 ks = Em.szL most (x + Em.sz (most - x) kt) (ks.drop (j + 1)) := by
              rw [HX.out, hdr.out, Em.szL_cons most x kt _ (by omega)]
            have HON := hide hon
            clear hon
            go_wp2_with fail
            go_roundw
            case rel => exact ⟨j + 1, _, by omega, by go_num, rfl, HON.out, by omega, by omega, Keep.tr (by repeat (first | exact Keep.rf _ | assumption | apply Keep.al | apply Keep.dr | apply Keep.dn)) hk2⟩
            case measure => simp [intOf]; omega
      · go_wp2_with fail
        go_ret
        refine ⟨ret_int ?_, hk⟩
        rw [HST.out, HX.out, List.drop_of_length_le (by omega)]
        rfl
theorem opB (o l : List UInt8) : ((str o).toList == l) = decide (o = l) := by
  rw [str_list, Bool.eq_iff_iff]
  simp
theorem opCases (o : List UInt8) : o = [105, 110, 116] ∨ o = [98, 111, 111, 108] ∨ o = [117, 110, 105, 116] ∨ o = [115, 116, 114, 105, 110, 103] ∨ o = [99, 101, 108, 108] ∨ o = [118, 97, 114] ∨ o = [108, 105, 115, 116] ∨ o = [114, 101, 102] ∨ o = [112, 97, 105, 114] ∨ o = [102, 117, 110] ∨ (¬ o = [105, 110, 116] ∧ ¬ o = [98, 111, 111, 108] ∧ ¬ o = [117, 110, 105, 116] ∧ ¬ o = [115, 116, 114, 105, 110, 103] ∧ ¬ o = [99, 101, 108, 108] ∧ ¬ o = [118, 97, 114] ∧ ¬ o = [108, 105, 115, 116] ∧ ¬ o = [114, 101, 102] ∧ ¬ o = [112, 97, 105, 114] ∧ ¬ o = [102, 117, 110]) := by
  by_cases h : o = [105, 110, 116] ∨ o = [98, 111, 111, 108] ∨ o = [117, 110, 105, 116] ∨ o = [115, 116, 114, 105, 110, 103] ∨ o = [99, 101, 108, 108] ∨ o = [118, 97, 114] ∨ o = [108, 105, 115, 116] ∨ o = [114, 101, 102] ∨ o = [112, 97, 105, 114] ∨ o = [102, 117, 110]
  · rcases h with h | h | h | h | h | h | h | h | h | h <;> simp_all
  · simp only [not_or] at h
    simp only [h, false_or, not_false_eq_true, and_self]
set_option maxHeartbeats 2000000 in
theorem typKids (o : List UInt8) (w : World) : Calls Tryz.prog 66 #[.string (str o)] w fun e w' => e = .returned (.int .i64 (Em.kidsOf o)) ∧ w = w' := by
  have hO := opB o
  rcases opCases o with rfl | rfl | rfl | rfl | rfl | rfl | rfl | rfl | rfl | rfl | ⟨h0, h1, h2, h3, h4, h5, h6, h7, h8, h9⟩
  all_goals
    go_enter Tryz.func66, Tryz.ntmps66
    go_wp2
    go_ret
    exact ⟨ret_int (by first | (simp [Em.kidsOf, Em.wInt, Em.wBool, Em.wUnit, Em.wString, Em.wCell, Em.wVar, Em.wList, Em.wRef, Em.wPair, Em.wFun, *]; done) | rfl), rfl⟩
/-- A function value that tells of each kid. -/
def TellsK (g : Nat) (d : Nat) (w : World) (ks : List Ty) (p : Ty → Bool) : Prop :=
  ∀ k ∈ ks, ∀ (W : World) (cs : List Value), Keep w W → TyK d W cs k → Calls Tryz.prog g #[.agg cs.toArray] W fun e w' => e = .returned (.bool (p k)) ∧ Keep W w'
set_option maxHeartbeats 1000000 in
theorem tyIndexFunc (g d : Nat) (he : Enters Tryz.prog g) (w : World) (v : Value) (ks : List Ty) (p : Ty → Bool) (h : Sl 3 (TyK d) w v ks) (hp : TellsK g d w ks p) :
    Calls Tryz.prog 68 #[v, .func (.func g) #[] #[]] w fun e w' => (∃ n : Int, e = .returned (.int .i64 n) ∧ decide (0 ≤ n) = ks.any p) ∧ Keep w w' := by
  obtain ⟨A, c, rfl, hlc, hcm, hr⟩ := h
  have HP := hide hp
  clear hp
  have heg : ∀ (args : Array Value) (w : World), (callFunc g args).run Tryz.prog w = .ok (.enter g args) w := he
  clear he
  go_enter Tryz.func68, Tryz.ntmps68
  go_wp2_with fail
  go_loopw [5, 8] (fun _ i W => ∃ (j : Nat), j ≤ ks.length ∧ i = .int .i64 j ∧ (∀ x ∈ ks.take j, p x = false) ∧ Keep w W) (fun _ i _ => ks.length - (intOf i).toNat)
  case atStart => exact ⟨0, by omega, rfl, by simp, Keep.rf _⟩
  case round =>
    obtain ⟨j, hj, rfl, hx, hk⟩ := hrel
    have HX := hide hx
    clear hx
    by_cases hlt : j < ks.length
    · obtain ⟨ad, rfl, hcell⟩ := hr (by omega)
      obtain ⟨cs, hcs, hcl, hkt⟩ := hcell j hlt
      have hkt0 := hkt
      have hmem := hide (List.getElem_mem hlt)
      have htk := hide (List.take_succ_eq_append_getElem hlt)
      generalize ks[j] = kt at *
      cases d with
      | zero => exact hkt.elim
      | succ d =>
        obtain ⟨kv, rfl, kn, kA, kc, rfl, _⟩ := hkt
        have c0 := Keep.cell hk (hcl 0 _ rfl)
        rw [Nat.add_zero] at c0
        have c1 := cell_off (Keep.cell hk (hcl 1 _ rfl))
        have c2 := cell_off (Keep.cell hk (hcl 2 _ rfl))
        clear hcell hcl hr
        go_wp2_with fail
        refine (HP.out kt hmem.out _ _ (by repeat (first | exact Keep.rf _ | assumption | apply Keep.al | apply Keep.dr | apply Keep.dn)) (hkt0.keep (by repeat (first | exact Keep.rf _ | assumption | apply Keep.al | apply Keep.dr | apply Keep.dn)))).mono ?_
        rintro e w' ⟨rfl, hk2⟩
        have HK2 := hide hk2
        cases hpk : p kt with
        | true =>
          have HPK := hide hpk
          clear hpk
          go_wp2_with fail
          go_ret
          refine ⟨⟨_, rfl, ?_⟩, Keep.tr (by repeat (first | exact Keep.rf _ | assumption | apply Keep.al | apply Keep.dr | apply Keep.dn)) hk2⟩
          rw [show decide (0 ≤ (j : Int)) = true from by simp, eq_comm, List.any_eq_true]
          exact ⟨kt, hmem.out, HPK.out⟩
        | false =>
          have hon : ∀ x ∈ ks.take (j + 1), p x = false := by
            intro x hx
            rw [htk.out] at hx
            rcases List.mem_append.1 hx with hx | hx
            · exact HX.out x hx
            · rw [List.mem_singleton.1 hx]; exact hpk
          have HON := hide hon
          clear hpk hon
          go_wp2_with fail
          go_roundw
          case rel => exact ⟨j + 1, by omega, by go_num, HON.out, Keep.tr (by repeat (first | exact Keep.rf _ | assumption | apply Keep.al | apply Keep.dr | apply Keep.dn)) hk2⟩
          case measure => simp [intOf]; omega
    · go_wp2_with fail
      go_ret
      refine ⟨⟨_, rfl, ?_⟩, hk⟩
      have h1 : ks.take j = ks := List.take_of_length_le (by omega)
      have h2 := HX.out
      rw [h1] at h2
      rw [show decide (0 ≤ (-1 : Int)) = false from rfl, eq_comm, List.any_eq_false]
      intro x hx
      simp [h2 x hx]
theorem tyContainsFunc (g d : Nat) (he : Enters Tryz.prog g) (w : World) (v : Value) (ks : List Ty) (p : Ty → Bool) (h : Sl 3 (TyK d) w v ks) (hp : TellsK g d w ks p) :
    Calls Tryz.prog 45 #[v, .func (.func g) #[] #[]] w fun e w' => e = .returned (.bool (ks.any p)) ∧ Keep w w' := by
  have H := tyIndexFunc g d he w v ks p h hp
  obtain ⟨A, c, rfl, _⟩ := h
  clear hp he
  go_enter Tryz.func45, Tryz.ntmps45
  go_wp2_with fail
  refine H.mono ?_
  rintro e w' ⟨⟨n, rfl, hn⟩, hk⟩
  have HN := hide hn
  clear hn
  go_wp2
  go_ret
  exact ⟨by rw [← HN.out]; rfl, hk⟩
set_option maxHeartbeats 2000000 in
theorem typIs1 (d : Nat) : ∀ (t : Ty) (w : World) (cs : List Value), TyK d w cs t → Calls Tryz.prog 44 #[.agg cs.toArray] w fun e w' => e = .returned (.bool (Em.okT t)) ∧ Keep w w' := by
  induction d with
  | zero => intro t w cs h; exact h.elim
  | succ d ih =>
    intro t w cs h
    obtain ⟨v, rfl, hn, hs⟩ := h
    have hs0 := hs
    obtain ⟨A, c, rfl, hlc, hcm, hr⟩ := hs
    have HT : TellsK 67 d w t.kids fun k => !Em.okT k := by
      intro k hk W cs' hW hK
      have hK0 := hK
      cases d with
      | zero => exact hK.elim
      | succ d =>
        obtain ⟨kv, rfl, kn, kA, kc, rfl, _⟩ := hK
        have HI := hide ih
        clear ih
        go_enter Tryz.func67, Tryz.ntmps67
        go_wp2_with fail
        refine (HI.out k _ _ (hK0.keep (by repeat (first | exact Keep.rf _ | assumption | apply Keep.al | apply Keep.dr | apply Keep.dn)))).mono ?_
        rintro e w' ⟨rfl, hk2⟩
        go_wp2
        go_ret
        exact ⟨rfl, Keep.tr (by repeat (first | exact Keep.rf _ | assumption | apply Keep.al | apply Keep.dr | apply Keep.dn)) hk2⟩
    have hO := opB t.op
    have hOK := hide (Em.okT_of t)
    have hnb := in_i64 hn
    have HTT := hide HT
    clear ih HT hr
    generalize t.op = o at *
    generalize t.n = n at *
    generalize t.kids = ks at *
    go_enter Tryz.func44, Tryz.ntmps44
    go_wp2_with fail
    have hb := heap_alloc_new w (.cells #[.string (str o), .int .i64 n, .slice A ks.length c] 25)
    have b0 := top_cells hb 0
    have b1 := top_cells hb 1
    have b2 := top_cells hb 2
    simp only [List.getElem?_toArray, List.getElem?_cons_succ, List.getElem?_cons_zero] at b0 b1 b2
    apply region_all (by kernel_rfl) Keep Keep krg ktg krg ktg (fun _ _ h => h) [some 3, some 4, some 5, some 6, some 7, some 8, some 9, some 10, some 11, some 12, some 13, some 14, some 15, some 16, some 17, some 18, some 19, some 20, some 21, some 22, some 23, some 24] [eqG _ , eqG _ , eqG _ , eqG _ , eqG _ , eqG _ , eqG _ , eqG _ , gnG _ _ , gnG _ _ , gnG _ _ , eqG _ , eqG _ , gnG _ _ , gnG _ _ , gnG _ _ , gnG _ _ , gdG _ _ , gdG _ _ , gdG _ _ , gnG _ _ , eqG _ ] [⟨[], [], true, false, false⟩, ⟨[0], [], true, false, false⟩, ⟨[1], [], true, false, false⟩, ⟨[], [], true, false, false⟩, ⟨[3], [], true, false, false⟩, ⟨[4], [], true, false, false⟩, ⟨[2, 5], [], true, false, false⟩, ⟨[6], [], true, false, false⟩, ⟨[7], [], true, false, false⟩, ⟨[7, 8], [], true, false, false⟩, ⟨[7, 9], [], true, false, false⟩, ⟨[7, 10], [], true, false, false⟩, ⟨[11], [], true, false, false⟩, ⟨[12], [], true, false, false⟩, ⟨[12, 13], [], true, false, false⟩, ⟨[12, 14], [], true, false, false⟩, ⟨[12, 15], [], true, false, false⟩, ⟨[16], [], true, false, false⟩, ⟨[16, 17], [], true, false, false⟩, ⟨[16, 18], [], true, false, false⟩, ⟨[12, 16, 19], [], true, false, false⟩, ⟨[12, 20], [], true, false, false⟩] [21] (by kernel_rfl) (by kernel_rfl) 
    · refine ⟨?_, ?_, ?_, ?_, ?_, ?_, ?_, ?_, ?_, ?_, ?_, ?_, ?_, ?_, ?_, ?_, ?_, ?_, ?_, ?_, ?_, ?_, trivial⟩ <;> (intro us W h9 hW hE hd hs K hK; obtain ⟨u0, u1, u2, u3, u4, u5, u6, u7, u8, u9, u10, u11, u12, u13, u14, u15, u16, u17, u18, u19, u20, u21, rfl⟩ := rog 22 h9 rfl; clear h9; try simp only [DepG, AtG, and_true, relG, eqG, eqG1, eqG2, eqG3, gdG, gdG1, gnG, gnG1, List.getD_cons_zero, List.getD_cons_succ, List.getElem?_cons_succ, List.getElem?_cons_zero, Option.map_some, Option.getD_some, valsG, List.map_cons, List.map_nil, List.length_cons, List.length_nil] at hd)
      · ((try clear hd); clear hs; simp only [fillG, List.set_cons_zero, List.set_cons_succ]; refine want_n rfl ?_; go_wp2_with (first | fail); simp only [DoneG, fillG, List.set_cons_zero, List.set_cons_succ, relG, eqG, eqG1, eqG2, eqG3, gdG, gdG1, gnG, gnG1, List.getD_cons_zero, List.getD_cons_succ, List.getElem?_cons_succ, List.getElem?_cons_zero, Option.map_some, Option.getD_some, valsG, List.map_cons, List.map_nil, List.length_cons, List.length_nil]; exact ⟨_, rfl, (by first | with_reducible assumption | exact krg _ | exact Keep.al (krg _) _), fun _ _ => rfl⟩)
      · (have d0 := hd; clear hd; subst d0; clear hs; simp only [fillG, List.set_cons_zero, List.set_cons_succ]; have hKW := Keep.tr (Keep.dr (Keep.rf _)) (hE rfl); have b0 := Keep.cell hKW b0; have b1 := Keep.cell hKW b1; have b2 := Keep.cell hKW b2; refine want_n rfl ?_; go_wp2_with (first | fail); simp only [DoneG, fillG, List.set_cons_zero, List.set_cons_succ, relG, eqG, eqG1, eqG2, eqG3, gdG, gdG1, gnG, gnG1, List.getD_cons_zero, List.getD_cons_succ, List.getElem?_cons_succ, List.getElem?_cons_zero, Option.map_some, Option.getD_some, valsG, List.map_cons, List.map_nil, List.length_cons, List.length_nil]; exact ⟨_, rfl, (by first | with_reducible assumption | exact krg _ | exact Keep.al (krg _) _), fun _ _ => rfl⟩)
      · (have d1 := hd; clear hd; subst d1; clear hs; simp only [fillG, List.set_cons_zero, List.set_cons_succ]; have hKW := Keep.tr (Keep.dr (Keep.rf _)) (hE rfl); have b0 := Keep.cell hKW b0; have b1 := Keep.cell hKW b1; have b2 := Keep.cell hKW b2; refine want_n rfl ?_; go_wp2_with (first | fail); simp only [DoneG, fillG, List.set_cons_zero, List.set_cons_succ, relG, eqG, eqG1, eqG2, eqG3, gdG, gdG1, gnG, gnG1, List.getD_cons_zero, List.getD_cons_succ, List.getElem?_cons_succ, List.getElem?_cons_zero, Option.map_some, Option.getD_some, valsG, List.map_cons, List.map_nil, List.length_cons, List.length_nil]; exact ⟨_, rfl, (by first | with_reducible assumption | exact krg _ | exact Keep.al (krg _) _), fun _ _ => rfl⟩)
      · ((try clear hd); clear hs; simp only [fillG, List.set_cons_zero, List.set_cons_succ]; refine want_n rfl ?_; go_wp2_with (first | fail); simp only [DoneG, fillG, List.set_cons_zero, List.set_cons_succ, relG, eqG, eqG1, eqG2, eqG3, gdG, gdG1, gnG, gnG1, List.getD_cons_zero, List.getD_cons_succ, List.getElem?_cons_succ, List.getElem?_cons_zero, Option.map_some, Option.getD_some, valsG, List.map_cons, List.map_nil, List.length_cons, List.length_nil]; exact ⟨_, rfl, (by first | with_reducible assumption | exact krg _ | exact Keep.al (krg _) _), fun _ _ => rfl⟩)
      · (have d3 := hd; clear hd; subst d3; clear hs; simp only [fillG, List.set_cons_zero, List.set_cons_succ]; have hKW := Keep.tr (Keep.dr (Keep.rf _)) (hE rfl); have b0 := Keep.cell hKW b0; have b1 := Keep.cell hKW b1; have b2 := Keep.cell hKW b2; refine want_n rfl ?_; go_wp2_with (first | fail); simp only [DoneG, fillG, List.set_cons_zero, List.set_cons_succ, relG, eqG, eqG1, eqG2, eqG3, gdG, gdG1, gnG, gnG1, List.getD_cons_zero, List.getD_cons_succ, List.getElem?_cons_succ, List.getElem?_cons_zero, Option.map_some, Option.getD_some, valsG, List.map_cons, List.map_nil, List.length_cons, List.length_nil]; exact ⟨_, rfl, (by first | with_reducible assumption | exact krg _ | exact Keep.al (krg _) _), fun _ _ => rfl⟩)
      · (have d4 := hd; clear hd; subst d4; clear hs; simp only [fillG, List.set_cons_zero, List.set_cons_succ]; have hKW := Keep.tr (Keep.dr (Keep.rf _)) (hE rfl); have b0 := Keep.cell hKW b0; have b1 := Keep.cell hKW b1; have b2 := Keep.cell hKW b2; refine want_n rfl ?_; go_wp2_with (first | (go_at_call 66; refine (typKids _ _).mono ?_; rintro e w' ⟨rfl, rfl⟩) | fail); simp only [DoneG, fillG, List.set_cons_zero, List.set_cons_succ, relG, eqG, eqG1, eqG2, eqG3, gdG, gdG1, gnG, gnG1, List.getD_cons_zero, List.getD_cons_succ, List.getElem?_cons_succ, List.getElem?_cons_zero, Option.map_some, Option.getD_some, valsG, List.map_cons, List.map_nil, List.length_cons, List.length_nil]; exact ⟨_, rfl, (by first | with_reducible assumption | exact krg _ | exact Keep.al (krg _) _), fun _ _ => rfl⟩)
      · (obtain ⟨d2, d5⟩ := hd; subst d2; subst d5; clear hs; simp only [fillG, List.set_cons_zero, List.set_cons_succ]; refine want_n rfl ?_; go_wp2_with (first | fail); simp only [DoneG, fillG, List.set_cons_zero, List.set_cons_succ, relG, eqG, eqG1, eqG2, eqG3, gdG, gdG1, gnG, gnG1, List.getD_cons_zero, List.getD_cons_succ, List.getElem?_cons_succ, List.getElem?_cons_zero, Option.map_some, Option.getD_some, valsG, List.map_cons, List.map_nil, List.length_cons, List.length_nil]; exact ⟨_, rfl, (by first | with_reducible assumption | exact krg _ | exact Keep.al (krg _) _), fun _ _ => rfl⟩)
      · (have d6 := hd; clear hd; subst d6; clear hs; simp only [fillG, List.set_cons_zero, List.set_cons_succ]; refine want_n rfl ?_; go_wp2_with (first | fail); simp only [DoneG, fillG, List.set_cons_zero, List.set_cons_succ, relG, eqG, eqG1, eqG2, eqG3, gdG, gdG1, gnG, gnG1, List.getD_cons_zero, List.getD_cons_succ, List.getElem?_cons_succ, List.getElem?_cons_zero, Option.map_some, Option.getD_some, valsG, List.map_cons, List.map_nil, List.length_cons, List.length_nil]; exact ⟨_, rfl, (by first | with_reducible assumption | exact krg _ | exact Keep.al (krg _) _), fun _ _ => rfl⟩)
      · (have d7 := hd; clear hd; subst d7; clear hs; simp only [fillG, List.set_cons_zero, List.set_cons_succ]; refine want_b rfl (by rfl) (fun hg => ?_) (fun hg => ?_); (focus (have hG := hide hg; (try simp only [gd, hg, cond_true, Bool.and_self, Bool.true_and, Bool.and_true, cond_false, Bool.not_true, Bool.not_false]); go_wp2_with (first | fail); simp only [DoneG, fillG, List.set_cons_zero, List.set_cons_succ, relG, eqG, eqG1, eqG2, eqG3, gdG, gdG1, gnG, gnG1, List.getD_cons_zero, List.getD_cons_succ, List.getElem?_cons_succ, List.getElem?_cons_zero, Option.map_some, Option.getD_some, valsG, List.map_cons, List.map_nil, List.length_cons, List.length_nil]; exact ⟨_, rfl, (by first | with_reducible assumption | exact krg _ | exact Keep.al (krg _) _), fun _ _ => gd_f hG.out _⟩)); (focus (refine hK _ _ ?_; simp only [DoneG, fillG, List.set_cons_zero, List.set_cons_succ, relG, eqG, eqG1, eqG2, eqG3, gdG, gdG1, gnG, gnG1, List.getD_cons_zero, List.getD_cons_succ, List.getElem?_cons_succ, List.getElem?_cons_zero, Option.map_some, Option.getD_some, valsG, List.map_cons, List.map_nil, List.length_cons, List.length_nil]; exact ⟨undef, rfl, krg _, fun _ _ => gd_fn hg _⟩)))
      · (obtain ⟨d7, d8⟩ := hd; subst d7; subst d8; clear hs; simp only [fillG, List.set_cons_zero, List.set_cons_succ]; have hKW := Keep.tr (Keep.dr (Keep.rf _)) (hE rfl); have b0 := Keep.cell hKW b0; have b1 := Keep.cell hKW b1; have b2 := Keep.cell hKW b2; refine want_b rfl (by rfl) (fun hg => ?_) (fun hg => ?_); (focus (have hG := hide hg; (try simp only [gd, hg, cond_true, Bool.and_self, Bool.true_and, Bool.and_true, cond_false, Bool.not_true, Bool.not_false]); go_wp2_with (first | fail); simp only [DoneG, fillG, List.set_cons_zero, List.set_cons_succ, relG, eqG, eqG1, eqG2, eqG3, gdG, gdG1, gnG, gnG1, List.getD_cons_zero, List.getD_cons_succ, List.getElem?_cons_succ, List.getElem?_cons_zero, Option.map_some, Option.getD_some, valsG, List.map_cons, List.map_nil, List.length_cons, List.length_nil]; exact ⟨_, rfl, (by first | with_reducible assumption | exact krg _ | exact Keep.al (krg _) _), fun _ _ => gd_f hG.out _⟩)); (focus (refine hK _ _ ?_; simp only [DoneG, fillG, List.set_cons_zero, List.set_cons_succ, relG, eqG, eqG1, eqG2, eqG3, gdG, gdG1, gnG, gnG1, List.getD_cons_zero, List.getD_cons_succ, List.getElem?_cons_succ, List.getElem?_cons_zero, Option.map_some, Option.getD_some, valsG, List.map_cons, List.map_nil, List.length_cons, List.length_nil]; exact ⟨undef, rfl, krg _, fun _ _ => gd_fn hg _⟩)))
      · (obtain ⟨d7, d9⟩ := hd; subst d7; subst d9; clear hs; simp only [fillG, List.set_cons_zero, List.set_cons_succ]; refine want_b rfl (by rfl) (fun hg => ?_) (fun hg => ?_); (focus (have hG := hide hg; (try simp only [gd, hg, cond_true, Bool.and_self, Bool.true_and, Bool.and_true, cond_false, Bool.not_true, Bool.not_false]); go_wp2_with (first | fail); simp only [DoneG, fillG, List.set_cons_zero, List.set_cons_succ, relG, eqG, eqG1, eqG2, eqG3, gdG, gdG1, gnG, gnG1, List.getD_cons_zero, List.getD_cons_succ, List.getElem?_cons_succ, List.getElem?_cons_zero, Option.map_some, Option.getD_some, valsG, List.map_cons, List.map_nil, List.length_cons, List.length_nil]; exact ⟨_, rfl, (by first | with_reducible assumption | exact krg _ | exact Keep.al (krg _) _), fun _ _ => gd_f hG.out _⟩)); (focus (refine hK _ _ ?_; simp only [DoneG, fillG, List.set_cons_zero, List.set_cons_succ, relG, eqG, eqG1, eqG2, eqG3, gdG, gdG1, gnG, gnG1, List.getD_cons_zero, List.getD_cons_succ, List.getElem?_cons_succ, List.getElem?_cons_zero, Option.map_some, Option.getD_some, valsG, List.map_cons, List.map_nil, List.length_cons, List.length_nil]; exact ⟨undef, rfl, krg _, fun _ _ => gd_fn hg _⟩)))
      · (obtain ⟨d7, d10⟩ := hd; subst d7; subst d10; clear hs; simp only [fillG, List.set_cons_zero, List.set_cons_succ]; refine want_n rfl ?_; refine wp_pick_or rfl rfl rfl ?_; refine hK _ _ ?_; simp only [DoneG, fillG, List.set_cons_zero, List.set_cons_succ, relG, eqG, eqG1, eqG2, eqG3, gdG, gdG1, gnG, gnG1, List.getD_cons_zero, List.getD_cons_succ, List.getElem?_cons_succ, List.getElem?_cons_zero, Option.map_some, Option.getD_some, valsG, List.map_cons, List.map_nil, List.length_cons, List.length_nil]; exact ⟨_, rfl, (by first | with_reducible assumption | exact krg _ | exact Keep.al (krg _) _), fun _ _ => rfl⟩)
      · (have d11 := hd; clear hd; subst d11; clear hs; simp only [fillG, List.set_cons_zero, List.set_cons_succ]; refine want_n rfl ?_; go_wp2_with (first | fail); simp only [DoneG, fillG, List.set_cons_zero, List.set_cons_succ, relG, eqG, eqG1, eqG2, eqG3, gdG, gdG1, gnG, gnG1, List.getD_cons_zero, List.getD_cons_succ, List.getElem?_cons_succ, List.getElem?_cons_zero, Option.map_some, Option.getD_some, valsG, List.map_cons, List.map_nil, List.length_cons, List.length_nil]; exact ⟨_, rfl, (by first | with_reducible assumption | exact krg _ | exact Keep.al (krg _) _), fun _ _ => rfl⟩)
      · (have d12 := hd; clear hd; subst d12; clear hs; simp only [fillG, List.set_cons_zero, List.set_cons_succ]; refine want_b rfl (by rfl) (fun hg => ?_) (fun hg => ?_); (focus (have hG := hide hg; (try simp only [gd, hg, cond_true, Bool.and_self, Bool.true_and, Bool.and_true, cond_false, Bool.not_true, Bool.not_false]); go_wp2_with (first | fail); simp only [DoneG, fillG, List.set_cons_zero, List.set_cons_succ, relG, eqG, eqG1, eqG2, eqG3, gdG, gdG1, gnG, gnG1, List.getD_cons_zero, List.getD_cons_succ, List.getElem?_cons_succ, List.getElem?_cons_zero, Option.map_some, Option.getD_some, valsG, List.map_cons, List.map_nil, List.length_cons, List.length_nil]; exact ⟨_, rfl, (by first | with_reducible assumption | exact krg _ | exact Keep.al (krg _) _), fun _ _ => gd_f hG.out _⟩)); (focus (refine hK _ _ ?_; simp only [DoneG, fillG, List.set_cons_zero, List.set_cons_succ, relG, eqG, eqG1, eqG2, eqG3, gdG, gdG1, gnG, gnG1, List.getD_cons_zero, List.getD_cons_succ, List.getElem?_cons_succ, List.getElem?_cons_zero, Option.map_some, Option.getD_some, valsG, List.map_cons, List.map_nil, List.length_cons, List.length_nil]; exact ⟨undef, rfl, krg _, fun _ _ => gd_fn hg _⟩)))
      · (obtain ⟨d12, d13⟩ := hd; subst d12; subst d13; clear hs; simp only [fillG, List.set_cons_zero, List.set_cons_succ]; have hKW := Keep.tr (Keep.dr (Keep.rf _)) (hE rfl); have b0 := Keep.cell hKW b0; have b1 := Keep.cell hKW b1; have b2 := Keep.cell hKW b2; refine want_b rfl (by rfl) (fun hg => ?_) (fun hg => ?_); (focus (have hG := hide hg; (try simp only [gd, hg, cond_true, Bool.and_self, Bool.true_and, Bool.and_true, cond_false, Bool.not_true, Bool.not_false]); go_wp2_with (first | fail); simp only [DoneG, fillG, List.set_cons_zero, List.set_cons_succ, relG, eqG, eqG1, eqG2, eqG3, gdG, gdG1, gnG, gnG1, List.getD_cons_zero, List.getD_cons_succ, List.getElem?_cons_succ, List.getElem?_cons_zero, Option.map_some, Option.getD_some, valsG, List.map_cons, List.map_nil, List.length_cons, List.length_nil]; exact ⟨_, rfl, (by first | with_reducible assumption | exact krg _ | exact Keep.al (krg _) _), fun _ _ => gd_f hG.out _⟩)); (focus (refine hK _ _ ?_; simp only [DoneG, fillG, List.set_cons_zero, List.set_cons_succ, relG, eqG, eqG1, eqG2, eqG3, gdG, gdG1, gnG, gnG1, List.getD_cons_zero, List.getD_cons_succ, List.getElem?_cons_succ, List.getElem?_cons_zero, Option.map_some, Option.getD_some, valsG, List.map_cons, List.map_nil, List.length_cons, List.length_nil]; exact ⟨undef, rfl, krg _, fun _ _ => gd_fn hg _⟩)))
      · (obtain ⟨d12, d14⟩ := hd; subst d12; subst d14; clear hs; simp only [fillG, List.set_cons_zero, List.set_cons_succ]; refine want_b rfl (by rfl) (fun hg => ?_) (fun hg => ?_); (focus (have hG := hide hg; (try simp only [gd, hg, cond_true, Bool.and_self, Bool.true_and, Bool.and_true, cond_false, Bool.not_true, Bool.not_false]); go_wp2_with (first | fail); simp only [DoneG, fillG, List.set_cons_zero, List.set_cons_succ, relG, eqG, eqG1, eqG2, eqG3, gdG, gdG1, gnG, gnG1, List.getD_cons_zero, List.getD_cons_succ, List.getElem?_cons_succ, List.getElem?_cons_zero, Option.map_some, Option.getD_some, valsG, List.map_cons, List.map_nil, List.length_cons, List.length_nil]; exact ⟨_, rfl, (by first | with_reducible assumption | exact krg _ | exact Keep.al (krg _) _), fun _ _ => gd_f hG.out _⟩)); (focus (refine hK _ _ ?_; simp only [DoneG, fillG, List.set_cons_zero, List.set_cons_succ, relG, eqG, eqG1, eqG2, eqG3, gdG, gdG1, gnG, gnG1, List.getD_cons_zero, List.getD_cons_succ, List.getElem?_cons_succ, List.getElem?_cons_zero, Option.map_some, Option.getD_some, valsG, List.map_cons, List.map_nil, List.length_cons, List.length_nil]; exact ⟨undef, rfl, krg _, fun _ _ => gd_fn hg _⟩)))
      · (obtain ⟨d12, d15⟩ := hd; subst d12; subst d15; clear hs; simp only [fillG, List.set_cons_zero, List.set_cons_succ]; refine want_b rfl (by rfl) (fun hg => ?_) (fun hg => ?_); (focus (have hG := hide hg; (try simp only [gd, hg, cond_true, Bool.and_self, Bool.true_and, Bool.and_true, cond_false, Bool.not_true, Bool.not_false]); go_wp2_with (first | fail); simp only [DoneG, fillG, List.set_cons_zero, List.set_cons_succ, relG, eqG, eqG1, eqG2, eqG3, gdG, gdG1, gnG, gnG1, List.getD_cons_zero, List.getD_cons_succ, List.getElem?_cons_succ, List.getElem?_cons_zero, Option.map_some, Option.getD_some, valsG, List.map_cons, List.map_nil, List.length_cons, List.length_nil]; exact ⟨_, rfl, (by first | with_reducible assumption | exact krg _ | exact Keep.al (krg _) _), fun _ _ => gd_f hG.out _⟩)); (focus (refine hK _ _ ?_; simp only [DoneG, fillG, List.set_cons_zero, List.set_cons_succ, relG, eqG, eqG1, eqG2, eqG3, gdG, gdG1, gnG, gnG1, List.getD_cons_zero, List.getD_cons_succ, List.getElem?_cons_succ, List.getElem?_cons_zero, Option.map_some, Option.getD_some, valsG, List.map_cons, List.map_nil, List.length_cons, List.length_nil]; exact ⟨undef, rfl, krg _, fun _ _ => gd_fn hg _⟩)))
      · (have d16 := hd; clear hd; subst d16; clear hs; simp only [fillG, List.set_cons_zero, List.set_cons_succ]; refine want_ct (d := 19) rfl rfl (by rfl) (fun hg0 hg => ?_) (fun hg => ?_); (focus (have hG := hide hg; have hG0 := hide hg0; (try simp only [gd, hg, hg0, cond_true, Bool.and_self, Bool.true_and, Bool.and_true, cond_false, Bool.not_true, Bool.not_false]); go_wp2_with (first | fail); simp only [DoneG, fillG, List.set_cons_zero, List.set_cons_succ, relG, eqG, eqG1, eqG2, eqG3, gdG, gdG1, gnG, gnG1, List.getD_cons_zero, List.getD_cons_succ, List.getElem?_cons_succ, List.getElem?_cons_zero, Option.map_some, Option.getD_some, valsG, List.map_cons, List.map_nil, List.length_cons, List.length_nil]; exact ⟨_, rfl, (by first | with_reducible assumption | exact krg _ | exact Keep.al (krg _) _), fun _ _ => gd_t (and_tt hG0.out hG.out) _⟩)); (focus (refine hK _ _ ?_; simp only [DoneG, fillG, List.set_cons_zero, List.set_cons_succ, relG, eqG, eqG1, eqG2, eqG3, gdG, gdG1, gnG, gnG1, List.getD_cons_zero, List.getD_cons_succ, List.getElem?_cons_succ, List.getElem?_cons_zero, Option.map_some, Option.getD_some, valsG, List.map_cons, List.map_nil, List.length_cons, List.length_nil]; exact ⟨undef, rfl, krg _, fun _ _ => gd_tn hg _⟩)))
      · (obtain ⟨d16, d17⟩ := hd; subst d16; subst d17; clear hs; simp only [fillG, List.set_cons_zero, List.set_cons_succ]; have hKW := Keep.tr (Keep.dr (Keep.rf _)) (hE rfl); have b0 := Keep.cell hKW b0; have b1 := Keep.cell hKW b1; have b2 := Keep.cell hKW b2; refine want_ct (d := 19) rfl rfl (by rfl) (fun hg0 hg => ?_) (fun hg => ?_); (focus (have hG := hide hg; have hG0 := hide hg0; (try simp only [gd, hg, hg0, cond_true, Bool.and_self, Bool.true_and, Bool.and_true, cond_false, Bool.not_true, Bool.not_false]); go_wp2_with (first | fail); simp only [DoneG, fillG, List.set_cons_zero, List.set_cons_succ, relG, eqG, eqG1, eqG2, eqG3, gdG, gdG1, gnG, gnG1, List.getD_cons_zero, List.getD_cons_succ, List.getElem?_cons_succ, List.getElem?_cons_zero, Option.map_some, Option.getD_some, valsG, List.map_cons, List.map_nil, List.length_cons, List.length_nil]; exact ⟨_, rfl, (by first | with_reducible assumption | exact krg _ | exact Keep.al (krg _) _), fun _ _ => gd_t (and_tt hG0.out hG.out) _⟩)); (focus (refine hK _ _ ?_; simp only [DoneG, fillG, List.set_cons_zero, List.set_cons_succ, relG, eqG, eqG1, eqG2, eqG3, gdG, gdG1, gnG, gnG1, List.getD_cons_zero, List.getD_cons_succ, List.getElem?_cons_succ, List.getElem?_cons_zero, Option.map_some, Option.getD_some, valsG, List.map_cons, List.map_nil, List.length_cons, List.length_nil]; exact ⟨undef, rfl, krg _, fun _ _ => gd_tn hg _⟩)))
      · (obtain ⟨d16, d18⟩ := hd; subst d16; subst d18; clear hs; simp only [fillG, List.set_cons_zero, List.set_cons_succ]; refine want_ct (d := 19) rfl rfl (by rfl) (fun hg0 hg => ?_) (fun hg => ?_); (focus (have hG := hide hg; have hG0 := hide hg0; (try simp only [gd, hg, hg0, cond_true, Bool.and_self, Bool.true_and, Bool.and_true, cond_false, Bool.not_true, Bool.not_false]); go_wp2_with (first | fail); simp only [DoneG, fillG, List.set_cons_zero, List.set_cons_succ, relG, eqG, eqG1, eqG2, eqG3, gdG, gdG1, gnG, gnG1, List.getD_cons_zero, List.getD_cons_succ, List.getElem?_cons_succ, List.getElem?_cons_zero, Option.map_some, Option.getD_some, valsG, List.map_cons, List.map_nil, List.length_cons, List.length_nil]; exact ⟨_, rfl, (by first | with_reducible assumption | exact krg _ | exact Keep.al (krg _) _), fun _ _ => gd_t (and_tt hG0.out hG.out) _⟩)); (focus (refine hK _ _ ?_; simp only [DoneG, fillG, List.set_cons_zero, List.set_cons_succ, relG, eqG, eqG1, eqG2, eqG3, gdG, gdG1, gnG, gnG1, List.getD_cons_zero, List.getD_cons_succ, List.getElem?_cons_succ, List.getElem?_cons_zero, Option.map_some, Option.getD_some, valsG, List.map_cons, List.map_nil, List.length_cons, List.length_nil]; exact ⟨undef, rfl, krg _, fun _ _ => gd_tn hg _⟩)))
      · (obtain ⟨d12, d16, d19⟩ := hd; subst d12; subst d16; subst d19; clear hs; simp only [fillG, List.set_cons_zero, List.set_cons_succ]; refine want_b rfl (by rfl) (fun hg => ?_) (fun hg => ?_); (focus (have hG := hide hg; (try simp only [gd, hg, cond_true, Bool.and_self, Bool.true_and, Bool.and_true, cond_false, Bool.not_true, Bool.not_false]); refine wp_pick_and rfl rfl rfl ?_; refine hK _ _ ?_; simp only [DoneG, fillG, List.set_cons_zero, List.set_cons_succ, gd, hG.out, cond_true, cond_false, Bool.not_true, Bool.not_false, relG, eqG, eqG1, eqG2, eqG3, gdG, gdG1, gnG, gnG1, List.getD_cons_zero, List.getD_cons_succ, List.getElem?_cons_succ, List.getElem?_cons_zero, Option.map_some, Option.getD_some, valsG, List.map_cons, List.map_nil, List.length_cons, List.length_nil]; exact ⟨_, rfl, (by first | with_reducible assumption | exact krg _ | exact Keep.al (krg _) _), fun _ _ => gd_f hG.out _⟩)); (focus (refine hK _ _ ?_; simp only [DoneG, fillG, List.set_cons_zero, List.set_cons_succ, relG, eqG, eqG1, eqG2, eqG3, gdG, gdG1, gnG, gnG1, List.getD_cons_zero, List.getD_cons_succ, List.getElem?_cons_succ, List.getElem?_cons_zero, Option.map_some, Option.getD_some, valsG, List.map_cons, List.map_nil, List.length_cons, List.length_nil]; exact ⟨undef, rfl, krg _, fun _ _ => gd_fn hg _⟩)))
      · (obtain ⟨d12, d20⟩ := hd; subst d12; subst d20; clear hs; simp only [fillG, List.set_cons_zero, List.set_cons_succ]; refine want_n rfl ?_; refine wp_pick_or rfl rfl rfl ?_; refine hK _ _ ?_; simp only [DoneG, fillG, List.set_cons_zero, List.set_cons_succ, relG, eqG, eqG1, eqG2, eqG3, gdG, gdG1, gnG, gnG1, List.getD_cons_zero, List.getD_cons_succ, List.getElem?_cons_succ, List.getElem?_cons_zero, Option.map_some, Option.getD_some, valsG, List.map_cons, List.map_nil, List.length_cons, List.length_nil]; exact ⟨_, rfl, (by first | with_reducible assumption | exact krg _ | exact Keep.al (krg _) _), fun _ _ => rfl⟩)
    (intro us W1 h9 hW hE hA; obtain ⟨u0, u1, u2, u3, u4, u5, u6, u7, u8, u9, u10, u11, u12, u13, u14, u15, u16, u17, u18, u19, u20, u21, rfl⟩ := rog 22 h9 rfl; clear h9; simp only [AllG, AtG, and_true, relG, eqG, eqG1, eqG2, eqG3, gdG, gdG1, gnG, gnG1, List.getD_cons_zero, List.getD_cons_succ, List.getElem?_cons_succ, List.getElem?_cons_zero, Option.map_some, Option.getD_some, valsG, List.map_cons, List.map_nil, List.length_cons, List.length_nil] at hA; have d21 := hA; clear hA; subst d21; simp only [fillG, List.set_cons_zero, List.set_cons_succ]; have k1 := Keep.tr (Keep.dr (Keep.rf _)) hW; clear hW hE)
    have hform : (((ks.length : Int) != Em.kidsOf o || decide (n < 0)) || (!decide (o = [118, 97, 114]) && n != 0)) = Em.oddN o n ks.length := by
      simp only [Em.oddN, Em.wVar, bne]
      congr 1
      · congr 1
        by_cases h : (ks.length : Int) = Em.kidsOf o <;> simp [h]
      · congr 1
        · by_cases h : o = [118, 97, 114] <;> simp [h]
        · by_cases h : n = 0 <;> simp [h]
    have c2 := Keep.cell k1 b2
    have HS := hide (fun W (k : Keep w W) => tyContainsFunc 67 d (enters_of Tryz.func67 (by kernel_rfl) rfl) W (.slice A ks.length c) ks (fun k => !Em.okT k) (hs0.keep k fun _ _ h => h.keep k) (fun x hx W' cs' hW' => HTT.out x hx W' cs' (Keep.tr k hW')))
    clear hb b0 b1 b2
    simp only [hform]
    clear hform
    cases hod : Em.oddN o n ks.length with
    | true =>
      have HOD := hide hod
      clear hod
      go_wp2_with fail
      go_ret
      refine ⟨?_, Keep.tr (by repeat (first | exact Keep.rf _ | assumption | apply Keep.al | apply Keep.dr | apply Keep.dn)) k1⟩
      rw [hOK.out, HOD.out]
      rfl
    | false =>
      have HOD := hide hod
      clear hod
      go_wp2_with fail
      refine (HS.out _ (Keep.tr (by repeat (first | exact Keep.rf _ | assumption | apply Keep.al | apply Keep.dr | apply Keep.dn)) k1)).mono ?_
      rintro e w' ⟨rfl, k2⟩
      go_wp2_with fail
      go_ret
      refine ⟨?_, Keep.tr (Keep.tr (by repeat (first | exact Keep.rf _ | assumption | apply Keep.al | apply Keep.dr | apply Keep.dn)) k1) k2⟩
      rw [hOK.out]
      rw [HOD.out]
      rfl
set_option maxHeartbeats 1000000 in
theorem typIsT (t : Ty) (w : World) (v : Value) (h : TyV w v t) : Calls Tryz.prog 21 #[v] w fun e w' => e = .returned (.bool (Em.isT t)) ∧ Keep w w' := by
  obtain ⟨d, cs, rfl, h⟩ := h
  have h0 := h
  cases d with
  | zero => exact h.elim
  | succ d =>
    obtain ⟨v, rfl, hn, A, c, rfl, _⟩ := h
    have hb := heap_alloc_new w (.cells #[.string (str t.op), .int .i64 t.n, .slice A t.kids.length c] 25)
    have b0 := top_cells hb 0
    have b1 := top_cells hb 1
    have b2 := top_cells hb 2
    simp only [List.getElem?_toArray, List.getElem?_cons_succ, List.getElem?_cons_zero] at b0 b1 b2
    have H0 := hide h0
    have hsz := hide (Em.sz_le 2001 t (by omega))
    have hT := hide (show Em.isT t = (decide (Em.sz 2001 t ≤ 2000) && Em.okT t) from rfl)
    clear h0
    go_enter Tryz.func21, Tryz.ntmps21
    go_wp2_with fail
    refine (typSize (d + 1) t _ _ 2001 (H0.out.keep (by repeat (first | exact Keep.rf _ | assumption | apply Keep.al | apply Keep.dr | apply Keep.dn))) (by omega) (by omega)).mono ?_
    rintro e w2 ⟨rfl, k2⟩
    have b0 := Keep.cell k2 b0
    have b1 := Keep.cell k2 b1
    have b2 := Keep.cell k2 b2
    generalize Em.sz 2001 t = n at *
    by_cases hle : n ≤ 2000
    · go_wp2_with fail
      refine (typIs1 (d + 1) t _ _ (H0.out.keep (Keep.tr (by repeat (first | exact Keep.rf _ | assumption | apply Keep.al | apply Keep.dr | apply Keep.dn)) k2))).mono ?_
      rintro e w3 ⟨rfl, k3⟩
      go_wp2
      go_ret
      exact ⟨by rw [hT.out, decide_eq_true (by omega)]; rfl, Keep.tr (Keep.tr (by repeat (first | exact Keep.rf _ | assumption | apply Keep.al | apply Keep.dr | apply Keep.dn)) k2) k3⟩
    · go_wp2
      go_ret
      exact ⟨by rw [hT.out, decide_eq_false (by omega)]; rfl, Keep.tr (by repeat (first | exact Keep.rf _ | assumption | apply Keep.al | apply Keep.dr | apply Keep.dn)) k2⟩
set_option maxHeartbeats 2000000 in
theorem refKidsT (o : List UInt8) (w : World) : Calls Tryz.prog 77 #[.string (str o)] w fun e w' => e = .returned (.int .i64 (Em.kidsOf o)) ∧ w = w' := by
  have hO := opB o
  rcases opCases o with rfl | rfl | rfl | rfl | rfl | rfl | rfl | rfl | rfl | rfl | ⟨h0, h1, h2, h3, h4, h5, h6, h7, h8, h9⟩
  all_goals
    go_enter Tryz.func77, Tryz.ntmps77
    go_wp2
    go_ret
    exact ⟨ret_int (by first | (simp [Em.kidsOf, Em.wInt, Em.wBool, Em.wUnit, Em.wString, Em.wCell, Em.wVar, Em.wList, Em.wRef, Em.wPair, Em.wFun, *]; done) | rfl), rfl⟩
set_option maxHeartbeats 1000000 in
theorem refSizeT (d : Nat) : ∀ (t : Ty) (w : World) (cs : List Value) (most : Int), TyK d w cs t → 1 ≤ most → most ≤ 100000 → Calls Tryz.prog 4 #[.agg cs.toArray, .int .i64 most] w fun e w' => e = .returned (.int .i64 (Em.sz most t)) ∧ Keep w w' := by
  induction d with
  | zero => intro t w cs most h; exact h.elim
  | succ d ih =>
    intro t w cs most h hm1 hm2
    obtain ⟨v, rfl, hn, A, c, rfl, hlc, hcm, hr⟩ := h
    have IH := hide ih
    have hst : Em.sz most t = Em.szL most 1 t.kids := by cases t; rfl
    have HST := hide hst
    clear ih hst
    generalize t.kids = ks at *
    generalize t.op = to at *
    generalize t.n = tn at *
    have hb := heap_alloc_new w (.cells #[.string (str to), .int .i64 tn, .slice A ks.length c] 25)
    have b2 := top_cells hb 2
    simp only [List.getElem?_toArray, List.getElem?_cons_succ, List.getElem?_cons_zero] at b2
    clear hb
    go_enter Tryz.func4, Tryz.ntmps4
    go_wp2_with fail
    go_loopw [5, 6] (fun m i W => ∃ (j : Nat) (x : Int), j ≤ ks.length ∧ i = .int .i64 j ∧ m = .int .i64 x ∧ Em.szL most 1 ks = Em.szL most x (ks.drop j) ∧ 1 ≤ x ∧ x ≤ most ∧ Keep (w.alloc (.cells #[.string (str to), .int .i64 tn, .slice A ks.length c] 25)) W) (fun _ i _ => ks.length - (intOf i).toNat)
    case atStart => exact ⟨0, 1, by omega, rfl, rfl, rfl, by omega, by omega, Keep.rf _⟩
    case round =>
      obtain ⟨j, x, hj, rfl, rfl, hx, hx1, hx2, hk⟩ := hrel
      have HX := hide hx
      have b2 := Keep.cell hk b2
      have hkw : Keep w wr := Keep.tr (by repeat (first | exact Keep.rf _ | assumption | apply Keep.al | apply Keep.dr | apply Keep.dn)) hk
      clear hx
      by_cases hlt : j < ks.length
      · obtain ⟨ad, rfl, hcell⟩ := hr (by omega)
        obtain ⟨cs, hcs, hcl, hkt⟩ := hcell j hlt
        have hkt0 := hkt
        have hdr := hide (List.drop_eq_getElem_cons hlt)
        generalize ks[j] = kt at *
        cases d with
        | zero => exact hkt.elim
        | succ d =>
          obtain ⟨kv, rfl, kn, kA, kc, rfl, _⟩ := hkt
          have c0 := Keep.cell hkw (hcl 0 _ rfl)
          rw [Nat.add_zero] at c0
          have c1 := cell_off (Keep.cell hkw (hcl 1 _ rfl))
          have c2 := cell_off (Keep.cell hkw (hcl 2 _ rfl))
          clear hcell hcl hr
          by_cases hge : most ≤ x
          · have hfin := hide (Em.szL_ge most x (ks.drop j) hge)
            go_wp2_with fail
            go_ret
            refine ⟨ret_int ?_, hkw⟩
            rw [HST.out, HX.out, hfin.out]
          · have hsz := Em.sz_le (most - x) kt (by omega)
            go_wp2_with fail
            refine (IH.out kt _ _ (most - x) (hkt0.keep hkw) (by omega) (by omega)).mono ?_
            rintro e w' ⟨rfl, hk2⟩
            have hon : Em.szL most 1 ks = Em.szL most (x + Em.sz (most - x) kt) (ks.drop (j + 1)) := by
              rw [HX.out, hdr.out, Em.szL_cons most x kt _ (by omega)]
            have HON := hide hon
            clear hon
            go_wp2_with fail
            go_roundw
            case rel => exact ⟨j + 1, _, by omega, by go_num, rfl, HON.out, by omega, by omega, Keep.tr hk hk2⟩
            case measure => simp [intOf]; omega
      · go_wp2_with fail
        go_ret
        refine ⟨ret_int ?_, hkw⟩
        rw [HST.out, HX.out, List.drop_of_length_le (by omega)]
        rfl
set_option maxHeartbeats 2000000 in
theorem refEachT (d : Nat) : ∀ (t : Ty) (w : World) (cs : List Value), TyK d w cs t → Calls Tryz.prog 56 #[.agg cs.toArray] w fun e w' => e = .returned (.bool (Em.okT t)) ∧ Keep w w' := by
  induction d with
  | zero => intro t w cs h; exact h.elim
  | succ d ih =>
    intro t w cs h
    obtain ⟨v, rfl, hn, A, c, rfl, hlc, hcm, hr⟩ := h
    have IH := hide ih
    have hO := opB t.op
    have hOK := hide (Em.okT_of t)
    have hnb := in_i64 hn
    clear ih
    generalize t.op = o at *
    generalize t.n = n at *
    generalize t.kids = ks at *
    go_enter Tryz.func56, Tryz.ntmps56
    go_wp2_with fail
    have hb := heap_alloc_new w (.cells #[.string (str o), .int .i64 n, .slice A ks.length c] 25)
    have b0 := top_cells hb 0
    have b1 := top_cells hb 1
    have b2 := top_cells hb 2
    simp only [List.getElem?_toArray, List.getElem?_cons_succ, List.getElem?_cons_zero] at b0 b1 b2
    apply region_all (by kernel_rfl) Keep Keep krg ktg krg ktg (fun _ _ h => h) [some 4, some 5, some 6, some 7, some 8, some 9, some 10, some 11, some 12, some 13, some 14, some 15, some 16, some 17, some 18, some 19, some 20, some 21, some 22, some 23, some 24, some 25] [eqG _ , eqG _ , eqG _ , eqG _ , eqG _ , eqG _ , eqG _ , eqG _ , gnG _ _ , gnG _ _ , gnG _ _ , eqG _ , eqG _ , gnG _ _ , gnG _ _ , gnG _ _ , gnG _ _ , gdG _ _ , gdG _ _ , gdG _ _ , gnG _ _ , eqG _ ] [⟨[], [], true, false, false⟩, ⟨[0], [], true, false, false⟩, ⟨[1], [], true, false, false⟩, ⟨[], [], true, false, false⟩, ⟨[3], [], true, false, false⟩, ⟨[4], [], true, false, false⟩, ⟨[2, 5], [], true, false, false⟩, ⟨[6], [], true, false, false⟩, ⟨[7], [], true, false, false⟩, ⟨[7, 8], [], true, false, false⟩, ⟨[7, 9], [], true, false, false⟩, ⟨[7, 10], [], true, false, false⟩, ⟨[11], [], true, false, false⟩, ⟨[12], [], true, false, false⟩, ⟨[12, 13], [], true, false, false⟩, ⟨[12, 14], [], true, false, false⟩, ⟨[12, 15], [], true, false, false⟩, ⟨[16], [], true, false, false⟩, ⟨[16, 17], [], true, false, false⟩, ⟨[16, 18], [], true, false, false⟩, ⟨[12, 16, 19], [], true, false, false⟩, ⟨[12, 20], [], true, false, false⟩] [21] (by kernel_rfl) (by kernel_rfl) 
    · refine ⟨?_, ?_, ?_, ?_, ?_, ?_, ?_, ?_, ?_, ?_, ?_, ?_, ?_, ?_, ?_, ?_, ?_, ?_, ?_, ?_, ?_, ?_, trivial⟩ <;> (intro us W h9 hW hE hd hs K hK; obtain ⟨u0, u1, u2, u3, u4, u5, u6, u7, u8, u9, u10, u11, u12, u13, u14, u15, u16, u17, u18, u19, u20, u21, rfl⟩ := rog 22 h9 rfl; clear h9; try simp only [DepG, AtG, and_true, relG, eqG, eqG1, eqG2, eqG3, gdG, gdG1, gnG, gnG1, List.getD_cons_zero, List.getD_cons_succ, List.getElem?_cons_succ, List.getElem?_cons_zero, Option.map_some, Option.getD_some, valsG, List.map_cons, List.map_nil, List.length_cons, List.length_nil] at hd)
      · ((try clear hd); clear hs; simp only [fillG, List.set_cons_zero, List.set_cons_succ]; refine want_n rfl ?_; go_wp2_with (first | fail); simp only [DoneG, fillG, List.set_cons_zero, List.set_cons_succ, relG, eqG, eqG1, eqG2, eqG3, gdG, gdG1, gnG, gnG1, List.getD_cons_zero, List.getD_cons_succ, List.getElem?_cons_succ, List.getElem?_cons_zero, Option.map_some, Option.getD_some, valsG, List.map_cons, List.map_nil, List.length_cons, List.length_nil]; exact ⟨_, rfl, (by first | with_reducible assumption | exact krg _ | exact Keep.al (krg _) _), fun _ _ => rfl⟩)
      · (have d0 := hd; clear hd; subst d0; clear hs; simp only [fillG, List.set_cons_zero, List.set_cons_succ]; have hKW := Keep.tr (Keep.dr (Keep.rf _)) (hE rfl); have b0 := Keep.cell hKW b0; have b1 := Keep.cell hKW b1; have b2 := Keep.cell hKW b2; refine want_n rfl ?_; go_wp2_with (first | fail); simp only [DoneG, fillG, List.set_cons_zero, List.set_cons_succ, relG, eqG, eqG1, eqG2, eqG3, gdG, gdG1, gnG, gnG1, List.getD_cons_zero, List.getD_cons_succ, List.getElem?_cons_succ, List.getElem?_cons_zero, Option.map_some, Option.getD_some, valsG, List.map_cons, List.map_nil, List.length_cons, List.length_nil]; exact ⟨_, rfl, (by first | with_reducible assumption | exact krg _ | exact Keep.al (krg _) _), fun _ _ => rfl⟩)
      · (have d1 := hd; clear hd; subst d1; clear hs; simp only [fillG, List.set_cons_zero, List.set_cons_succ]; have hKW := Keep.tr (Keep.dr (Keep.rf _)) (hE rfl); have b0 := Keep.cell hKW b0; have b1 := Keep.cell hKW b1; have b2 := Keep.cell hKW b2; refine want_n rfl ?_; go_wp2_with (first | (go_at_call 77; refine (refKidsT _ _).mono ?_; rintro e w' ⟨rfl, rfl⟩) | fail); simp only [DoneG, fillG, List.set_cons_zero, List.set_cons_succ, relG, eqG, eqG1, eqG2, eqG3, gdG, gdG1, gnG, gnG1, List.getD_cons_zero, List.getD_cons_succ, List.getElem?_cons_succ, List.getElem?_cons_zero, Option.map_some, Option.getD_some, valsG, List.map_cons, List.map_nil, List.length_cons, List.length_nil]; exact ⟨_, rfl, (by first | with_reducible assumption | exact krg _ | exact Keep.al (krg _) _), fun _ _ => rfl⟩)
      · ((try clear hd); clear hs; simp only [fillG, List.set_cons_zero, List.set_cons_succ]; refine want_n rfl ?_; go_wp2_with (first | fail); simp only [DoneG, fillG, List.set_cons_zero, List.set_cons_succ, relG, eqG, eqG1, eqG2, eqG3, gdG, gdG1, gnG, gnG1, List.getD_cons_zero, List.getD_cons_succ, List.getElem?_cons_succ, List.getElem?_cons_zero, Option.map_some, Option.getD_some, valsG, List.map_cons, List.map_nil, List.length_cons, List.length_nil]; exact ⟨_, rfl, (by first | with_reducible assumption | exact krg _ | exact Keep.al (krg _) _), fun _ _ => rfl⟩)
      · (have d3 := hd; clear hd; subst d3; clear hs; simp only [fillG, List.set_cons_zero, List.set_cons_succ]; have hKW := Keep.tr (Keep.dr (Keep.rf _)) (hE rfl); have b0 := Keep.cell hKW b0; have b1 := Keep.cell hKW b1; have b2 := Keep.cell hKW b2; refine want_n rfl ?_; go_wp2_with (first | fail); simp only [DoneG, fillG, List.set_cons_zero, List.set_cons_succ, relG, eqG, eqG1, eqG2, eqG3, gdG, gdG1, gnG, gnG1, List.getD_cons_zero, List.getD_cons_succ, List.getElem?_cons_succ, List.getElem?_cons_zero, Option.map_some, Option.getD_some, valsG, List.map_cons, List.map_nil, List.length_cons, List.length_nil]; exact ⟨_, rfl, (by first | with_reducible assumption | exact krg _ | exact Keep.al (krg _) _), fun _ _ => rfl⟩)
      · (have d4 := hd; clear hd; subst d4; clear hs; simp only [fillG, List.set_cons_zero, List.set_cons_succ]; have hKW := Keep.tr (Keep.dr (Keep.rf _)) (hE rfl); have b0 := Keep.cell hKW b0; have b1 := Keep.cell hKW b1; have b2 := Keep.cell hKW b2; refine want_n rfl ?_; go_wp2_with (first | fail); simp only [DoneG, fillG, List.set_cons_zero, List.set_cons_succ, relG, eqG, eqG1, eqG2, eqG3, gdG, gdG1, gnG, gnG1, List.getD_cons_zero, List.getD_cons_succ, List.getElem?_cons_succ, List.getElem?_cons_zero, Option.map_some, Option.getD_some, valsG, List.map_cons, List.map_nil, List.length_cons, List.length_nil]; exact ⟨_, rfl, (by first | with_reducible assumption | exact krg _ | exact Keep.al (krg _) _), fun _ _ => rfl⟩)
      · (obtain ⟨d2, d5⟩ := hd; subst d2; subst d5; clear hs; simp only [fillG, List.set_cons_zero, List.set_cons_succ]; refine want_n rfl ?_; go_wp2_with (first | fail); simp only [DoneG, fillG, List.set_cons_zero, List.set_cons_succ, relG, eqG, eqG1, eqG2, eqG3, gdG, gdG1, gnG, gnG1, List.getD_cons_zero, List.getD_cons_succ, List.getElem?_cons_succ, List.getElem?_cons_zero, Option.map_some, Option.getD_some, valsG, List.map_cons, List.map_nil, List.length_cons, List.length_nil]; exact ⟨_, rfl, (by first | with_reducible assumption | exact krg _ | exact Keep.al (krg _) _), fun _ _ => rfl⟩)
      · (have d6 := hd; clear hd; subst d6; clear hs; simp only [fillG, List.set_cons_zero, List.set_cons_succ]; refine want_n rfl ?_; go_wp2_with (first | fail); simp only [DoneG, fillG, List.set_cons_zero, List.set_cons_succ, relG, eqG, eqG1, eqG2, eqG3, gdG, gdG1, gnG, gnG1, List.getD_cons_zero, List.getD_cons_succ, List.getElem?_cons_succ, List.getElem?_cons_zero, Option.map_some, Option.getD_some, valsG, List.map_cons, List.map_nil, List.length_cons, List.length_nil]; exact ⟨_, rfl, (by first | with_reducible assumption | exact krg _ | exact Keep.al (krg _) _), fun _ _ => rfl⟩)
      · (have d7 := hd; clear hd; subst d7; clear hs; simp only [fillG, List.set_cons_zero, List.set_cons_succ]; refine want_b rfl (by rfl) (fun hg => ?_) (fun hg => ?_); (focus (have hG := hide hg; (try simp only [gd, hg, cond_true, Bool.and_self, Bool.true_and, Bool.and_true, cond_false, Bool.not_true, Bool.not_false]); go_wp2_with (first | fail); simp only [DoneG, fillG, List.set_cons_zero, List.set_cons_succ, relG, eqG, eqG1, eqG2, eqG3, gdG, gdG1, gnG, gnG1, List.getD_cons_zero, List.getD_cons_succ, List.getElem?_cons_succ, List.getElem?_cons_zero, Option.map_some, Option.getD_some, valsG, List.map_cons, List.map_nil, List.length_cons, List.length_nil]; exact ⟨_, rfl, (by first | with_reducible assumption | exact krg _ | exact Keep.al (krg _) _), fun _ _ => gd_f hG.out _⟩)); (focus (refine hK _ _ ?_; simp only [DoneG, fillG, List.set_cons_zero, List.set_cons_succ, relG, eqG, eqG1, eqG2, eqG3, gdG, gdG1, gnG, gnG1, List.getD_cons_zero, List.getD_cons_succ, List.getElem?_cons_succ, List.getElem?_cons_zero, Option.map_some, Option.getD_some, valsG, List.map_cons, List.map_nil, List.length_cons, List.length_nil]; exact ⟨undef, rfl, krg _, fun _ _ => gd_fn hg _⟩)))
      · (obtain ⟨d7, d8⟩ := hd; subst d7; subst d8; clear hs; simp only [fillG, List.set_cons_zero, List.set_cons_succ]; have hKW := Keep.tr (Keep.dr (Keep.rf _)) (hE rfl); have b0 := Keep.cell hKW b0; have b1 := Keep.cell hKW b1; have b2 := Keep.cell hKW b2; refine want_b rfl (by rfl) (fun hg => ?_) (fun hg => ?_); (focus (have hG := hide hg; (try simp only [gd, hg, cond_true, Bool.and_self, Bool.true_and, Bool.and_true, cond_false, Bool.not_true, Bool.not_false]); go_wp2_with (first | fail); simp only [DoneG, fillG, List.set_cons_zero, List.set_cons_succ, relG, eqG, eqG1, eqG2, eqG3, gdG, gdG1, gnG, gnG1, List.getD_cons_zero, List.getD_cons_succ, List.getElem?_cons_succ, List.getElem?_cons_zero, Option.map_some, Option.getD_some, valsG, List.map_cons, List.map_nil, List.length_cons, List.length_nil]; exact ⟨_, rfl, (by first | with_reducible assumption | exact krg _ | exact Keep.al (krg _) _), fun _ _ => gd_f hG.out _⟩)); (focus (refine hK _ _ ?_; simp only [DoneG, fillG, List.set_cons_zero, List.set_cons_succ, relG, eqG, eqG1, eqG2, eqG3, gdG, gdG1, gnG, gnG1, List.getD_cons_zero, List.getD_cons_succ, List.getElem?_cons_succ, List.getElem?_cons_zero, Option.map_some, Option.getD_some, valsG, List.map_cons, List.map_nil, List.length_cons, List.length_nil]; exact ⟨undef, rfl, krg _, fun _ _ => gd_fn hg _⟩)))
      · (obtain ⟨d7, d9⟩ := hd; subst d7; subst d9; clear hs; simp only [fillG, List.set_cons_zero, List.set_cons_succ]; refine want_b rfl (by rfl) (fun hg => ?_) (fun hg => ?_); (focus (have hG := hide hg; (try simp only [gd, hg, cond_true, Bool.and_self, Bool.true_and, Bool.and_true, cond_false, Bool.not_true, Bool.not_false]); go_wp2_with (first | fail); simp only [DoneG, fillG, List.set_cons_zero, List.set_cons_succ, relG, eqG, eqG1, eqG2, eqG3, gdG, gdG1, gnG, gnG1, List.getD_cons_zero, List.getD_cons_succ, List.getElem?_cons_succ, List.getElem?_cons_zero, Option.map_some, Option.getD_some, valsG, List.map_cons, List.map_nil, List.length_cons, List.length_nil]; exact ⟨_, rfl, (by first | with_reducible assumption | exact krg _ | exact Keep.al (krg _) _), fun _ _ => gd_f hG.out _⟩)); (focus (refine hK _ _ ?_; simp only [DoneG, fillG, List.set_cons_zero, List.set_cons_succ, relG, eqG, eqG1, eqG2, eqG3, gdG, gdG1, gnG, gnG1, List.getD_cons_zero, List.getD_cons_succ, List.getElem?_cons_succ, List.getElem?_cons_zero, Option.map_some, Option.getD_some, valsG, List.map_cons, List.map_nil, List.length_cons, List.length_nil]; exact ⟨undef, rfl, krg _, fun _ _ => gd_fn hg _⟩)))
      · (obtain ⟨d7, d10⟩ := hd; subst d7; subst d10; clear hs; simp only [fillG, List.set_cons_zero, List.set_cons_succ]; refine want_n rfl ?_; refine wp_pick_or rfl rfl rfl ?_; refine hK _ _ ?_; simp only [DoneG, fillG, List.set_cons_zero, List.set_cons_succ, relG, eqG, eqG1, eqG2, eqG3, gdG, gdG1, gnG, gnG1, List.getD_cons_zero, List.getD_cons_succ, List.getElem?_cons_succ, List.getElem?_cons_zero, Option.map_some, Option.getD_some, valsG, List.map_cons, List.map_nil, List.length_cons, List.length_nil]; exact ⟨_, rfl, (by first | with_reducible assumption | exact krg _ | exact Keep.al (krg _) _), fun _ _ => rfl⟩)
      · (have d11 := hd; clear hd; subst d11; clear hs; simp only [fillG, List.set_cons_zero, List.set_cons_succ]; refine want_n rfl ?_; go_wp2_with (first | fail); simp only [DoneG, fillG, List.set_cons_zero, List.set_cons_succ, relG, eqG, eqG1, eqG2, eqG3, gdG, gdG1, gnG, gnG1, List.getD_cons_zero, List.getD_cons_succ, List.getElem?_cons_succ, List.getElem?_cons_zero, Option.map_some, Option.getD_some, valsG, List.map_cons, List.map_nil, List.length_cons, List.length_nil]; exact ⟨_, rfl, (by first | with_reducible assumption | exact krg _ | exact Keep.al (krg _) _), fun _ _ => rfl⟩)
      · (have d12 := hd; clear hd; subst d12; clear hs; simp only [fillG, List.set_cons_zero, List.set_cons_succ]; refine want_b rfl (by rfl) (fun hg => ?_) (fun hg => ?_); (focus (have hG := hide hg; (try simp only [gd, hg, cond_true, Bool.and_self, Bool.true_and, Bool.and_true, cond_false, Bool.not_true, Bool.not_false]); go_wp2_with (first | fail); simp only [DoneG, fillG, List.set_cons_zero, List.set_cons_succ, relG, eqG, eqG1, eqG2, eqG3, gdG, gdG1, gnG, gnG1, List.getD_cons_zero, List.getD_cons_succ, List.getElem?_cons_succ, List.getElem?_cons_zero, Option.map_some, Option.getD_some, valsG, List.map_cons, List.map_nil, List.length_cons, List.length_nil]; exact ⟨_, rfl, (by first | with_reducible assumption | exact krg _ | exact Keep.al (krg _) _), fun _ _ => gd_f hG.out _⟩)); (focus (refine hK _ _ ?_; simp only [DoneG, fillG, List.set_cons_zero, List.set_cons_succ, relG, eqG, eqG1, eqG2, eqG3, gdG, gdG1, gnG, gnG1, List.getD_cons_zero, List.getD_cons_succ, List.getElem?_cons_succ, List.getElem?_cons_zero, Option.map_some, Option.getD_some, valsG, List.map_cons, List.map_nil, List.length_cons, List.length_nil]; exact ⟨undef, rfl, krg _, fun _ _ => gd_fn hg _⟩)))
      · (obtain ⟨d12, d13⟩ := hd; subst d12; subst d13; clear hs; simp only [fillG, List.set_cons_zero, List.set_cons_succ]; have hKW := Keep.tr (Keep.dr (Keep.rf _)) (hE rfl); have b0 := Keep.cell hKW b0; have b1 := Keep.cell hKW b1; have b2 := Keep.cell hKW b2; refine want_b rfl (by rfl) (fun hg => ?_) (fun hg => ?_); (focus (have hG := hide hg; (try simp only [gd, hg, cond_true, Bool.and_self, Bool.true_and, Bool.and_true, cond_false, Bool.not_true, Bool.not_false]); go_wp2_with (first | fail); simp only [DoneG, fillG, List.set_cons_zero, List.set_cons_succ, relG, eqG, eqG1, eqG2, eqG3, gdG, gdG1, gnG, gnG1, List.getD_cons_zero, List.getD_cons_succ, List.getElem?_cons_succ, List.getElem?_cons_zero, Option.map_some, Option.getD_some, valsG, List.map_cons, List.map_nil, List.length_cons, List.length_nil]; exact ⟨_, rfl, (by first | with_reducible assumption | exact krg _ | exact Keep.al (krg _) _), fun _ _ => gd_f hG.out _⟩)); (focus (refine hK _ _ ?_; simp only [DoneG, fillG, List.set_cons_zero, List.set_cons_succ, relG, eqG, eqG1, eqG2, eqG3, gdG, gdG1, gnG, gnG1, List.getD_cons_zero, List.getD_cons_succ, List.getElem?_cons_succ, List.getElem?_cons_zero, Option.map_some, Option.getD_some, valsG, List.map_cons, List.map_nil, List.length_cons, List.length_nil]; exact ⟨undef, rfl, krg _, fun _ _ => gd_fn hg _⟩)))
      · (obtain ⟨d12, d14⟩ := hd; subst d12; subst d14; clear hs; simp only [fillG, List.set_cons_zero, List.set_cons_succ]; refine want_b rfl (by rfl) (fun hg => ?_) (fun hg => ?_); (focus (have hG := hide hg; (try simp only [gd, hg, cond_true, Bool.and_self, Bool.true_and, Bool.and_true, cond_false, Bool.not_true, Bool.not_false]); go_wp2_with (first | fail); simp only [DoneG, fillG, List.set_cons_zero, List.set_cons_succ, relG, eqG, eqG1, eqG2, eqG3, gdG, gdG1, gnG, gnG1, List.getD_cons_zero, List.getD_cons_succ, List.getElem?_cons_succ, List.getElem?_cons_zero, Option.map_some, Option.getD_some, valsG, List.map_cons, List.map_nil, List.length_cons, List.length_nil]; exact ⟨_, rfl, (by first | with_reducible assumption | exact krg _ | exact Keep.al (krg _) _), fun _ _ => gd_f hG.out _⟩)); (focus (refine hK _ _ ?_; simp only [DoneG, fillG, List.set_cons_zero, List.set_cons_succ, relG, eqG, eqG1, eqG2, eqG3, gdG, gdG1, gnG, gnG1, List.getD_cons_zero, List.getD_cons_succ, List.getElem?_cons_succ, List.getElem?_cons_zero, Option.map_some, Option.getD_some, valsG, List.map_cons, List.map_nil, List.length_cons, List.length_nil]; exact ⟨undef, rfl, krg _, fun _ _ => gd_fn hg _⟩)))
      · (obtain ⟨d12, d15⟩ := hd; subst d12; subst d15; clear hs; simp only [fillG, List.set_cons_zero, List.set_cons_succ]; refine want_b rfl (by rfl) (fun hg => ?_) (fun hg => ?_); (focus (have hG := hide hg; (try simp only [gd, hg, cond_true, Bool.and_self, Bool.true_and, Bool.and_true, cond_false, Bool.not_true, Bool.not_false]); go_wp2_with (first | fail); simp only [DoneG, fillG, List.set_cons_zero, List.set_cons_succ, relG, eqG, eqG1, eqG2, eqG3, gdG, gdG1, gnG, gnG1, List.getD_cons_zero, List.getD_cons_succ, List.getElem?_cons_succ, List.getElem?_cons_zero, Option.map_some, Option.getD_some, valsG, List.map_cons, List.map_nil, List.length_cons, List.length_nil]; exact ⟨_, rfl, (by first | with_reducible assumption | exact krg _ | exact Keep.al (krg _) _), fun _ _ => gd_f hG.out _⟩)); (focus (refine hK _ _ ?_; simp only [DoneG, fillG, List.set_cons_zero, List.set_cons_succ, relG, eqG, eqG1, eqG2, eqG3, gdG, gdG1, gnG, gnG1, List.getD_cons_zero, List.getD_cons_succ, List.getElem?_cons_succ, List.getElem?_cons_zero, Option.map_some, Option.getD_some, valsG, List.map_cons, List.map_nil, List.length_cons, List.length_nil]; exact ⟨undef, rfl, krg _, fun _ _ => gd_fn hg _⟩)))
      · (have d16 := hd; clear hd; subst d16; clear hs; simp only [fillG, List.set_cons_zero, List.set_cons_succ]; refine want_ct (d := 20) rfl rfl (by rfl) (fun hg0 hg => ?_) (fun hg => ?_); (focus (have hG := hide hg; have hG0 := hide hg0; (try simp only [gd, hg, hg0, cond_true, Bool.and_self, Bool.true_and, Bool.and_true, cond_false, Bool.not_true, Bool.not_false]); go_wp2_with (first | fail); simp only [DoneG, fillG, List.set_cons_zero, List.set_cons_succ, relG, eqG, eqG1, eqG2, eqG3, gdG, gdG1, gnG, gnG1, List.getD_cons_zero, List.getD_cons_succ, List.getElem?_cons_succ, List.getElem?_cons_zero, Option.map_some, Option.getD_some, valsG, List.map_cons, List.map_nil, List.length_cons, List.length_nil]; exact ⟨_, rfl, (by first | with_reducible assumption | exact krg _ | exact Keep.al (krg _) _), fun _ _ => gd_t (and_tt hG0.out hG.out) _⟩)); (focus (refine hK _ _ ?_; simp only [DoneG, fillG, List.set_cons_zero, List.set_cons_succ, relG, eqG, eqG1, eqG2, eqG3, gdG, gdG1, gnG, gnG1, List.getD_cons_zero, List.getD_cons_succ, List.getElem?_cons_succ, List.getElem?_cons_zero, Option.map_some, Option.getD_some, valsG, List.map_cons, List.map_nil, List.length_cons, List.length_nil]; exact ⟨undef, rfl, krg _, fun _ _ => gd_tn hg _⟩)))
      · (obtain ⟨d16, d17⟩ := hd; subst d16; subst d17; clear hs; simp only [fillG, List.set_cons_zero, List.set_cons_succ]; have hKW := Keep.tr (Keep.dr (Keep.rf _)) (hE rfl); have b0 := Keep.cell hKW b0; have b1 := Keep.cell hKW b1; have b2 := Keep.cell hKW b2; refine want_ct (d := 20) rfl rfl (by rfl) (fun hg0 hg => ?_) (fun hg => ?_); (focus (have hG := hide hg; have hG0 := hide hg0; (try simp only [gd, hg, hg0, cond_true, Bool.and_self, Bool.true_and, Bool.and_true, cond_false, Bool.not_true, Bool.not_false]); go_wp2_with (first | fail); simp only [DoneG, fillG, List.set_cons_zero, List.set_cons_succ, relG, eqG, eqG1, eqG2, eqG3, gdG, gdG1, gnG, gnG1, List.getD_cons_zero, List.getD_cons_succ, List.getElem?_cons_succ, List.getElem?_cons_zero, Option.map_some, Option.getD_some, valsG, List.map_cons, List.map_nil, List.length_cons, List.length_nil]; exact ⟨_, rfl, (by first | with_reducible assumption | exact krg _ | exact Keep.al (krg _) _), fun _ _ => gd_t (and_tt hG0.out hG.out) _⟩)); (focus (refine hK _ _ ?_; simp only [DoneG, fillG, List.set_cons_zero, List.set_cons_succ, relG, eqG, eqG1, eqG2, eqG3, gdG, gdG1, gnG, gnG1, List.getD_cons_zero, List.getD_cons_succ, List.getElem?_cons_succ, List.getElem?_cons_zero, Option.map_some, Option.getD_some, valsG, List.map_cons, List.map_nil, List.length_cons, List.length_nil]; exact ⟨undef, rfl, krg _, fun _ _ => gd_tn hg _⟩)))
      · (obtain ⟨d16, d18⟩ := hd; subst d16; subst d18; clear hs; simp only [fillG, List.set_cons_zero, List.set_cons_succ]; refine want_ct (d := 20) rfl rfl (by rfl) (fun hg0 hg => ?_) (fun hg => ?_); (focus (have hG := hide hg; have hG0 := hide hg0; (try simp only [gd, hg, hg0, cond_true, Bool.and_self, Bool.true_and, Bool.and_true, cond_false, Bool.not_true, Bool.not_false]); go_wp2_with (first | fail); simp only [DoneG, fillG, List.set_cons_zero, List.set_cons_succ, relG, eqG, eqG1, eqG2, eqG3, gdG, gdG1, gnG, gnG1, List.getD_cons_zero, List.getD_cons_succ, List.getElem?_cons_succ, List.getElem?_cons_zero, Option.map_some, Option.getD_some, valsG, List.map_cons, List.map_nil, List.length_cons, List.length_nil]; exact ⟨_, rfl, (by first | with_reducible assumption | exact krg _ | exact Keep.al (krg _) _), fun _ _ => gd_t (and_tt hG0.out hG.out) _⟩)); (focus (refine hK _ _ ?_; simp only [DoneG, fillG, List.set_cons_zero, List.set_cons_succ, relG, eqG, eqG1, eqG2, eqG3, gdG, gdG1, gnG, gnG1, List.getD_cons_zero, List.getD_cons_succ, List.getElem?_cons_succ, List.getElem?_cons_zero, Option.map_some, Option.getD_some, valsG, List.map_cons, List.map_nil, List.length_cons, List.length_nil]; exact ⟨undef, rfl, krg _, fun _ _ => gd_tn hg _⟩)))
      · (obtain ⟨d12, d16, d19⟩ := hd; subst d12; subst d16; subst d19; clear hs; simp only [fillG, List.set_cons_zero, List.set_cons_succ]; refine want_b rfl (by rfl) (fun hg => ?_) (fun hg => ?_); (focus (have hG := hide hg; (try simp only [gd, hg, cond_true, Bool.and_self, Bool.true_and, Bool.and_true, cond_false, Bool.not_true, Bool.not_false]); refine wp_pick_and rfl rfl rfl ?_; refine hK _ _ ?_; simp only [DoneG, fillG, List.set_cons_zero, List.set_cons_succ, gd, hG.out, cond_true, cond_false, Bool.not_true, Bool.not_false, relG, eqG, eqG1, eqG2, eqG3, gdG, gdG1, gnG, gnG1, List.getD_cons_zero, List.getD_cons_succ, List.getElem?_cons_succ, List.getElem?_cons_zero, Option.map_some, Option.getD_some, valsG, List.map_cons, List.map_nil, List.length_cons, List.length_nil]; exact ⟨_, rfl, (by first | with_reducible assumption | exact krg _ | exact Keep.al (krg _) _), fun _ _ => gd_f hG.out _⟩)); (focus (refine hK _ _ ?_; simp only [DoneG, fillG, List.set_cons_zero, List.set_cons_succ, relG, eqG, eqG1, eqG2, eqG3, gdG, gdG1, gnG, gnG1, List.getD_cons_zero, List.getD_cons_succ, List.getElem?_cons_succ, List.getElem?_cons_zero, Option.map_some, Option.getD_some, valsG, List.map_cons, List.map_nil, List.length_cons, List.length_nil]; exact ⟨undef, rfl, krg _, fun _ _ => gd_fn hg _⟩)))
      · (obtain ⟨d12, d20⟩ := hd; subst d12; subst d20; clear hs; simp only [fillG, List.set_cons_zero, List.set_cons_succ]; refine want_n rfl ?_; refine wp_pick_or rfl rfl rfl ?_; refine hK _ _ ?_; simp only [DoneG, fillG, List.set_cons_zero, List.set_cons_succ, relG, eqG, eqG1, eqG2, eqG3, gdG, gdG1, gnG, gnG1, List.getD_cons_zero, List.getD_cons_succ, List.getElem?_cons_succ, List.getElem?_cons_zero, Option.map_some, Option.getD_some, valsG, List.map_cons, List.map_nil, List.length_cons, List.length_nil]; exact ⟨_, rfl, (by first | with_reducible assumption | exact krg _ | exact Keep.al (krg _) _), fun _ _ => rfl⟩)
    (intro us W1 h9 hW hE hA; obtain ⟨u0, u1, u2, u3, u4, u5, u6, u7, u8, u9, u10, u11, u12, u13, u14, u15, u16, u17, u18, u19, u20, u21, rfl⟩ := rog 22 h9 rfl; clear h9; simp only [AllG, AtG, and_true, relG, eqG, eqG1, eqG2, eqG3, gdG, gdG1, gnG, gnG1, List.getD_cons_zero, List.getD_cons_succ, List.getElem?_cons_succ, List.getElem?_cons_zero, Option.map_some, Option.getD_some, valsG, List.map_cons, List.map_nil, List.length_cons, List.length_nil] at hA; have d21 := hA; clear hA; subst d21; simp only [fillG, List.set_cons_zero, List.set_cons_succ]; have k1 := Keep.tr (Keep.dr (Keep.rf _)) hW; clear hW hE)
    have hform : ((Em.kidsOf o != (ks.length : Int) || decide (n < 0)) || (!decide (o = [118, 97, 114]) && n != 0)) = Em.oddN o n ks.length := by
      simp only [Em.oddN, Em.wVar, bne]
      congr 1
      · congr 1
        by_cases h : (ks.length : Int) = Em.kidsOf o
        · simp [h]
        · have h2 : ¬ Em.kidsOf o = (ks.length : Int) := fun e => h e.symm
          simp [h, h2]
      · congr 1
        · by_cases h : o = [118, 97, 114] <;> simp [h]
        · by_cases h : n = 0 <;> simp [h]
    have k0 : Keep w W1 := Keep.tr (by repeat (first | exact Keep.rf _ | assumption | apply Keep.al | apply Keep.dr | apply Keep.dn)) k1
    have b2 := Keep.cell k1 b2
    clear hb b0 b1
    simp only [hform]
    clear hform
    cases hod : Em.oddN o n ks.length with
    | true =>
      have HOD := hide hod
      clear hod
      go_wp2_with fail
      go_ret
      refine ⟨?_, k0⟩
      rw [hOK.out, HOD.out]
      rfl
    | false =>
      have HOD := hide hod
      clear hod
      go_wp2_with fail
      go_loopw [3] (fun i W => ∃ (j : Nat), j ≤ ks.length ∧ i = .int .i64 j ∧ (∀ x ∈ ks.take j, Em.okT x = true) ∧ Keep W1 W) (fun i _ => ks.length - (intOf i).toNat)
      case atStart => exact ⟨0, by omega, rfl, by simp, Keep.rf _⟩
      case round =>
        obtain ⟨j, hj, rfl, hx, hk⟩ := hrel
        have HX := hide hx
        have b2 := Keep.cell hk b2
        have hkw := Keep.tr k0 hk
        clear hx
        by_cases hlt : j < ks.length
        · obtain ⟨ad, rfl, hcell⟩ := hr (by omega)
          obtain ⟨cs, hcs, hcl, hkt⟩ := hcell j hlt
          have hkt0 := hkt
          have hmem := hide (List.getElem_mem hlt)
          have htk := hide (List.take_succ_eq_append_getElem hlt)
          generalize ks[j] = kt at *
          cases d with
          | zero => exact hkt.elim
          | succ d =>
            obtain ⟨kv, rfl, kn, kA, kc, rfl, _⟩ := hkt
            have c0 := Keep.cell hkw (hcl 0 _ rfl)
            rw [Nat.add_zero] at c0
            have c1 := cell_off (Keep.cell hkw (hcl 1 _ rfl))
            have c2 := cell_off (Keep.cell hkw (hcl 2 _ rfl))
            clear hcell hcl hr
            go_wp2_with fail
            refine (IH.out kt _ _ (hkt0.keep hkw)).mono ?_
            rintro e w' ⟨rfl, hk2⟩
            cases hpk : Em.okT kt with
            | false =>
              have HPK := hide hpk
              clear hpk
              go_wp2_with fail
              go_ret
              refine ⟨?_, Keep.tr hkw hk2⟩
              have : (ks.any fun k => !Em.okT k) = true := List.any_eq_true.2 ⟨kt, hmem.out, by simp [HPK.out]⟩
              rw [hOK.out, this, Bool.and_comm]
              rfl
            | true =>
              have hon : ∀ x ∈ ks.take (j + 1), Em.okT x = true := by
                intro x hx
                rw [htk.out] at hx
                rcases List.mem_append.1 hx with hx | hx
                · exact HX.out x hx
                · rw [List.mem_singleton.1 hx]; exact hpk
              have HON := hide hon
              clear hpk hon
              go_wp2_with fail
              go_roundw
              case rel => exact ⟨j + 1, by omega, by go_num, HON.out, Keep.tr hk hk2⟩
              case measure => simp [intOf]; omega
        · go_wp2_with fail
          go_ret
          refine ⟨?_, hkw⟩
          have h1 : ks.take j = ks := List.take_of_length_le (by omega)
          have h2 := HX.out
          rw [h1] at h2
          have : (ks.any fun k => !Em.okT k) = false := by
            rw [List.any_eq_false]
            intro x hx
            simp [h2 x hx]
          rw [hOK.out, this, HOD.out]
          rfl
set_option maxHeartbeats 1000000 in
theorem refIsT (t : Ty) (w : World) (v : Value) (h : TyV w v t) : Calls Tryz.prog 34 #[v] w fun e w' => e = .returned (.bool (Em.isT t)) ∧ Keep w w' := by
  obtain ⟨d, cs, rfl, h⟩ := h
  have h0 := h
  cases d with
  | zero => exact h.elim
  | succ d =>
    obtain ⟨v, rfl, hn, A, c, rfl, _⟩ := h
    have hb := heap_alloc_new w (.cells #[.string (str t.op), .int .i64 t.n, .slice A t.kids.length c] 25)
    have b0 := top_cells hb 0
    have b1 := top_cells hb 1
    have b2 := top_cells hb 2
    simp only [List.getElem?_toArray, List.getElem?_cons_succ, List.getElem?_cons_zero] at b0 b1 b2
    have H0 := hide h0
    have hsz := hide (Em.sz_le 2001 t (by omega))
    have hT := hide (show Em.isT t = (decide (Em.sz 2001 t ≤ 2000) && Em.okT t) from rfl)
    clear h0
    go_enter Tryz.func34, Tryz.ntmps34
    go_wp2_with fail
    refine (refSizeT (d + 1) t _ _ 2001 (H0.out.keep (by repeat (first | exact Keep.rf _ | assumption | apply Keep.al | apply Keep.dr | apply Keep.dn))) (by omega) (by omega)).mono ?_
    rintro e w2 ⟨rfl, k2⟩
    have b0 := Keep.cell k2 b0
    have b1 := Keep.cell k2 b1
    have b2 := Keep.cell k2 b2
    generalize Em.sz 2001 t = n at *
    by_cases hle : n ≤ 2000
    · go_wp2_with fail
      refine (refEachT (d + 1) t _ _ (H0.out.keep (Keep.tr (by repeat (first | exact Keep.rf _ | assumption | apply Keep.al | apply Keep.dr | apply Keep.dn)) k2))).mono ?_
      rintro e w3 ⟨rfl, k3⟩
      go_wp2
      go_ret
      exact ⟨by rw [hT.out, decide_eq_true (by omega)]; rfl, Keep.tr (Keep.tr (by repeat (first | exact Keep.rf _ | assumption | apply Keep.al | apply Keep.dr | apply Keep.dn)) k2) k3⟩
    · go_wp2
      go_ret
      exact ⟨by rw [hT.out, decide_eq_false (by omega)]; rfl, Keep.tr (by repeat (first | exact Keep.rf _ | assumption | apply Keep.al | apply Keep.dr | apply Keep.dn)) k2⟩
end Go.Proofs.YtoehaijmkmdggaaGreat
namespace Go.Proofs.YtoehaijmkmdggaaGreat
open Go.RowKit
open Em (Ty)
set_option linter.unusedVariables false
set_option maxRecDepth 100000
/-- A function value that compares kids. -/
def TellsE (g : Nat) (d : Nat) (w : World) : Prop :=
  ∀ (k k' : Ty) (W : World) (cs cs' : List Value), Keep w W → TyK d W cs k → TyK d W cs' k' → Calls Tryz.prog g #[.agg cs.toArray, .agg cs'.toArray] W fun e w' => e = .returned (.bool (Em.eqT k k')) ∧ Keep W w'
set_option maxHeartbeats 2000000 in
theorem tyEqualFunc (g d : Nat) (he : Enters Tryz.prog g) (w : World) (v v' : Value) (ks ks' : List Ty) (h : Sl 3 (TyK d) w v ks) (h' : Sl 3 (TyK d) w v' ks') (hp : TellsE g d w) :
    Calls Tryz.prog 73 #[v, v', .func (.func g) #[] #[]] w fun e w' => e = .returned (.bool (Em.eqL ks ks')) ∧ Keep w w' := by
  obtain ⟨A, c, rfl, hlc, hcm, hr⟩ := h
  obtain ⟨A', c', rfl, hlc', hcm', hr'⟩ := h'
  have HP := hide hp
  have heg : ∀ (args : Array Value) (w : World), (callFunc g args).run Tryz.prog w = .ok (.enter g args) w := he
  clear hp he
  by_cases hll : ks.length = ks'.length
  · have HLL := hide hll
    have hll1 : ks.length ≤ ks'.length := by omega
    have hll2 : ks'.length ≤ ks.length := by omega
    have hne : ((ks.length : Int) != (ks'.length : Int)) = false := by rw [hll]; simp
    clear hll
    go_enter Tryz.func73, Tryz.ntmps73
    go_wp2_with fail
    go_loopw [17] (fun i W => ∃ (j : Nat), j ≤ ks.length ∧ i = .int .i64 j ∧ Em.eqL ks ks' = Em.eqL (ks.drop j) (ks'.drop j) ∧ Keep w W) (fun i _ => ks.length - (intOf i).toNat)
    case atStart => exact ⟨0, by omega, rfl, by simp, Keep.rf _⟩
    case round =>
      obtain ⟨j, hj, rfl, hx, hk⟩ := hrel
      have HX := hide hx
      clear hx
      by_cases hlt : j < ks.length
      · have hlt' : j < ks'.length := by omega
        obtain ⟨ad, rfl, hcell⟩ := hr (by omega)
        obtain ⟨ad', rfl, hcell'⟩ := hr' (by omega)
        obtain ⟨cs, hcs, hcl, hkt⟩ := hcell j hlt
        obtain ⟨cs', hcs', hcl', hkt'⟩ := hcell' j hlt'
        have hkt0 := hkt
        have hkt0' := hkt'
        have hdr := hide (Em.eqL_drop hlt hlt')
        generalize ks[j] = kt at *
        generalize ks'[j] = kt' at *
        cases d with
        | zero => exact hkt.elim
        | succ d =>
          obtain ⟨kv, rfl, kn, kA, kc, rfl, _⟩ := hkt
          obtain ⟨kv', rfl, kn', kA', kc', rfl, _⟩ := hkt'
          have c0 := Keep.cell hk (hcl 0 _ rfl)
          have e0 := Keep.cell hk (hcl' 0 _ rfl)
          rw [Nat.add_zero] at c0 e0
          have c1 := cell_off (Keep.cell hk (hcl 1 _ rfl))
          have c2 := cell_off (Keep.cell hk (hcl 2 _ rfl))
          have e1 := cell_off (Keep.cell hk (hcl' 1 _ rfl))
          have e2 := cell_off (Keep.cell hk (hcl' 2 _ rfl))
          have kx : ∀ o, Keep wr (wr.alloc o) := fun o => (Keep.rf wr).al o
          have KX := hide kx
          have e0' := fun o => Keep.cell (KX.out o) e0
          have e1' := fun o => Keep.cell (KX.out o) e1
          have e2' := fun o => Keep.cell (KX.out o) e2
          clear hcell hcl hr hcell' hcl' hr' kx
          go_wp2_with fail
          refine (HP.out kt kt' _ _ _ (by repeat (first | exact Keep.rf _ | assumption | apply Keep.al | apply Keep.dr | apply Keep.dn)) (hkt0.keep (by repeat (first | exact Keep.rf _ | assumption | apply Keep.al | apply Keep.dr | apply Keep.dn))) (hkt0'.keep (by repeat (first | exact Keep.rf _ | assumption | apply Keep.al | apply Keep.dr | apply Keep.dn)))).mono ?_
          rintro e w' ⟨rfl, hk2⟩
          cases hpk : Em.eqT kt kt' with
          | false =>
            have HPK := hide hpk
            clear hpk
            go_wp2_with fail
            go_ret
            refine ⟨?_, Keep.tr (by repeat (first | exact Keep.rf _ | assumption | apply Keep.al | apply Keep.dr | apply Keep.dn)) hk2⟩
            rw [HX.out, hdr.out, HPK.out]
            rfl
          | true =>
            have HPK := hide hpk
            clear hpk
            go_wp2_with fail
            go_roundw
            case rel => exact ⟨j + 1, by omega, by go_num, by rw [HX.out, hdr.out, HPK.out]; rfl, Keep.tr (by repeat (first | exact Keep.rf _ | assumption | apply Keep.al | apply Keep.dr | apply Keep.dn)) hk2⟩
            case measure => simp [intOf]; omega
      · go_wp2_with fail
        go_ret
        refine ⟨?_, hk⟩
        rw [HX.out, List.drop_of_length_le (by omega), List.drop_of_length_le (by omega)]
        rfl
  · have hf := hide (Em.eqL_len ks ks' hll)
    have hne : ((ks.length : Int) != (ks'.length : Int)) = true := by
      rw [bne_iff_ne]
      omega
    clear hll
    go_enter Tryz.func73, Tryz.ntmps73
    go_wp2_with fail
    go_ret
    exact ⟨by rw [hf.out]; rfl, Keep.rf _⟩
set_option maxHeartbeats 2000000 in
theorem typSame1 (d : Nat) : ∀ (a b : Ty) (w : World) (cs cs' : List Value), TyK d w cs a → TyK d w cs' b → Calls Tryz.prog 50 #[.agg cs.toArray, .agg cs'.toArray] w fun e w' => e = .returned (.bool (Em.eqT a b)) ∧ Keep w w' := by
  induction d with
  | zero => intro a b w cs cs' h; exact h.elim
  | succ d ih =>
    intro a b w cs cs' h h'
    obtain ⟨v, rfl, hn, hs⟩ := h
    obtain ⟨v', rfl, hn', hs'⟩ := h'
    have HT := hide (show TellsE 50 d w from fun k k' W cs cs' hW h1 h2 => ih k k' W cs cs' h1 h2)
    have hE := hide (Em.eqT_of a b)
    have S1 := hide hs
    have S2 := hide hs'
    have HF := hide (fun W (k : Keep w W) => tyEqualFunc 50 d (enters_of Tryz.func50 (by kernel_rfl) rfl) W v v' a.kids b.kids (S1.out.keep k fun _ _ h => h.keep k) (S2.out.keep k fun _ _ h => h.keep k) (fun x y W' cs cs' hW' => HT.out x y W' cs cs' (Keep.tr k hW')))
    obtain ⟨A, c, rfl, _⟩ := hs
    obtain ⟨A', c', rfl, _⟩ := hs'
    have hO : ((str a.op).toList == (str b.op).toList) = decide (a.op = b.op) := str_lbeq _ _
    have hO2 : (str a.op == str b.op) = decide (a.op = b.op) := str_beq _ _
    clear ih
    generalize a.op = ao at *
    generalize b.op = bo at *
    generalize a.n = an at *
    generalize b.n = bn at *
    generalize a.kids = ak at *
    generalize b.kids = bk at *
    by_cases h1 : ao = bo
    · by_cases h2 : an = bn
      · subst h1 h2
        have hE2 := hide (show Em.eqT a b = Em.eqL ak bk from by rw [hE.out]; simp)
        go_enter Tryz.func50, Tryz.ntmps50
        go_wp2_with fail
        refine (HF.out _ (by repeat (first | exact Keep.rf _ | assumption | apply Keep.al | apply Keep.dr | apply Keep.dn))).mono ?_
        rintro e w' ⟨rfl, k2⟩
        go_wp2
        go_ret
        exact ⟨by rw [hE2.out]; rfl, Keep.tr (by repeat (first | exact Keep.rf _ | assumption | apply Keep.al | apply Keep.dr | apply Keep.dn)) k2⟩
      · have hE2 := hide (show Em.eqT a b = false from by rw [hE.out]; simp [h2])
        have h2b : (an == bn) = false := by simpa using h2
        subst h1
        go_enter Tryz.func50, Tryz.ntmps50
        go_wp2
        go_ret
        exact ⟨by rw [hE2.out]; rfl, (by repeat (first | exact Keep.rf _ | assumption | apply Keep.al | apply Keep.dr | apply Keep.dn))⟩
    · have hE2 := hide (show Em.eqT a b = false from by rw [hE.out]; simp [h1])
      go_enter Tryz.func50, Tryz.ntmps50
      go_wp2
      go_ret
      exact ⟨by rw [hE2.out]; rfl, (by repeat (first | exact Keep.rf _ | assumption | apply Keep.al | apply Keep.dr | apply Keep.dn))⟩
theorem typSame (a b : Ty) (w : World) (v v' : Value) (h : TyV w v a) (h' : TyV w v' b) : Calls Tryz.prog 50 #[v, v'] w fun e w' => e = .returned (.bool (Em.eqT a b)) ∧ Keep w w' := by
  obtain ⟨d, cs, rfl, h⟩ := h
  obtain ⟨d', cs', rfl, h'⟩ := h'
  exact typSame1 (max d d') a b w cs cs' (h.le (by omega)) (h'.le (by omega))
set_option maxHeartbeats 4000000 in
theorem refSame1 (d : Nat) : ∀ (a b : Ty) (w : World) (cs cs' : List Value), TyK d w cs a → TyK d w cs' b → Calls Tryz.prog 60 #[.agg cs.toArray, .agg cs'.toArray] w fun e w' => e = .returned (.bool (Em.eqT a b)) ∧ Keep w w' := by
  induction d with
  | zero => intro a b w cs cs' h; exact h.elim
  | succ d ih =>
    intro a b w cs cs' h h'
    obtain ⟨v, rfl, hn, A, c, rfl, hlc, hcm, hr⟩ := h
    obtain ⟨v', rfl, hn', A', c', rfl, hlc', hcm', hr'⟩ := h'
    have IH := hide ih
    have hE := hide (Em.eqT_of a b)
    have hO : ((str a.op).toList == (str b.op).toList) = decide (a.op = b.op) := str_lbeq _ _
    have hO2 : (str a.op == str b.op) = decide (a.op = b.op) := str_beq _ _
    have hO3 : (str a.op != str b.op) = !decide (a.op = b.op) := str_bne _ _
    clear ih
    generalize a.op = ao at *
    generalize b.op = bo at *
    generalize a.n = an at *
    generalize b.n = bn at *
    generalize a.kids = ks at *
    generalize b.kids = ks' at *
    by_cases h1 : ao = bo
    · by_cases h2 : an = bn
      · by_cases hll : ks.length = ks'.length
        · subst h1 h2
          have hE2 := hide (show Em.eqT a b = Em.eqL ks ks' from by rw [hE.out]; simp)
          have hll1 : ks.length ≤ ks'.length := by omega
          have hll2 : ks'.length ≤ ks.length := by omega
          have hne : ((ks.length : Int) != (ks'.length : Int)) = false := by rw [hll]; simp
          clear hll
          have hb := heap_alloc_new w (.cells #[.string (str ao), .int .i64 an, .slice A ks.length c] 25)
          have hb' := heap_alloc_new (w.alloc (.cells #[.string (str ao), .int .i64 an, .slice A ks.length c] 25)) (.cells #[.string (str ao), .int .i64 an, .slice A' ks'.length c'] 25)
          have b0 := top_cells hb 2
          simp only [List.getElem?_toArray, List.getElem?_cons_succ, List.getElem?_cons_zero] at b0
          have b2 := Keep.cell (Keep.al (Keep.rf _) (.cells #[.string (str ao), .int .i64 an, .slice A' ks'.length c'] 25)) b0
          have b2' := top_cells hb' 2
          rw [show (w.alloc (.cells #[.string (str ao), .int .i64 an, .slice A ks.length c] 25)).heap.size = w.heap.size + 1 from by simp] at b2'
          simp only [List.getElem?_toArray, List.getElem?_cons_succ, List.getElem?_cons_zero] at b2'
          clear hb hb' b0
          go_enter Tryz.func60, Tryz.ntmps60
          go_wp2_with fail
          go_loopw [5] (fun i W => ∃ (j : Nat), j ≤ ks.length ∧ i = .int .i64 j ∧ Em.eqL ks ks' = Em.eqL (ks.drop j) (ks'.drop j) ∧ Keep ((w.alloc (.cells #[.string (str ao), .int .i64 an, .slice A ks.length c] 25)).alloc (.cells #[.string (str ao), .int .i64 an, .slice A' ks'.length c'] 25)) W) (fun i _ => ks.length - (intOf i).toNat)
          case atStart => exact ⟨0, by omega, rfl, by simp, Keep.rf _⟩
          case round =>
            obtain ⟨j, hj, rfl, hx, hk⟩ := hrel
            have HX := hide hx
            have x2 := Keep.cell hk b2
            have x2' := Keep.cell hk b2'
            have hkw : Keep w wr := Keep.tr (by repeat (first | exact Keep.rf _ | assumption | apply Keep.al | apply Keep.dr | apply Keep.dn)) hk
            clear hx
            by_cases hlt : j < ks.length
            · have hlt' : j < ks'.length := by omega
              obtain ⟨ad, rfl, hcell⟩ := hr (by omega)
              obtain ⟨ad', rfl, hcell'⟩ := hr' (by omega)
              obtain ⟨cs, hcs, hcl, hkt⟩ := hcell j hlt
              obtain ⟨cs', hcs', hcl', hkt'⟩ := hcell' j hlt'
              have hkt0 := hkt
              have hkt0' := hkt'
              have hdr := hide (Em.eqL_drop hlt hlt')
              generalize ks[j] = kt at *
              generalize ks'[j] = kt' at *
              cases d with
              | zero => exact hkt.elim
              | succ d =>
                obtain ⟨kv, rfl, kn, kA, kc, rfl, _⟩ := hkt
                obtain ⟨kv', rfl, kn', kA', kc', rfl, _⟩ := hkt'
                have c0 := Keep.cell hkw (hcl 0 _ rfl)
                have e0 := Keep.cell hkw (hcl' 0 _ rfl)
                rw [Nat.add_zero] at c0 e0
                have c1 := cell_off (Keep.cell hkw (hcl 1 _ rfl))
                have c2 := cell_off (Keep.cell hkw (hcl 2 _ rfl))
                have e1 := cell_off (Keep.cell hkw (hcl' 1 _ rfl))
                have e2 := cell_off (Keep.cell hkw (hcl' 2 _ rfl))
                clear hcell hcl hr hcell' hcl' hr'
                go_wp2_with fail
                apply region_all (by kernel_rfl) Keep Keep krg ktg krg ktg (fun _ _ h => h) [some 34, some 35, some 36, some 37, some 38, some 39, some 40, some 41, some 42, some 43, some 44, some 45] [eqG _ , eqG _ , eqG _ , eqG _ , eqG _ , eqG _ , eqG _ , eqG _ , eqG _ , eqG _ , eqG _ , eqG _ ] [⟨[], [], true, false, false⟩, ⟨[0], [], true, false, false⟩, ⟨[], [], true, false, false⟩, ⟨[1, 2], [], true, false, false⟩, ⟨[3], [], true, false, false⟩, ⟨[], [], true, false, false⟩, ⟨[5], [], true, false, false⟩, ⟨[], [], true, false, false⟩, ⟨[6, 7], [], true, false, false⟩, ⟨[8], [], true, false, false⟩, ⟨[4, 9], [], true, false, false⟩, ⟨[10], [], true, false, false⟩] [11] (by kernel_rfl) (by kernel_rfl) 
                · refine ⟨?_, ?_, ?_, ?_, ?_, ?_, ?_, ?_, ?_, ?_, ?_, ?_, trivial⟩ <;> (intro us W h9 hW hE hd hs K hK; obtain ⟨u0, u1, u2, u3, u4, u5, u6, u7, u8, u9, u10, u11, rfl⟩ := rog 12 h9 rfl; clear h9; try simp only [DepG, AtG, and_true, relG, eqG, eqG1, eqG2, eqG3, gdG, gdG1, gnG, gnG1, List.getD_cons_zero, List.getD_cons_succ, List.getElem?_cons_succ, List.getElem?_cons_zero, Option.map_some, Option.getD_some, valsG, List.map_cons, List.map_nil, List.length_cons, List.length_nil] at hd)
                  · ((try clear hd); clear hs; simp only [fillG, List.set_cons_zero, List.set_cons_succ]; refine want_n rfl ?_; go_wp2_with (first | fail); simp only [DoneG, fillG, List.set_cons_zero, List.set_cons_succ, relG, eqG, eqG1, eqG2, eqG3, gdG, gdG1, gnG, gnG1, List.getD_cons_zero, List.getD_cons_succ, List.getElem?_cons_succ, List.getElem?_cons_zero, Option.map_some, Option.getD_some, valsG, List.map_cons, List.map_nil, List.length_cons, List.length_nil]; exact ⟨_, rfl, (by first | with_reducible assumption | exact krg _ | exact Keep.al (krg _) _), fun _ _ => rfl⟩)
                  · (have d0 := hd; clear hd; subst d0; clear hs; simp only [fillG, List.set_cons_zero, List.set_cons_succ]; have hKW := Keep.tr (Keep.dr (Keep.rf _)) (hE rfl); have c0 := Keep.cell hKW c0; have c1 := Keep.cell hKW c1; have c2 := Keep.cell hKW c2; have e0 := Keep.cell hKW e0; have e1 := Keep.cell hKW e1; have e2 := Keep.cell hKW e2; have x2 := Keep.cell hKW x2; have x2' := Keep.cell hKW x2'; refine want_n rfl ?_; go_wp2_with (first | fail); simp only [DoneG, fillG, List.set_cons_zero, List.set_cons_succ, relG, eqG, eqG1, eqG2, eqG3, gdG, gdG1, gnG, gnG1, List.getD_cons_zero, List.getD_cons_succ, List.getElem?_cons_succ, List.getElem?_cons_zero, Option.map_some, Option.getD_some, valsG, List.map_cons, List.map_nil, List.length_cons, List.length_nil]; exact ⟨_, rfl, (by first | with_reducible assumption | exact krg _ | exact Keep.al (krg _) _), fun _ _ => rfl⟩)
                  · ((try clear hd); clear hs; simp only [fillG, List.set_cons_zero, List.set_cons_succ]; refine want_n rfl ?_; go_wp2_with (first | fail); simp only [DoneG, fillG, List.set_cons_zero, List.set_cons_succ, relG, eqG, eqG1, eqG2, eqG3, gdG, gdG1, gnG, gnG1, List.getD_cons_zero, List.getD_cons_succ, List.getElem?_cons_succ, List.getElem?_cons_zero, Option.map_some, Option.getD_some, valsG, List.map_cons, List.map_nil, List.length_cons, List.length_nil]; exact ⟨_, rfl, (by first | with_reducible assumption | exact krg _ | exact Keep.al (krg _) _), fun _ _ => rfl⟩)
                  · (obtain ⟨d1, d2⟩ := hd; subst d1; subst d2; clear hs; simp only [fillG, List.set_cons_zero, List.set_cons_succ]; refine want_n rfl ?_; go_wp2_with (first | fail); simp only [DoneG, fillG, List.set_cons_zero, List.set_cons_succ, relG, eqG, eqG1, eqG2, eqG3, gdG, gdG1, gnG, gnG1, List.getD_cons_zero, List.getD_cons_succ, List.getElem?_cons_succ, List.getElem?_cons_zero, Option.map_some, Option.getD_some, valsG, List.map_cons, List.map_nil, List.length_cons, List.length_nil]; exact ⟨_, rfl, (by first | with_reducible assumption | exact krg _ | exact Keep.al (krg _) _), fun _ _ => rfl⟩)
                  · (have d3 := hd; clear hd; subst d3; clear hs; simp only [fillG, List.set_cons_zero, List.set_cons_succ]; have hKW := Keep.tr (Keep.dr (Keep.rf _)) (hE rfl); have c0 := Keep.cell hKW c0; have c1 := Keep.cell hKW c1; have c2 := Keep.cell hKW c2; have e0 := Keep.cell hKW e0; have e1 := Keep.cell hKW e1; have e2 := Keep.cell hKW e2; have x2 := Keep.cell hKW x2; have x2' := Keep.cell hKW x2'; refine want_n rfl ?_; go_wp2_with (first | fail); simp only [DoneG, fillG, List.set_cons_zero, List.set_cons_succ, relG, eqG, eqG1, eqG2, eqG3, gdG, gdG1, gnG, gnG1, List.getD_cons_zero, List.getD_cons_succ, List.getElem?_cons_succ, List.getElem?_cons_zero, Option.map_some, Option.getD_some, valsG, List.map_cons, List.map_nil, List.length_cons, List.length_nil]; exact ⟨_, rfl, (by first | with_reducible assumption | exact krg _ | exact Keep.al (krg _) _), fun _ _ => rfl⟩)
                  · ((try clear hd); clear hs; simp only [fillG, List.set_cons_zero, List.set_cons_succ]; refine want_n rfl ?_; go_wp2_with (first | fail); simp only [DoneG, fillG, List.set_cons_zero, List.set_cons_succ, relG, eqG, eqG1, eqG2, eqG3, gdG, gdG1, gnG, gnG1, List.getD_cons_zero, List.getD_cons_succ, List.getElem?_cons_succ, List.getElem?_cons_zero, Option.map_some, Option.getD_some, valsG, List.map_cons, List.map_nil, List.length_cons, List.length_nil]; exact ⟨_, rfl, (by first | with_reducible assumption | exact krg _ | exact Keep.al (krg _) _), fun _ _ => rfl⟩)
                  · (have d5 := hd; clear hd; subst d5; clear hs; simp only [fillG, List.set_cons_zero, List.set_cons_succ]; have hKW := Keep.tr (Keep.dr (Keep.rf _)) (hE rfl); have c0 := Keep.cell hKW c0; have c1 := Keep.cell hKW c1; have c2 := Keep.cell hKW c2; have e0 := Keep.cell hKW e0; have e1 := Keep.cell hKW e1; have e2 := Keep.cell hKW e2; have x2 := Keep.cell hKW x2; have x2' := Keep.cell hKW x2'; refine want_n rfl ?_; go_wp2_with (first | fail); simp only [DoneG, fillG, List.set_cons_zero, List.set_cons_succ, relG, eqG, eqG1, eqG2, eqG3, gdG, gdG1, gnG, gnG1, List.getD_cons_zero, List.getD_cons_succ, List.getElem?_cons_succ, List.getElem?_cons_zero, Option.map_some, Option.getD_some, valsG, List.map_cons, List.map_nil, List.length_cons, List.length_nil]; exact ⟨_, rfl, (by first | with_reducible assumption | exact krg _ | exact Keep.al (krg _) _), fun _ _ => rfl⟩)
                  · ((try clear hd); clear hs; simp only [fillG, List.set_cons_zero, List.set_cons_succ]; refine want_n rfl ?_; go_wp2_with (first | fail); simp only [DoneG, fillG, List.set_cons_zero, List.set_cons_succ, relG, eqG, eqG1, eqG2, eqG3, gdG, gdG1, gnG, gnG1, List.getD_cons_zero, List.getD_cons_succ, List.getElem?_cons_succ, List.getElem?_cons_zero, Option.map_some, Option.getD_some, valsG, List.map_cons, List.map_nil, List.length_cons, List.length_nil]; exact ⟨_, rfl, (by first | with_reducible assumption | exact krg _ | exact Keep.al (krg _) _), fun _ _ => rfl⟩)
                  · (obtain ⟨d6, d7⟩ := hd; subst d6; subst d7; clear hs; simp only [fillG, List.set_cons_zero, List.set_cons_succ]; refine want_n rfl ?_; go_wp2_with (first | fail); simp only [DoneG, fillG, List.set_cons_zero, List.set_cons_succ, relG, eqG, eqG1, eqG2, eqG3, gdG, gdG1, gnG, gnG1, List.getD_cons_zero, List.getD_cons_succ, List.getElem?_cons_succ, List.getElem?_cons_zero, Option.map_some, Option.getD_some, valsG, List.map_cons, List.map_nil, List.length_cons, List.length_nil]; exact ⟨_, rfl, (by first | with_reducible assumption | exact krg _ | exact Keep.al (krg _) _), fun _ _ => rfl⟩)
                  · (have d8 := hd; clear hd; subst d8; clear hs; simp only [fillG, List.set_cons_zero, List.set_cons_succ]; have hKW := Keep.tr (Keep.dr (Keep.rf _)) (hE rfl); have c0 := Keep.cell hKW c0; have c1 := Keep.cell hKW c1; have c2 := Keep.cell hKW c2; have e0 := Keep.cell hKW e0; have e1 := Keep.cell hKW e1; have e2 := Keep.cell hKW e2; have x2 := Keep.cell hKW x2; have x2' := Keep.cell hKW x2'; refine want_n rfl ?_; go_wp2_with (first | fail); simp only [DoneG, fillG, List.set_cons_zero, List.set_cons_succ, relG, eqG, eqG1, eqG2, eqG3, gdG, gdG1, gnG, gnG1, List.getD_cons_zero, List.getD_cons_succ, List.getElem?_cons_succ, List.getElem?_cons_zero, Option.map_some, Option.getD_some, valsG, List.map_cons, List.map_nil, List.length_cons, List.length_nil]; exact ⟨_, rfl, (by first | with_reducible assumption | exact krg _ | exact Keep.al (krg _) _), fun _ _ => rfl⟩)
                  · (obtain ⟨d4, d9⟩ := hd; subst d4; subst d9; clear hs; simp only [fillG, List.set_cons_zero, List.set_cons_succ]; have hKW := Keep.tr (Keep.dr (Keep.rf _)) (hE rfl); have c0 := Keep.cell hKW c0; have c1 := Keep.cell hKW c1; have c2 := Keep.cell hKW c2; have e0 := Keep.cell hKW e0; have e1 := Keep.cell hKW e1; have e2 := Keep.cell hKW e2; have x2 := Keep.cell hKW x2; have x2' := Keep.cell hKW x2'; refine want_n rfl ?_; go_wp2_with (first | (go_at_call 60; refine (IH.out kt kt' _ _ _ (hkt0.keep (Keep.tr hkw hKW)) (hkt0'.keep (Keep.tr hkw hKW))).mono ?_; rintro e w' ⟨rfl, hk2⟩) | fail); simp only [DoneG, fillG, List.set_cons_zero, List.set_cons_succ, relG, eqG, eqG1, eqG2, eqG3, gdG, gdG1, gnG, gnG1, List.getD_cons_zero, List.getD_cons_succ, List.getElem?_cons_succ, List.getElem?_cons_zero, Option.map_some, Option.getD_some, valsG, List.map_cons, List.map_nil, List.length_cons, List.length_nil]; exact ⟨_, rfl, (by first | with_reducible assumption | exact krg _ | exact Keep.al (krg _) _), fun _ _ => rfl⟩)
                  · (have d10 := hd; clear hd; subst d10; clear hs; simp only [fillG, List.set_cons_zero, List.set_cons_succ]; refine want_n rfl ?_; go_wp2_with (first | fail); simp only [DoneG, fillG, List.set_cons_zero, List.set_cons_succ, relG, eqG, eqG1, eqG2, eqG3, gdG, gdG1, gnG, gnG1, List.getD_cons_zero, List.getD_cons_succ, List.getElem?_cons_succ, List.getElem?_cons_zero, Option.map_some, Option.getD_some, valsG, List.map_cons, List.map_nil, List.length_cons, List.length_nil]; exact ⟨_, rfl, (by first | with_reducible assumption | exact krg _ | exact Keep.al (krg _) _), fun _ _ => rfl⟩)
                (intro us W6 h9 hW hE hA; obtain ⟨u0, u1, u2, u3, u4, u5, u6, u7, u8, u9, u10, u11, rfl⟩ := rog 12 h9 rfl; clear h9; simp only [AllG, AtG, and_true, relG, eqG, eqG1, eqG2, eqG3, gdG, gdG1, gnG, gnG1, List.getD_cons_zero, List.getD_cons_succ, List.getElem?_cons_succ, List.getElem?_cons_zero, Option.map_some, Option.getD_some, valsG, List.map_cons, List.map_nil, List.length_cons, List.length_nil] at hA; have d11 := hA; clear hA; subst d11; simp only [fillG, List.set_cons_zero, List.set_cons_succ]; have k6 := Keep.tr (Keep.dr (Keep.rf _)) hW; clear hW hE)
                cases hpk : Em.eqT kt kt' with
                | false =>
                  have HPK := hide hpk
                  clear hpk
                  go_wp2_with fail
                  go_ret
                  refine ⟨?_, Keep.tr hkw k6⟩
                  rw [hE2.out, HX.out, hdr.out, HPK.out]
                  rfl
                | true =>
                  have HPK := hide hpk
                  clear hpk
                  go_wp2_with fail
                  go_roundw
                  case rel => exact ⟨j + 1, by omega, by go_num, by rw [HX.out, hdr.out, HPK.out]; rfl, Keep.tr hk k6⟩
                  case measure => simp [intOf]; omega
            · go_wp2_with fail
              go_ret
              refine ⟨?_, hkw⟩
              rw [hE2.out, HX.out, List.drop_of_length_le (by omega), List.drop_of_length_le (by omega)]
              rfl
        · have hE2 := hide (show Em.eqT a b = false from by rw [hE.out, Em.eqL_len ks ks' hll]; simp)
          have hne : ((ks.length : Int) != (ks'.length : Int)) = true := by
            rw [bne_iff_ne]
            omega
          subst h1 h2
          go_enter Tryz.func60, Tryz.ntmps60
          go_wp2
          go_ret
          exact ⟨by rw [hE2.out]; rfl, (by repeat (first | exact Keep.rf _ | assumption | apply Keep.al | apply Keep.dr | apply Keep.dn))⟩
      · have hE2 := hide (show Em.eqT a b = false from by rw [hE.out]; simp [h2])
        have h2b : (an != bn) = true := by simpa using h2
        subst h1
        go_enter Tryz.func60, Tryz.ntmps60
        go_wp2
        go_ret
        exact ⟨by rw [hE2.out]; rfl, (by repeat (first | exact Keep.rf _ | assumption | apply Keep.al | apply Keep.dr | apply Keep.dn))⟩
    · have hE2 := hide (show Em.eqT a b = false from by rw [hE.out]; simp [h1])
      go_enter Tryz.func60, Tryz.ntmps60
      go_wp2
      go_ret
      exact ⟨by rw [hE2.out]; rfl, (by repeat (first | exact Keep.rf _ | assumption | apply Keep.al | apply Keep.dr | apply Keep.dn))⟩
theorem refSameT (a b : Ty) (w : World) (v v' : Value) (h : TyV w v a) (h' : TyV w v' b) : Calls Tryz.prog 60 #[v, v'] w fun e w' => e = .returned (.bool (Em.eqT a b)) ∧ Keep w w' := by
  obtain ⟨d, cs, rfl, h⟩ := h
  obtain ⟨d', cs', rfl, h'⟩ := h'
  exact refSame1 (max d d') a b w cs cs' (h.le (by omega)) (h'.le (by omega))
set_option maxHeartbeats 2000000 in
theorem typSent1 (d : Nat) : ∀ (t : Ty) (w : World) (cs : List Value), TyK d w cs t → Calls Tryz.prog 22 #[.agg cs.toArray] w fun e w' => e = .returned (.bool (Em.sentT t)) ∧ Keep w w' := by
  induction d with
  | zero => intro t w cs h; exact h.elim
  | succ d ih =>
    intro t w cs h
    obtain ⟨v, rfl, hn, hs⟩ := h
    have HT : TellsK 46 d w t.kids fun k => !Em.sentT k := by
      intro k hk W cs' hW hK
      have hK0 := hK
      cases d with
      | zero => exact hK.elim
      | succ d =>
        obtain ⟨kv, rfl, kn, kA, kc, rfl, _⟩ := hK
        have HI := hide ih
        clear ih
        go_enter Tryz.func46, Tryz.ntmps46
        go_wp2_with fail
        refine (HI.out k _ _ (hK0.keep (by repeat (first | exact Keep.rf _ | assumption | apply Keep.al | apply Keep.dr | apply Keep.dn)))).mono ?_
        rintro e w' ⟨rfl, hk2⟩
        go_wp2
        go_ret
        exact ⟨rfl, Keep.tr (by repeat (first | exact Keep.rf _ | assumption | apply Keep.al | apply Keep.dr | apply Keep.dn)) hk2⟩
    have hO := opB t.op
    have hOK := hide (Em.sentT_of t)
    have S1 := hide hs
    have HTT := hide HT
    have HS := hide (fun W (k : Keep w W) => tyContainsFunc 46 d (enters_of Tryz.func46 (by kernel_rfl) rfl) W v t.kids (fun k => !Em.sentT k) (S1.out.keep k fun _ _ h => h.keep k) (fun x hx W' cs' hW' => HTT.out x hx W' cs' (Keep.tr k hW')))
    obtain ⟨A, c, rfl, _⟩ := hs
    clear ih HT
    generalize t.op = o at *
    generalize t.n = n at *
    generalize t.kids = ks at *
    by_cases h1 : o = [118, 97, 114]
    · have hf := hide (show Em.sentT t = false from by rw [hOK.out]; simp [Em.wVar, h1])
      subst h1
      go_enter Tryz.func22, Tryz.ntmps22
      go_wp2
      go_ret
      exact ⟨by rw [hf.out]; rfl, (by repeat (first | exact Keep.rf _ | assumption | apply Keep.al | apply Keep.dr | apply Keep.dn))⟩
    · by_cases h2 : o = [102, 117, 110]
      · have hf := hide (show Em.sentT t = false from by rw [hOK.out]; simp [Em.wFun, h2])
        subst h2
        go_enter Tryz.func22, Tryz.ntmps22
        go_wp2
        go_ret
        exact ⟨by rw [hf.out]; rfl, (by repeat (first | exact Keep.rf _ | assumption | apply Keep.al | apply Keep.dr | apply Keep.dn))⟩
      · have hf := hide (show Em.sentT t = !(ks.any fun k => !Em.sentT k) from by rw [hOK.out]; simp [Em.wVar, Em.wFun, h1, h2])
        go_enter Tryz.func22, Tryz.ntmps22
        go_wp2_with fail
        refine (HS.out _ (by repeat (first | exact Keep.rf _ | assumption | apply Keep.al | apply Keep.dr | apply Keep.dn))).mono ?_
        rintro e w' ⟨rfl, k2⟩
        go_wp2
        go_ret
        exact ⟨by rw [hf.out]; rfl, Keep.tr (by repeat (first | exact Keep.rf _ | assumption | apply Keep.al | apply Keep.dr | apply Keep.dn)) k2⟩
theorem typSent (t : Ty) (w : World) (v : Value) (h : TyV w v t) : Calls Tryz.prog 22 #[v] w fun e w' => e = .returned (.bool (Em.sentT t)) ∧ Keep w w' := by
  obtain ⟨d, cs, rfl, h⟩ := h
  exact typSent1 d t w cs h
set_option maxHeartbeats 2000000 in
theorem refSent1 (d : Nat) : ∀ (t : Ty) (w : World) (cs : List Value), TyK d w cs t → Calls Tryz.prog 35 #[.agg cs.toArray] w fun e w' => e = .returned (.bool (Em.sentT t)) ∧ Keep w w' := by
  induction d with
  | zero => intro t w cs h; exact h.elim
  | succ d ih =>
    intro t w cs h
    obtain ⟨v, rfl, hn, A, c, rfl, hlc, hcm, hr⟩ := h
    have IH := hide ih
    have hO := opB t.op
    have hOK := hide (Em.sentT_of t)
    clear ih
    generalize t.op = o at *
    generalize t.n = n at *
    generalize t.kids = ks at *
    by_cases h1 : o = [118, 97, 114]
    · have hf := hide (show Em.sentT t = false from by rw [hOK.out]; simp [Em.wVar, h1])
      subst h1
      go_enter Tryz.func35, Tryz.ntmps35
      go_wp2
      go_ret
      exact ⟨by rw [hf.out]; rfl, (by repeat (first | exact Keep.rf _ | assumption | apply Keep.al | apply Keep.dr | apply Keep.dn))⟩
    · by_cases h2 : o = [102, 117, 110]
      · have hf := hide (show Em.sentT t = false from by rw [hOK.out]; simp [Em.wFun, h2])
        subst h2
        go_enter Tryz.func35, Tryz.ntmps35
        go_wp2
        go_ret
        exact ⟨by rw [hf.out]; rfl, (by repeat (first | exact Keep.rf _ | assumption | apply Keep.al | apply Keep.dr | apply Keep.dn))⟩
      · have hf := hide (show Em.sentT t = !(ks.any fun k => !Em.sentT k) from by rw [hOK.out]; simp [Em.wVar, Em.wFun, h1, h2])
        have hb := heap_alloc_new w (.cells #[.string (str o), .int .i64 n, .slice A ks.length c] 25)
        have b2 := top_cells hb 2
        simp only [List.getElem?_toArray, List.getElem?_cons_succ, List.getElem?_cons_zero] at b2
        clear hb
        go_enter Tryz.func35, Tryz.ntmps35
        go_wp2_with fail
        go_loopw [3] (fun i W => ∃ (j : Nat), j ≤ ks.length ∧ i = .int .i64 j ∧ (∀ x ∈ ks.take j, Em.sentT x = true) ∧ Keep (w.alloc (.cells #[.string (str o), .int .i64 n, .slice A ks.length c] 25)) W) (fun i _ => ks.length - (intOf i).toNat)
        case atStart => exact ⟨0, by omega, rfl, by simp, Keep.rf _⟩
        case round =>
          obtain ⟨j, hj, rfl, hx, hk⟩ := hrel
          have HX := hide hx
          have x2 := Keep.cell hk b2
          have hkw : Keep w wr := Keep.tr (by repeat (first | exact Keep.rf _ | assumption | apply Keep.al | apply Keep.dr | apply Keep.dn)) hk
          clear hx
          by_cases hlt : j < ks.length
          · obtain ⟨ad, rfl, hcell⟩ := hr (by omega)
            obtain ⟨cs, hcs, hcl, hkt⟩ := hcell j hlt
            have hkt0 := hkt
            have hmem := hide (List.getElem_mem hlt)
            have htk := hide (List.take_succ_eq_append_getElem hlt)
            generalize ks[j] = kt at *
            cases d with
            | zero => exact hkt.elim
            | succ d =>
              obtain ⟨kv, rfl, kn, kA, kc, rfl, _⟩ := hkt
              have c0 := Keep.cell hkw (hcl 0 _ rfl)
              rw [Nat.add_zero] at c0
              have c1 := cell_off (Keep.cell hkw (hcl 1 _ rfl))
              have c2 := cell_off (Keep.cell hkw (hcl 2 _ rfl))
              clear hcell hcl hr
              go_wp2_with fail
              refine (IH.out kt _ _ (hkt0.keep hkw)).mono ?_
              rintro e w' ⟨rfl, hk2⟩
              cases hpk : Em.sentT kt with
              | false =>
                have HPK := hide hpk
                clear hpk
                go_wp2_with fail
                go_ret
                refine ⟨?_, Keep.tr hkw hk2⟩
                have : (ks.any fun k => !Em.sentT k) = true := List.any_eq_true.2 ⟨kt, hmem.out, by simp [HPK.out]⟩
                rw [hf.out, this]
                rfl
              | true =>
                have hon : ∀ x ∈ ks.take (j + 1), Em.sentT x = true := by
                  intro x hx
                  rw [htk.out] at hx
                  rcases List.mem_append.1 hx with hx | hx
                  · exact HX.out x hx
                  · rw [List.mem_singleton.1 hx]; exact hpk
                have HON := hide hon
                clear hpk hon
                go_wp2_with fail
                go_roundw
                case rel => exact ⟨j + 1, by omega, by go_num, HON.out, Keep.tr hk hk2⟩
                case measure => simp [intOf]; omega
          · go_wp2_with fail
            go_ret
            refine ⟨?_, hkw⟩
            have h1 : ks.take j = ks := List.take_of_length_le (by omega)
            have h2 := HX.out
            rw [h1] at h2
            have : (ks.any fun k => !Em.sentT k) = false := by
              rw [List.any_eq_false]
              intro x hx
              simp [h2 x hx]
            rw [hf.out, this]
            rfl
theorem refSentT (t : Ty) (w : World) (v : Value) (h : TyV w v t) : Calls Tryz.prog 35 #[v] w fun e w' => e = .returned (.bool (Em.sentT t)) ∧ Keep w w' := by
  obtain ⟨d, cs, rfl, h⟩ := h
  exact refSent1 d t w cs h
end Go.Proofs.YtoehaijmkmdggaaGreat
