/- Walk: which programs may be (the reference). -/
import Derived.Test.YtcbkklfdeloeeaaCodeC
namespace Go.Proofs.Ytcbkklfdeloeeaa
open Go.RowKit
open Em (Prg)
set_option linter.unusedVariables false
set_option maxRecDepth 100000
theorem okP_noS {dp : Int} {fs : List (List (Int × Int))} {ss : List (List UInt8)} {s : List UInt8} (h : s ∈ ss) (hs : ¬ s.length ≤ 2000) : Em.okP ⟨dp, fs, ss⟩ = false := by
  have : ss.all Em.okS = false := by
    rw [List.all_eq_false]
    exact ⟨s, h, by simp [Em.okS]; omega⟩
  simp [Em.okP, this]
theorem okP_noF {dp : Int} {fs : List (List (Int × Int))} {ss : List (List UInt8)} {f : List (Int × Int)} (h : f ∈ fs) (hf : Em.okF f = false) : Em.okP ⟨dp, fs, ss⟩ = false := by
  have : fs.all Em.okF = false := by
    rw [List.all_eq_false]
    exact ⟨f, h, by simp [hf]⟩
  simp [Em.okP, this]
theorem okP_yes {dp : Int} {fs : List (List (Int × Int))} {ss : List (List UInt8)} (h1 : 0 ≤ dp) (h2 : dp ≤ 4) (h3 : ss.length ≤ 2000) (h4 : fs.length ≤ 200) (h5 : ∀ s ∈ ss, Em.okS s = true) (h6 : ∀ f ∈ fs, Em.okF f = true) : Em.okP ⟨dp, fs, ss⟩ = true := by
  simp only [Em.okP, Bool.and_eq_true, decide_eq_true_eq, List.all_eq_true]
  exact ⟨⟨⟨⟨⟨h1, h2⟩, h3⟩, h4⟩, h5⟩, h6⟩
theorem all_snoc {α : Type} {p : α → Bool} {l : List α} {j : Nat} (h : j < l.length) (h1 : ∀ x ∈ l.take j, p x = true) (h2 : p l[j] = true) : ∀ x ∈ l.take (j + 1), p x = true := by
  intro x hx
  rw [List.take_succ_eq_append_getElem h] at hx
  rcases List.mem_append.1 hx with hx | hx
  · exact h1 x hx
  · rw [List.mem_singleton.1 hx]; exact h2
set_option maxHeartbeats 16000000 in
theorem refIs13 (w : World) (cs : List Value) (p : Prg) (h : PrgK w cs p) : Calls Try.prog 29 #[.agg cs.toArray] w fun e w' => e = .returned (.bool (Em.okP p)) ∧ Keep w w' := by
  obtain ⟨vf, vs, rfl, hwf, hf, hs⟩ := h
  obtain ⟨fA, fc, rfl, hfl, hfm, hfr⟩ := hf
  obtain ⟨sA, sc, rfl, hsl, hsm, hsr⟩ := hs
  obtain ⟨dp, fs, ss⟩ := p
  simp only at *
  have hdb := in_i64 hwf
  by_cases h1 : 0 ≤ dp
  case neg =>
    have hr : Em.okP ⟨dp, fs, ss⟩ = false := by simp [Em.okP, h1]
    rw [hr]
    clear hr
    go_enter Try.func29, Try.ntmps29
    go_wp2_with fail
    go_ret
    exact ⟨rfl, (by repeat (first | exact Keep.rf _ | assumption | apply Keep.al | apply Keep.dr | apply Keep.dn))⟩
  by_cases h2 : dp ≤ 4
  case neg =>
    have hr : Em.okP ⟨dp, fs, ss⟩ = false := by simp [Em.okP, h2]
    rw [hr]
    clear hr
    go_enter Try.func29, Try.ntmps29
    go_wp2_with fail
    go_ret
    exact ⟨rfl, (by repeat (first | exact Keep.rf _ | assumption | apply Keep.al | apply Keep.dr | apply Keep.dn))⟩
  by_cases h3 : ss.length ≤ 2000
  case neg =>
    have hr : Em.okP ⟨dp, fs, ss⟩ = false := by simp [Em.okP, h3]
    rw [hr]
    clear hr
    go_enter Try.func29, Try.ntmps29
    go_wp2_with fail
    go_ret
    exact ⟨rfl, (by repeat (first | exact Keep.rf _ | assumption | apply Keep.al | apply Keep.dr | apply Keep.dn))⟩
  by_cases h4 : fs.length ≤ 200
  case neg =>
    have hr : Em.okP ⟨dp, fs, ss⟩ = false := by simp [Em.okP, h4]
    rw [hr]
    clear hr
    go_enter Try.func29, Try.ntmps29
    go_wp2_with fail
    go_ret
    exact ⟨rfl, (by repeat (first | exact Keep.rf _ | assumption | apply Keep.al | apply Keep.dr | apply Keep.dn))⟩
  have h3i : decide ((ss.length : Int) > 2000) = false := decide_eq_false (by omega)
  have h4i : decide ((fs.length : Int) > 200) = false := decide_eq_false (by omega)
  have NOS := hide fun s (h : s ∈ ss) hs => okP_noS (dp := dp) (fs := fs) h hs
  have NOF := hide fun f (h : f ∈ fs) hf => okP_noF (dp := dp) (ss := ss) h hf
  have YES := hide (okP_yes (dp := dp) (fs := fs) (ss := ss) h1 h2 h3 h4)
  generalize Em.okP ⟨dp, fs, ss⟩ = res at *
  have hb := heap_alloc_new w (.cells #[.int .i64 dp, .slice fA fs.length fc, .slice sA ss.length sc] 36)
  have k0 : Keep w (w.alloc (.cells #[.int .i64 dp, .slice fA fs.length fc, .slice sA ss.length sc] 36)) := (by repeat (first | exact Keep.rf _ | assumption | apply Keep.al | apply Keep.dr | apply Keep.dn))
  have t1 := top_cells hb 1
  have t2 := top_cells hb 2
  simp only [List.getElem?_toArray, List.getElem?_cons_succ, List.getElem?_cons_zero] at t1 t2
  clear hb
  go_enter Try.func29, Try.ntmps29
  go_wp2_with fail
  generalize World.alloc w _ = W1 at *
  go_loopw [3] (fun i W => ∃ (j : Nat), i = .int .i64 j ∧ j ≤ ss.length ∧ (∀ s ∈ ss.take j, Em.okS s = true) ∧ Keep W1 W) (fun i _ => ss.length - (intOf i).toNat)
  case atStart => exact ⟨0, rfl, by omega, by simp, Keep.rf _⟩
  case round =>
    obtain ⟨j, rfl, hj, hx, hk1⟩ := hrel
    have HX := hide hx
    replace t1 := Keep.cell hk1 t1
    replace t2 := Keep.cell hk1 t2
    have k01 := Keep.tr k0 hk1
    clear hx
    by_cases hlt : j < ss.length
    · have hlti : decide ((j : Int) < (ss.length : Int)) = true := decide_eq_true (by omega)
      obtain ⟨ad, rfl, hcell⟩ := hsr (by omega)
      obtain ⟨cs, hcs, hcl, hkt⟩ := hcell j hlt
      have hkt : cs = [.string (str ss[j])] := hkt
      subst hkt
      have c0 := Keep.cell k01 (hcl 0 _ rfl)
      rw [Nat.add_zero, Nat.mul_one] at c0
      have hz := str_size ss[j]
      by_cases hlong : ss[j].length ≤ 2000
      · have HX2 := hide (all_snoc hlt HX.out (show Em.okS ss[j] = true from by simp [Em.okS, hlong]))
        generalize ss[j] = sj at *
        clear hcell hcl hsr
        go_wp2_with fail
        go_roundw
        case rel => exact ⟨j + 1, by go_num, by omega, HX2.out, hk1⟩
        case measure => simp [intOf]; omega
      · have hno := NOS.out _ (List.getElem_mem hlt) hlong
        generalize ss[j] = sj at *
        subst hno
        clear hcell hcl hsr NOS NOF YES
        go_wp2_with fail
        go_ret
        exact ⟨rfl, k01⟩
    · have hlti : decide ((j : Int) < (ss.length : Int)) = false := decide_eq_false (by omega)
      have hall : ∀ s ∈ ss, Em.okS s = true := by
        have := HX.out
        rwa [List.take_of_length_le (by omega)] at this
      have YES2 := hide (YES.out hall)
      clear hall YES hsr NOS
      go_wp2_with fail
      go_loopw [4] (fun i W => ∃ (j : Nat), i = .int .i64 j ∧ j ≤ fs.length ∧ (∀ s ∈ fs.take j, Em.okF s = true) ∧ Keep wr W) (fun i _ => fs.length - (intOf i).toNat)
      case atStart => exact ⟨0, rfl, by omega, by simp, Keep.rf _⟩
      case round =>
        clear HX
        obtain ⟨j2, rfl, hj2, hx, hk⟩ := hrel
        have HX := hide hx
        have k0w := Keep.tr k01 hk
        replace t1 := Keep.cell hk t1
        clear hx
        by_cases hlt2 : j2 < fs.length
        · have hlti2 : decide ((j2 : Int) < (fs.length : Int)) = true := decide_eq_true (by omega)
          obtain ⟨ad, rfl, hcell⟩ := hfr (by omega)
          obtain ⟨cs, hcs, hcl, u, rfl, hu⟩ := hcell j2 hlt2
          have c0 := Keep.cell k0w (hcl 0 _ rfl)
          rw [Nat.add_zero, Nat.mul_one] at c0
          obtain ⟨uA, uc, rfl, hul, hum, hur⟩ := hu
          have hsn := hide (fun h => all_snoc (p := Em.okF) hlt2 HX.out h)
          have hnf := hide (NOF.out _ (List.getElem_mem hlt2))
          generalize fs[j2] = fj at *
          clear hcell hcl hfr
          by_cases hlong : fj.length ≤ 4000
          · have hli : decide ((fj.length : Int) > 4000) = false := decide_eq_false (by omega)
            go_wp2_with fail
            go_loopw [5] (fun i W => ∃ (m : Nat), i = .int .i64 m ∧ m ≤ fj.length ∧ (∀ x ∈ fj.take m, Em.okI x = true) ∧ Keep wr W) (fun i _ => fj.length - (intOf i).toNat)
            case atStart => exact ⟨0, rfl, by omega, by simp, Keep.rf _⟩
            case round =>
              obtain ⟨m, rfl, hm, hxi, hk3⟩ := hrel
              have HXI := hide hxi
              have k0x := Keep.tr k0w hk3
              have t1x := Keep.cell hk3 t1
              have c0x := Keep.cell hk3 c0
              clear hxi
              by_cases hlt3 : m < fj.length
              · have hlti3 : decide ((m : Int) < (fj.length : Int)) = true := decide_eq_true (by omega)
                obtain ⟨ad, rfl, hcell⟩ := hur (by omega)
                obtain ⟨cs, hcs, hcl, rfl, hw1, hw2⟩ := hcell m hlt3
                have e0 := Keep.cell k0x (hcl 0 _ rfl)
                rw [Nat.add_zero] at e0
                have e1 := cell_off (Keep.cell k0x (hcl 1 _ rfl))
                have hsn3 := hide (fun h => all_snoc (p := Em.okI) hlt3 HXI.out h)
                have hnf3 := hide (fun (h : Em.okI fj[m] = false) => hnf.out (by
                  have : fj.all Em.okI = false := by
                    rw [List.all_eq_false]
                    exact ⟨_, List.getElem_mem hlt3, by simp [h]⟩
                  simp [Em.okF, this]))
                generalize fj[m] = x at *
                obtain ⟨o, n⟩ := x
                simp only at e0 e1 hw1 hw2
                have hob := in_i64 hw1
                have HH := hide fun W => refHasN o W
                clear hcell hcl hur
                by_cases g1 : 1 ≤ o
                case neg =>
                  have hr := hnf3.out (by simp [Em.okI, g1])
                  subst hr
                  clear hnf hsn NOF YES2 hsn3 hnf3
                  go_wp2_with fail
                  go_ret
                  exact ⟨rfl, Keep.tr k0x (by repeat (first | exact Keep.rf _ | assumption | apply Keep.al | apply Keep.dr | apply Keep.dn))⟩
                by_cases g2 : o ≤ 35
                case neg =>
                  have hr := hnf3.out (by simp [Em.okI, g2])
                  subst hr
                  clear hnf hsn NOF YES2 hsn3 hnf3
                  go_wp2_with fail
                  go_ret
                  exact ⟨rfl, Keep.tr k0x (by repeat (first | exact Keep.rf _ | assumption | apply Keep.al | apply Keep.dr | apply Keep.dn))⟩
                by_cases g3 : n = 0
                · have HX3 := hide (hsn3.out (by simp [Em.okI, g1, g2, g3]))
                  subst g3
                  clear hsn3 hnf3
                  go_wp2_with fail
                  go_roundw
                  case rel => exact ⟨m + 1, by go_num, by omega, HX3.out, Keep.tr hk3 (by repeat (first | exact Keep.rf _ | assumption | apply Keep.al | apply Keep.dr | apply Keep.dn))⟩
                  case measure => simp [intOf]; omega
                · have g3b : (n == 0) = false := by simpa using g3
                  have g3c : (n != 0) = true := by simpa using g3
                  go_wp2_with fail
                  refine (HH.out _).mono ?_
                  rintro e w8 ⟨rfl, rfl⟩
                  cases hN : Em.hasN o with
                  | true =>
                    have HX3 := hide (hsn3.out (by simp [Em.okI, g1, g2, hN]))
                    clear hsn3 hnf3 hN
                    go_wp2_with fail
                    go_roundw
                    case rel => exact ⟨m + 1, by go_num, by omega, HX3.out, Keep.tr hk3 (by repeat (first | exact Keep.rf _ | assumption | apply Keep.al | apply Keep.dr | apply Keep.dn))⟩
                    case measure => simp [intOf]; omega
                  | false =>
                    have hr := hnf3.out (by simp [Em.okI, g3, hN])
                    subst hr
                    clear hnf hsn NOF YES2 hsn3 hnf3 hN
                    go_wp2_with fail
                    go_ret
                    exact ⟨rfl, Keep.tr k0x (by repeat (first | exact Keep.rf _ | assumption | apply Keep.al | apply Keep.dr | apply Keep.dn))⟩
              · have hlti3 : decide ((m : Int) < (fj.length : Int)) = false := decide_eq_false (by omega)
                have hall3 : ∀ x ∈ fj, Em.okI x = true := by
                  have := HXI.out
                  rwa [List.take_of_length_le (by omega)] at this
                have HX3 := hide (hsn.out (by
                  simp only [Em.okF, Bool.and_eq_true, decide_eq_true_eq, List.all_eq_true]
                  exact ⟨hlong, hall3⟩))
                clear hall3 hur hnf hsn
                go_wp2_with fail
                go_roundw
                case rel => exact ⟨j2 + 1, by go_num, by omega, HX3.out, Keep.tr hk hk3⟩
                case measure => simp [intOf]; omega
          · have hli : decide ((fj.length : Int) > 4000) = true := decide_eq_true (by omega)
            have hr := hnf.out (by simp [Em.okF, hlong])
            subst hr
            clear hnf hsn NOF YES2 hlong
            go_wp2_with fail
            go_ret
            exact ⟨rfl, k0w⟩
        · have hlti2 : decide ((j2 : Int) < (fs.length : Int)) = false := decide_eq_false (by omega)
          have hall : ∀ s ∈ fs, Em.okF s = true := by
            have := HX.out
            rwa [List.take_of_length_le (by omega)] at this
          have hr := YES2.out hall
          subst hr
          clear hall YES2 hfr NOF
          go_wp2_with fail
          go_ret
          exact ⟨rfl, k0w⟩
end Go.Proofs.Ytcbkklfdeloeeaa
