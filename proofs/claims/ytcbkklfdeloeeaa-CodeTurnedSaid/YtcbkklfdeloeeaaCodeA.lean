/- Walks: which programs may be (package code). -/
import Derived.Test.YtcbkklfdeloeeaaCodeP
import Derived.Test.YtcbkklfdeloeeaaLibK
import Derived.Test.YtcbkklfdeloeeaaReg
import Derived.Test.YtcbkklfdeloeeaaOpen3
namespace Go.Proofs.Ytcbkklfdeloeeaa
open Go.RowKit
open Em (Prg)
set_option linter.unusedVariables false
set_option maxRecDepth 100000
/-- An instruction in memory. -/
def KIns (_ : World) (cs : List Value) (x : Int × Int) : Prop := cs = [.int .i64 x.1, .int .i64 x.2] ∧ (Lit.int .i64 x.1).wf = true ∧ (Lit.int .i64 x.2).wf = true
/-- A function in memory. -/
def KFun (w : World) (cs : List Value) (f : List (Int × Int)) : Prop := ∃ v, cs = [v] ∧ Sl 2 KIns w v f
theorem KFun.keep {w w' : World} {cs : List Value} {f : List (Int × Int)} (h : KFun w cs f) (k : Keep w w') : KFun w' cs f := by
  obtain ⟨v, e, h⟩ := h
  exact ⟨v, e, h.keep k fun _ _ h => h⟩
/-- A program in memory. -/
def PrgK (w : World) (cs : List Value) (p : Prg) : Prop := ∃ vf vs, cs = [.int .i64 p.depth, vf, vs] ∧ (Lit.int .i64 p.depth).wf = true ∧ Sl 1 KFun w vf p.funs ∧ Sl 1 KS w vs p.strs
theorem PrgK.keep {w w' : World} {cs : List Value} {p : Prg} (h : PrgK w cs p) (k : Keep w w') : PrgK w' cs p := by
  obtain ⟨vf, vs, e, h1, h2, h3⟩ := h
  exact ⟨vf, vs, e, h1, h2.keep k fun _ _ h => h.keep k, h3.keep k fun _ _ h => h⟩
theorem wf_in {n : Int} (h : (Lit.int .i64 n).wf = true) : In64 n := in_i64 h
theorem codeIs (o n : Int) (w : World) : Calls Try.prog 104 #[.agg #[.int .i64 o, .int .i64 n]] w fun e w' => e = .returned (.bool (Em.okI (o, n))) ∧ Keep w w' := by
  by_cases h1 : 1 ≤ o
  · by_cases h2 : o ≤ 35
    · by_cases h3 : n = 0
      · have hI : Em.okI (o, n) = true := by simp [Em.okI, h1, h2, h3]
        have HI := hide hI
        clear hI
        subst h3
        go_enter Try.func104, Try.ntmps104
        go_wp2_with fail
        go_ret
        rw [HI.out]
        exact ⟨rfl, (by repeat (first | exact Keep.rf _ | assumption | apply Keep.al | apply Keep.dr | apply Keep.dn))⟩
      · have hI : Em.okI (o, n) = Em.hasN o := by simp [Em.okI, h1, h2, h3]
        have HI := hide hI
        have h3b : (n == 0) = false := by simpa using h3
        clear hI h3
        go_enter Try.func104, Try.ntmps104
        go_wp2_with fail
        refine (codeHasN o _).mono ?_
        rintro e w' ⟨rfl, rfl⟩
        go_wp2_with fail
        go_ret
        rw [HI.out]
        exact ⟨by simp, (by repeat (first | exact Keep.rf _ | assumption | apply Keep.al | apply Keep.dr | apply Keep.dn))⟩
    · have hI : Em.okI (o, n) = false := by simp [Em.okI, h2]
      have HI := hide hI
      clear hI
      go_enter Try.func104, Try.ntmps104
      go_wp2_with fail
      go_ret
      rw [HI.out]
      exact ⟨rfl, (by repeat (first | exact Keep.rf _ | assumption | apply Keep.al | apply Keep.dr | apply Keep.dn))⟩
  · have hI : Em.okI (o, n) = false := by simp [Em.okI, h1]
    have HI := hide hI
    clear hI
    go_enter Try.func104, Try.ntmps104
    go_wp2_with fail
    go_ret
    rw [HI.out]
    exact ⟨rfl, (by repeat (first | exact Keep.rf _ | assumption | apply Keep.al | apply Keep.dr | apply Keep.dn))⟩
/-- A function value that tells of each. -/
def TellsS (g : Nat) (w : World) (xs : List (List UInt8)) (p : List UInt8 → Bool) : Prop :=
  ∀ x ∈ xs, ∀ (W : World) (_ : Unit), Keep w W → True → Calls Try.prog g #[.string (str x)] W fun e w' => e = .returned (.bool (p x)) ∧ Keep W w'
set_option maxHeartbeats 1000000 in
theorem idxS (g : Nat) (he : Enters Try.prog g) (w : World) (v : Value) (xs : List (List UInt8)) (p : List UInt8 → Bool) (h : Sl 1 KS w v xs) (hp : TellsS g w xs p) :
    Calls Try.prog 128 #[v, .func (.func g) #[] #[]] w fun e w' => (∃ n : Int, e = .returned (.int .i64 n) ∧ decide (0 ≤ n) = xs.any p) ∧ Keep w w' := by
  obtain ⟨A, c, rfl, hlc, hcm, hr⟩ := h
  have HP := hide hp
  clear hp
  have heg : ∀ (args : Array Value) (w : World), (callFunc g args).run Try.prog w = .ok (.enter g args) w := he
  clear he
  go_enter Try.func128, Try.ntmps128
  go_wp2_with fail
  go_loopw [5, 8] (fun _ i W => ∃ (j : Nat), j ≤ xs.length ∧ i = .int .i64 j ∧ (∀ x ∈ xs.take j, p x = false) ∧ Keep w W) (fun _ i _ => xs.length - (intOf i).toNat)
  case atStart => exact ⟨0, by omega, rfl, by simp, Keep.rf _⟩
  case round =>
    obtain ⟨j, hj, rfl, hx, hk⟩ := hrel
    have HX := hide hx
    clear hx
    by_cases hlt : j < xs.length
    · obtain ⟨ad, rfl, hcell⟩ := hr (by omega)
      obtain ⟨cs, hcs, hcl, hkt⟩ := hcell j hlt
      have hkt0 := hkt
      have hmem := hide (List.getElem_mem hlt)
      have htk := hide (List.take_succ_eq_append_getElem hlt)
      generalize xs[j] = kt at *
      have hkt : cs = [.string (str kt)] := hkt
      subst hkt
      have c0 := Keep.cell hk (hcl 0 _ rfl)
      rw [Nat.add_zero, Nat.mul_one] at c0
      clear hcell hcl hr
      go_wp2_with fail
      refine (HP.out kt hmem.out _ () hk trivial).mono ?_
      rintro e w' ⟨rfl, hk2⟩
      have HK2 := hide hk2
      cases hpk : p kt with
      | true =>
        have HPK := hide hpk
        clear hpk
        go_wp2_with fail
        go_ret
        refine ⟨⟨_, rfl, ?_⟩, Keep.tr (by repeat (first | exact Keep.rf _ | assumption | apply Keep.al | apply Keep.dr | apply Keep.dn)) hk2⟩
        rw [show decide (0 ≤ (j : Int)) = true from by simp, eq_comm, List.any_eq_true]
        exact ⟨kt, hmem.out, HPK.out⟩
      | false =>
        have hon : ∀ x ∈ xs.take (j + 1), p x = false := by
          intro x hx
          rw [htk.out] at hx
          rcases List.mem_append.1 hx with hx | hx
          · exact HX.out x hx
          · rw [List.mem_singleton.1 hx]; exact hpk
        have HON := hide hon
        clear hpk hon
        go_wp2_with fail
        go_roundw
        case rel => exact ⟨j + 1, by omega, by go_num, HON.out, Keep.tr (by repeat (first | exact Keep.rf _ | assumption | apply Keep.al | apply Keep.dr | apply Keep.dn)) hk2⟩
        case measure => simp [intOf]; omega
    · go_wp2_with fail
      go_ret
      refine ⟨⟨_, rfl, ?_⟩, hk⟩
      have h1 : xs.take j = xs := List.take_of_length_le (by omega)
      have h2 := HX.out
      rw [h1] at h2
      rw [show decide (0 ≤ (-1 : Int)) = false from rfl, eq_comm, List.any_eq_false]
      intro x hx
      simp [h2 x hx]
theorem hasS (g : Nat) (he : Enters Try.prog g) (w : World) (v : Value) (xs : List (List UInt8)) (p : List UInt8 → Bool) (h : Sl 1 KS w v xs) (hp : TellsS g w xs p) :
    Calls Try.prog 105 #[v, .func (.func g) #[] #[]] w fun e w' => e = .returned (.bool (xs.any p)) ∧ Keep w w' := by
  have H := idxS g he w v xs p h hp
  obtain ⟨A, c, rfl, _⟩ := h
  clear hp he
  go_enter Try.func105, Try.ntmps105
  go_wp2_with fail
  refine H.mono ?_
  rintro e w' ⟨⟨n, rfl, hn⟩, hk⟩
  have HN := hide hn
  clear hn
  go_wp2
  go_ret
  exact ⟨by rw [← HN.out]; rfl, hk⟩
/-- A function value that tells of each. -/
def TellsF (g : Nat) (w : World) (xs : List (List (Int × Int))) (p : List (Int × Int) → Bool) : Prop :=
  ∀ x ∈ xs, ∀ (W : World) (u : Value), Keep w W → Sl 2 KIns W u x → Calls Try.prog g #[u] W fun e w' => e = .returned (.bool (p x)) ∧ Keep W w'
set_option maxHeartbeats 1000000 in
theorem idxF (g : Nat) (he : Enters Try.prog g) (w : World) (v : Value) (xs : List (List (Int × Int))) (p : List (Int × Int) → Bool) (h : Sl 1 KFun w v xs) (hp : TellsF g w xs p) :
    Calls Try.prog 129 #[v, .func (.func g) #[] #[]] w fun e w' => (∃ n : Int, e = .returned (.int .i64 n) ∧ decide (0 ≤ n) = xs.any p) ∧ Keep w w' := by
  obtain ⟨A, c, rfl, hlc, hcm, hr⟩ := h
  have HP := hide hp
  clear hp
  have heg : ∀ (args : Array Value) (w : World), (callFunc g args).run Try.prog w = .ok (.enter g args) w := he
  clear he
  go_enter Try.func129, Try.ntmps129
  go_wp2_with fail
  go_loopw [5, 8] (fun _ i W => ∃ (j : Nat), j ≤ xs.length ∧ i = .int .i64 j ∧ (∀ x ∈ xs.take j, p x = false) ∧ Keep w W) (fun _ i _ => xs.length - (intOf i).toNat)
  case atStart => exact ⟨0, by omega, rfl, by simp, Keep.rf _⟩
  case round =>
    obtain ⟨j, hj, rfl, hx, hk⟩ := hrel
    have HX := hide hx
    clear hx
    by_cases hlt : j < xs.length
    · obtain ⟨ad, rfl, hcell⟩ := hr (by omega)
      obtain ⟨cs, hcs, hcl, hkt⟩ := hcell j hlt
      have hkt0 := hkt
      have hmem := hide (List.getElem_mem hlt)
      have htk := hide (List.take_succ_eq_append_getElem hlt)
      generalize xs[j] = kt at *
      obtain ⟨u, rfl, hu⟩ := hkt
      have c0 := Keep.cell hk (hcl 0 _ rfl)
      rw [Nat.add_zero, Nat.mul_one] at c0
      have hu0 := hide hu
      obtain ⟨uA, uc, rfl, _⟩ := hu
      clear hcell hcl hr
      go_wp2_with fail
      refine (HP.out kt hmem.out _ _ hk (hu0.out.keep hk fun _ _ h => h)).mono ?_
      rintro e w' ⟨rfl, hk2⟩
      have HK2 := hide hk2
      cases hpk : p kt with
      | true =>
        have HPK := hide hpk
        clear hpk
        go_wp2_with fail
        go_ret
        refine ⟨⟨_, rfl, ?_⟩, Keep.tr (by repeat (first | exact Keep.rf _ | assumption | apply Keep.al | apply Keep.dr | apply Keep.dn)) hk2⟩
        rw [show decide (0 ≤ (j : Int)) = true from by simp, eq_comm, List.any_eq_true]
        exact ⟨kt, hmem.out, HPK.out⟩
      | false =>
        have hon : ∀ x ∈ xs.take (j + 1), p x = false := by
          intro x hx
          rw [htk.out] at hx
          rcases List.mem_append.1 hx with hx | hx
          · exact HX.out x hx
          · rw [List.mem_singleton.1 hx]; exact hpk
        have HON := hide hon
        clear hpk hon
        go_wp2_with fail
        go_roundw
        case rel => exact ⟨j + 1, by omega, by go_num, HON.out, Keep.tr (by repeat (first | exact Keep.rf _ | assumption | apply Keep.al | apply Keep.dr | apply Keep.dn)) hk2⟩
        case measure => simp [intOf]; omega
    · go_wp2_with fail
      go_ret
      refine ⟨⟨_, rfl, ?_⟩, hk⟩
      have h1 : xs.take j = xs := List.take_of_length_le (by omega)
      have h2 := HX.out
      rw [h1] at h2
      rw [show decide (0 ≤ (-1 : Int)) = false from rfl, eq_comm, List.any_eq_false]
      intro x hx
      simp [h2 x hx]
theorem hasF (g : Nat) (he : Enters Try.prog g) (w : World) (v : Value) (xs : List (List (Int × Int))) (p : List (Int × Int) → Bool) (h : Sl 1 KFun w v xs) (hp : TellsF g w xs p) :
    Calls Try.prog 106 #[v, .func (.func g) #[] #[]] w fun e w' => e = .returned (.bool (xs.any p)) ∧ Keep w w' := by
  have H := idxF g he w v xs p h hp
  obtain ⟨A, c, rfl, _⟩ := h
  clear hp he
  go_enter Try.func106, Try.ntmps106
  go_wp2_with fail
  refine H.mono ?_
  rintro e w' ⟨⟨n, rfl, hn⟩, hk⟩
  have HN := hide hn
  clear hn
  go_wp2
  go_ret
  exact ⟨by rw [← HN.out]; rfl, hk⟩
/-- A function value that tells of each. -/
def TellsI (g : Nat) (w : World) (xs : List (Int × Int)) (p : Int × Int → Bool) : Prop :=
  ∀ x ∈ xs, ∀ (W : World) (_ : Unit), Keep w W → True → Calls Try.prog g #[.agg #[.int .i64 x.1, .int .i64 x.2]] W fun e w' => e = .returned (.bool (p x)) ∧ Keep W w'
set_option maxHeartbeats 1000000 in
theorem idxI (g : Nat) (he : Enters Try.prog g) (w : World) (v : Value) (xs : List (Int × Int)) (p : Int × Int → Bool) (h : Sl 2 KIns w v xs) (hp : TellsI g w xs p) :
    Calls Try.prog 127 #[v, .func (.func g) #[] #[]] w fun e w' => (∃ n : Int, e = .returned (.int .i64 n) ∧ decide (0 ≤ n) = xs.any p) ∧ Keep w w' := by
  obtain ⟨A, c, rfl, hlc, hcm, hr⟩ := h
  have HP := hide hp
  clear hp
  have heg : ∀ (args : Array Value) (w : World), (callFunc g args).run Try.prog w = .ok (.enter g args) w := he
  clear he
  go_enter Try.func127, Try.ntmps127
  go_wp2_with fail
  go_loopw [5, 8] (fun _ i W => ∃ (j : Nat), j ≤ xs.length ∧ i = .int .i64 j ∧ (∀ x ∈ xs.take j, p x = false) ∧ Keep w W) (fun _ i _ => xs.length - (intOf i).toNat)
  case atStart => exact ⟨0, by omega, rfl, by simp, Keep.rf _⟩
  case round =>
    obtain ⟨j, hj, rfl, hx, hk⟩ := hrel
    have HX := hide hx
    clear hx
    by_cases hlt : j < xs.length
    · obtain ⟨ad, rfl, hcell⟩ := hr (by omega)
      obtain ⟨cs, hcs, hcl, hkt⟩ := hcell j hlt
      have hkt0 := hkt
      have hmem := hide (List.getElem_mem hlt)
      have htk := hide (List.take_succ_eq_append_getElem hlt)
      generalize xs[j] = kt at *
      obtain ⟨rfl, -, -⟩ := hkt
      have c0 := Keep.cell hk (hcl 0 _ rfl)
      rw [Nat.add_zero] at c0
      have c1 := cell_off (Keep.cell hk (hcl 1 _ rfl))
      clear hcell hcl hr
      go_wp2_with fail
      refine (HP.out kt hmem.out _ () hk trivial).mono ?_
      rintro e w' ⟨rfl, hk2⟩
      have HK2 := hide hk2
      cases hpk : p kt with
      | true =>
        have HPK := hide hpk
        clear hpk
        go_wp2_with fail
        go_ret
        refine ⟨⟨_, rfl, ?_⟩, Keep.tr (by repeat (first | exact Keep.rf _ | assumption | apply Keep.al | apply Keep.dr | apply Keep.dn)) hk2⟩
        rw [show decide (0 ≤ (j : Int)) = true from by simp, eq_comm, List.any_eq_true]
        exact ⟨kt, hmem.out, HPK.out⟩
      | false =>
        have hon : ∀ x ∈ xs.take (j + 1), p x = false := by
          intro x hx
          rw [htk.out] at hx
          rcases List.mem_append.1 hx with hx | hx
          · exact HX.out x hx
          · rw [List.mem_singleton.1 hx]; exact hpk
        have HON := hide hon
        clear hpk hon
        go_wp2_with fail
        go_roundw
        case rel => exact ⟨j + 1, by omega, by go_num, HON.out, Keep.tr (by repeat (first | exact Keep.rf _ | assumption | apply Keep.al | apply Keep.dr | apply Keep.dn)) hk2⟩
        case measure => simp [intOf]; omega
    · go_wp2_with fail
      go_ret
      refine ⟨⟨_, rfl, ?_⟩, hk⟩
      have h1 : xs.take j = xs := List.take_of_length_le (by omega)
      have h2 := HX.out
      rw [h1] at h2
      rw [show decide (0 ≤ (-1 : Int)) = false from rfl, eq_comm, List.any_eq_false]
      intro x hx
      simp [h2 x hx]
theorem hasI (g : Nat) (he : Enters Try.prog g) (w : World) (v : Value) (xs : List (Int × Int)) (p : Int × Int → Bool) (h : Sl 2 KIns w v xs) (hp : TellsI g w xs p) :
    Calls Try.prog 102 #[v, .func (.func g) #[] #[]] w fun e w' => e = .returned (.bool (xs.any p)) ∧ Keep w w' := by
  have H := idxI g he w v xs p h hp
  obtain ⟨A, c, rfl, _⟩ := h
  clear hp he
  go_enter Try.func102, Try.ntmps102
  go_wp2_with fail
  refine H.mono ?_
  rintro e w' ⟨⟨n, rfl, hn⟩, hk⟩
  have HN := hide hn
  clear hn
  go_wp2
  go_ret
  exact ⟨by rw [← HN.out]; rfl, hk⟩
theorem tellsLong (w : World) (ss : List (List UInt8)) : TellsS 100 w ss fun s => decide (2000 < s.length) := by
  intro s hs W _ k _
  have hz := str_size s
  go_enter Try.func100, Try.ntmps100
  go_wp2_with fail
  go_ret
  exact ⟨by simp [hz] <;> omega, (by repeat (first | exact Keep.rf _ | assumption | apply Keep.al | apply Keep.dr | apply Keep.dn))⟩
theorem tellsOddI (w : World) (f : List (Int × Int)) : TellsI 103 w f fun x => !Em.okI x := by
  intro x hx W _ k _
  obtain ⟨o, n⟩ := x
  go_enter Try.func103, Try.ntmps103
  go_wp2_with fail
  refine (codeIs o n _).mono ?_
  rintro e w' ⟨rfl, hk⟩
  go_wp2_with fail
  go_ret
  exact ⟨rfl, Keep.tr (by repeat (first | exact Keep.rf _ | assumption | apply Keep.al | apply Keep.dr | apply Keep.dn)) hk⟩
theorem tellsOdd (w : World) (fs : List (List (Int × Int))) : TellsF 101 w fs fun f => !Em.okF f := by
  intro f hf W u k hu
  have hO : (!Em.okF f) = (decide (4000 < f.length) || f.any fun x => !Em.okI x) := by
    rw [Em.okF, Bool.not_and, ← List.not_all_eq_any_not]
    congr 1
    by_cases h : f.length ≤ 4000
    · simp [h]
      try omega
    · simp [h]
      try omega
  have HO := hide hO
  have H := hide fun W' (k : Keep W W') => hasI 103 (enters_of Try.func103 (by kernel_rfl) rfl) W' u f _ (hu.keep k fun _ _ h => h) (tellsOddI W' f)
  obtain ⟨A, c, rfl, _⟩ := hu
  by_cases h4 : 4000 < f.length
  · go_enter Try.func101, Try.ntmps101
    go_wp2_with fail
    go_ret
    exact ⟨by simp only [HO.out]; simp [h4], (by repeat (first | exact Keep.rf _ | assumption | apply Keep.al | apply Keep.dr | apply Keep.dn))⟩
  · go_enter Try.func101, Try.ntmps101
    go_wp2_with fail
    refine (H.out _ (by repeat (first | exact Keep.rf _ | assumption | apply Keep.al | apply Keep.dr | apply Keep.dn))).mono ?_
    rintro e w' ⟨rfl, hk⟩
    go_wp2_with fail
    go_ret
    have h5 : ¬ (4000 < (f.length : Int)) := by omega
    exact ⟨by simp only [HO.out]; simp [h4, h5], hk⟩
end Go.Proofs.Ytcbkklfdeloeeaa
