/- Walks: which programs may be, numbers (package code, and the reference). -/
import Derived.Test.YtcbkklfdeloeeaaCodeA
import Derived.Test.YtcbkklfdeloeeaaLibT
import Derived.Test.YtcbkklfdeloeeaaLibK
namespace Go.Proofs.Ytcbkklfdeloeeaa
open Go.RowKit
open Em (Prg)
set_option linter.unusedVariables false
set_option maxRecDepth 100000
theorem codeCount (n : Nat) (hn : n ≤ 9223372036854775807) (w : World) : Calls Try.prog 71 #[.int .i64 (n : Int)] w (RetB w (Em.putN n)) := by
  have h := hide (varPut n (by omega) w)
  go_enter Try.func71, Try.ntmps71
  go_wp2_with fail
  refine h.out.mono ?_
  rintro e w1 ⟨v, rfl, ho, hk⟩
  obtain ⟨A, c, rfl⟩ := own_slice (show w1.ownsRow _ _ _ _ _ _ from ho)
  have HO := hide ho
  clear ho
  go_wp2
  go_ret
  exact ⟨_, rfl, HO.out, hk⟩
theorem refNumber13 (n : Nat) (hn : n ≤ 9223372036854775807) (w : World) : Calls Try.prog 74 #[.int .i64 (n : Int)] w (RetB w (Em.putN n)) := by
  have h := hide (refPut n (by omega) w)
  go_enter Try.func74, Try.ntmps74
  go_wp2_with fail
  refine h.out.mono ?_
  rintro e w1 ⟨v, rfl, ho, hk⟩
  obtain ⟨A, c, rfl⟩ := own_slice (show w1.ownsRow _ _ _ _ _ _ from ho)
  have HO := hide ho
  clear ho
  go_wp2
  go_ret
  exact ⟨_, rfl, HO.out, hk⟩
theorem okP_of (p : Prg) : Em.okP p = (decide (0 ≤ p.depth) && decide (p.depth ≤ 4) && decide (p.strs.length ≤ 2000) && decide (p.funs.length ≤ 200) && !(p.strs.any fun s => decide (2000 < s.length)) && !(p.funs.any fun f => !Em.okF f)) := by
  have h1 : p.strs.all Em.okS = !(p.strs.any fun s => decide (2000 < s.length)) := by
    rw [List.not_any_eq_all_not]
    congr 1
    funext s
    unfold Em.okS
    by_cases h : s.length ≤ 2000
    · simp [h]
      try omega
    · simp [h]
      try omega
  have h2 : p.funs.all Em.okF = !(p.funs.any fun f => !Em.okF f) := by
    rw [List.not_any_eq_all_not]
    congr 1
    funext s
    simp
  rw [Em.okP, h1, h2]
set_option maxHeartbeats 4000000 in
theorem codeMay (w : World) (cs : List Value) (p : Prg) (h : PrgK w cs p) : Calls Try.prog 70 #[.agg cs.toArray] w fun e w' => e = .returned (.bool (Em.okP p)) ∧ Keep w w' := by
  have HOK := hide (okP_of p)
  obtain ⟨vf, vs, rfl, hwf, hf, hs⟩ := h
  have HS := hide fun W (k : Keep w W) => hasS 100 (enters_of Try.func100 (by kernel_rfl) rfl) W vs p.strs _ (hs.keep k fun _ _ h => h) (tellsLong W p.strs)
  have HF := hide fun W (k : Keep w W) => hasF 101 (enters_of Try.func101 (by kernel_rfl) rfl) W vf p.funs _ (hf.keep k fun _ _ h => h.keep k) (tellsOdd W p.funs)
  obtain ⟨fA, fc, rfl, hfl, hfm, _⟩ := hf
  obtain ⟨sA, sc, rfl, hsl, hsm, _⟩ := hs
  obtain ⟨dp, fs, ss⟩ := p
  simp only at *
  generalize hxs : (ss.any fun s => decide (2000 < s.length)) = xs at *
  generalize hxf : (fs.any fun f => !Em.okF f) = xf at *
  have hdb := in_i64 hwf
  by_cases h1 : 0 ≤ dp
  case neg =>
    have hr : Em.okP ⟨dp, fs, ss⟩ = false := by rw [HOK.out]; simp [h1]
    rw [hr]
    clear hr
    go_enter Try.func70, Try.ntmps70
    go_wp2_with fail
    go_ret
    exact ⟨rfl, (by repeat (first | exact Keep.rf _ | assumption | apply Keep.al | apply Keep.dr | apply Keep.dn))⟩
  by_cases h2 : dp ≤ 4
  case neg =>
    have hr : Em.okP ⟨dp, fs, ss⟩ = false := by rw [HOK.out]; simp [h2]
    rw [hr]
    clear hr
    go_enter Try.func70, Try.ntmps70
    go_wp2_with fail
    go_ret
    exact ⟨rfl, (by repeat (first | exact Keep.rf _ | assumption | apply Keep.al | apply Keep.dr | apply Keep.dn))⟩
  by_cases h3 : ss.length ≤ 2000
  case neg =>
    have hr : Em.okP ⟨dp, fs, ss⟩ = false := by rw [HOK.out]; simp [h3]
    rw [hr]
    clear hr
    go_enter Try.func70, Try.ntmps70
    go_wp2_with fail
    go_ret
    exact ⟨rfl, (by repeat (first | exact Keep.rf _ | assumption | apply Keep.al | apply Keep.dr | apply Keep.dn))⟩
  by_cases h4 : fs.length ≤ 200
  case neg =>
    have hr : Em.okP ⟨dp, fs, ss⟩ = false := by rw [HOK.out]; simp [h4]
    rw [hr]
    clear hr
    go_enter Try.func70, Try.ntmps70
    go_wp2_with fail
    go_ret
    exact ⟨rfl, (by repeat (first | exact Keep.rf _ | assumption | apply Keep.al | apply Keep.dr | apply Keep.dn))⟩
  have HR := hide (show Em.okP ⟨dp, fs, ss⟩ = (!xs && !xf) from by rw [HOK.out]; simp [h1, h2, h3, h4])
  have h3i : decide ((ss.length : Int) ≤ 2000) = true := decide_eq_true (by omega)
  have h4i : decide ((fs.length : Int) ≤ 200) = true := decide_eq_true (by omega)
  go_enter Try.func70, Try.ntmps70
  go_wp2_with fail
  have hb := heap_alloc_new w (.cells #[.int .i64 dp, .slice fA fs.length fc, .slice sA ss.length sc] 36)
  have k0 : Keep w (w.alloc (.cells #[.int .i64 dp, .slice fA fs.length fc, .slice sA ss.length sc] 36)) := (by repeat (first | exact Keep.rf _ | assumption | apply Keep.al | apply Keep.dr | apply Keep.dn))
  generalize World.alloc w _ = W1 at *
  refine (HS.out _ k0).mono ?_
  rintro e w1 ⟨rfl, k1⟩
  have hb1 := (k1.frm fun _ => False).heap (fun h => h) hb
  have c1 := top_cells hb1 1
  simp only [List.getElem?_toArray, List.getElem?_cons_succ, List.getElem?_cons_zero] at c1
  clear hb hb1
  cases xs with
  | true =>
    go_wp2_with fail
    go_ret
    rw [HOK.out]
    exact ⟨by simp, Keep.tr k0 k1⟩
  | false =>
    go_wp2_with fail
    refine (HF.out _ (Keep.tr k0 k1)).mono ?_
    rintro e w2 ⟨rfl, k2⟩
    go_wp2_with fail
    go_ret
    rw [HR.out]
    exact ⟨by simp, Keep.tr (Keep.tr k0 k1) k2⟩
end Go.Proofs.Ytcbkklfdeloeeaa
