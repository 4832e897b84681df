/- Plain, and walks: the Ops' bytes, and where an Op stands among them (package mark). -/
import Derived.Test.YtcbkklfdeloeeaaTyL
import Derived.Test.YtcbkklfdeloeeaaVarW
namespace Go.Proofs.Ytcbkklfdeloeeaa
open Go.RowKit
open Em (Ty)
set_option linter.unusedVariables false
set_option maxRecDepth 100000
namespace Em
def sIdx (l : List (List UInt8)) (o : List UInt8) : Int := match l.idxOf? o with
  | some i => (i : Int)
  | none => -1
def opsL : List (List UInt8) := [[], wInt, wBool, wUnit, wString, wCell, wList, wRef, wPair, wFun, wVar]
def opI (o : List UInt8) : Int := sIdx opsL o
mutual
/-- A type's bytes, as it is. -/
def mput : Ty → List UInt8
  | .mk o n ks => UInt8.ofNat (opI o % 256).toNat :: ((if o = wVar then putN (n % 18446744073709551616).toNat else []) ++ mputL ks)
def mputL : List Ty → List UInt8
  | [] => []
  | k :: ks => mput k ++ mputL ks
end
end Em
theorem sIdx_at {l : List (List UInt8)} {n : List UInt8} {j : Nat} (hj : j < l.length) (h : ∀ x ∈ l.take j, x ≠ n) (e : l[j] = n) : Em.sIdx l n = (j : Int) := by
  unfold Em.sIdx
  have : l.idxOf? n = some j := by
    rw [List.idxOf?, List.findIdx?_eq_some_iff_getElem]
    refine ⟨hj, by simpa using e, fun i hi => ?_⟩
    have := h l[i] (by rw [List.mem_take_iff_getElem]; exact ⟨i, by omega, rfl⟩)
    simpa using this
  rw [this]
theorem sIdx_no {l : List (List UInt8)} {n : List UInt8} (h : ∀ x ∈ l, x ≠ n) : Em.sIdx l n = -1 := by
  unfold Em.sIdx
  have : l.idxOf? n = none := by
    rw [List.idxOf?_eq_none_iff]
    exact fun hm => h n hm rfl
  rw [this]
theorem sIdx_in (l : List (List UInt8)) (o : List UInt8) : -1 ≤ Em.sIdx l o ∧ Em.sIdx l o < l.length ∨ Em.sIdx l o = -1 := by
  unfold Em.sIdx
  cases h : l.idxOf? o with
  | none => exact .inr rfl
  | some i =>
    have : i < l.length := by
      rw [List.idxOf?, List.findIdx?_eq_some_iff_getElem] at h
      exact h.1
    exact .inl ⟨by simp only; omega, by simpa using this⟩
def KS (_ : World) (cs : List Value) (s : List UInt8) : Prop := cs = [.string (str s)]
set_option maxHeartbeats 1000000 in
theorem strIndex (w : World) (v : Value) (l : List (List UInt8)) (o : List UInt8) (h : Sl 1 KS w v l) : Calls Try.prog 91 #[v, .string (str o)] w fun e w' => e = .returned (.int .i64 (Em.sIdx l o)) ∧ Keep w w' := by
  obtain ⟨A, c, rfl, hlc, hcm, hr⟩ := h
  go_enter Try.func91, Try.ntmps91
  go_wp2
  go_loopw [5, 8] (fun _ i W => ∃ k : Nat, k ≤ l.length ∧ i = .int .i64 k ∧ (∀ x ∈ l.take k, x ≠ o) ∧ Keep w W) (fun _ i _ => l.length - (intOf i).toNat)
  case atStart => exact ⟨0, Nat.zero_le _, rfl, by simp, Keep.rf _⟩
  case round =>
    obtain ⟨k, hk, rfl, hp, hkw⟩ := hrel
    have hP := hide hp
    clear hp
    by_cases hlt : k < l.length
    · obtain ⟨ad, rfl, hcell⟩ := hr (by omega)
      obtain ⟨cs, hcs, hcl, hkt⟩ := hcell k hlt
      have hkt : cs = [.string (str l[k])] := hkt
      subst hkt
      have c0 := Keep.cell hkw (hcl 0 _ rfl)
      rw [Nat.add_zero, Nat.mul_one] at c0
      clear hcell hr hcl
      by_cases hx : l[k] = o
      · have hf := hide (sIdx_at hlt hP.out hx)
        have hxb : ((str o).toList == (str l[k]).toList) = true := by rw [hx]; simp
        clear hx
        generalize l[k] = lk at *
        go_wp2
        go_ret
        exact ⟨ret_int (by rw [hf.out]), hkw⟩
      · have hxb : ((str o).toList == (str l[k]).toList) = false := by
          rw [str_lbeq]
          exact decide_eq_false fun e => hx e.symm
        have hn : ∀ x ∈ l.take (k + 1), x ≠ o := by
          intro x hm
          rw [List.take_succ_eq_append_getElem hlt] at hm
          rcases List.mem_append.1 hm with hm | hm
          · exact hP.out x hm
          · rw [List.mem_singleton.1 hm]; exact hx
        have HN := hide hn
        clear hx hn
        generalize l[k] = lk at *
        go_wp2
        go_round
        case rel => exact ⟨k + 1, by omega, by go_num, HN.out, hkw⟩
        case measure => simp [intOf]; omega
    · have hf := hide (sIdx_no (l := l) (n := o) (by have := hP.out; rwa [List.take_of_length_le (by omega)] at this))
      go_wp2
      go_ret
      exact ⟨ret_int (by rw [hf.out]), hkw⟩
abbrev encS (s : List UInt8) : List Value := [.string (str s)]
theorem markOps (w : World) : Calls Try.prog 92 #[] w fun e w' => ∃ A c, e = .returned (.slice A 11 c) ∧ Sl 1 KS w' (.slice A 11 c) Em.opsL ∧ Keep w w' := by
  go_enter Try.func92, Try.ntmps92
  go_wp2
  go_ret
  exact ⟨_, _, rfl, sl_lit encS Em.opsL rfl rfl rfl (fun _ => rfl) (by simp) (fun a ha => rfl), (by repeat (first | exact Keep.rf _ | assumption | apply Keep.al | apply Keep.dr | apply Keep.dn))⟩
theorem refOps12 (w : World) : Calls Try.prog 117 #[] w fun e w' => ∃ A c, e = .returned (.slice A 11 c) ∧ Sl 1 KS w' (.slice A 11 c) Em.opsL ∧ Keep w w' := by
  go_enter Try.func117, Try.ntmps117
  go_wp2
  go_ret
  exact ⟨_, _, rfl, sl_lit encS Em.opsL rfl rfl rfl (fun _ => rfl) (by simp) (fun a ha => rfl), (by repeat (first | exact Keep.rf _ | assumption | apply Keep.al | apply Keep.dr | apply Keep.dn))⟩
mutual
theorem mput_len (t : Ty) : (Em.mput t).length ≤ 11 * nodes t := by
  cases t with
  | mk o n ks =>
    have h1 := mputL_len ks
    have h2 : (if o = Em.wVar then Em.putN (n % 18446744073709551616).toNat else []).length ≤ 10 := by
      split
      · exact Em.putN_len10 (by omega)
      · simp
    rw [Em.mput, nodes, List.length_cons, List.length_append]
    omega
theorem mputL_len (ks : List Ty) : (Em.mputL ks).length ≤ 11 * nodesL ks := by
  cases ks with
  | nil => simp [Em.mputL]
  | cons k ks =>
    have h1 := mput_len k
    have h2 := mputL_len ks
    rw [Em.mputL, nodesL, List.length_append]
    omega
end
end Go.Proofs.Ytcbkklfdeloeeaa
