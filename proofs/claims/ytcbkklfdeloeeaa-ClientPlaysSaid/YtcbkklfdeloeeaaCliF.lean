/- Walks: a whole frame; a reply (package server). -/
import Derived.Test.YtcbkklfdeloeeaaCliE
namespace Go.Proofs.Ytcbkklfdeloeeaa
open Go.RowKit
set_option linter.unusedVariables false
set_option maxRecDepth 100000
theorem numM_12 (l : List UInt8) : numM 12 l = (numM 2147483647 l).bind fun y => if y.1 ≤ 12 then some y else none := by
  unfold numM
  cases h : Em.getN l with
  | none => rfl
  | some y =>
    obtain ⟨v, n⟩ := y
    by_cases hv : v ≤ 12
    · have hw : v ≤ 2147483647 := by omega
      simp [hv, hw]
    · by_cases hw : v ≤ 2147483647
      · simp [hv, hw]
      · simp [hv, hw]
def ansIf (a b c : Nat) (r : List UInt8) : Option ((Nat × Nat) × Nat × List UInt8) := if c = 0 ∨ r = [] then some ((a, b), c, r) else none
theorem ans_parts (st : Option (List UInt8)) : st.bind Em.ansB = (cntT 12 (cntT 2147483647 (cntT 2147483647 st))).bind fun r => ansIf (cntW 2147483647 st) (cntW 2147483647 (cntT 2147483647 st)) (cntW 12 (cntT 2147483647 (cntT 2147483647 st))) r := by
  cases st with
  | none => rfl
  | some l =>
    unfold cntT cntW cntM Em.ansB Em.callR
    simp only [Option.bind_some, numM_31]
    cases h1 : numM 2147483647 l with
    | none => rfl
    | some x =>
      simp only [Option.bind_some, Option.map_some]
      cases h2 : numM 2147483647 x.2 with
      | none => rfl
      | some y =>
        simp only [Option.bind_some, Option.map_some, numM_12]
        cases h3 : numM 2147483647 y.2 with
        | none => rfl
        | some z =>
          simp only [Option.bind_some, ansIf]
          by_cases hz : z.1 ≤ 12
          · simp [hz]
          · simp [hz]
theorem whole_none {k : UInt8} {l : List UInt8} (h : Em.getF l = none) : Em.whole k l = none := by unfold Em.whole; rw [h]
theorem whole_no {k k' : UInt8} {l b : List UInt8} {n : Nat} (h : Em.getF l = some (k', b, n)) (hn : ¬ (k' = k ∧ n = l.length)) : Em.whole k l = none := by unfold Em.whole; rw [h]; exact if_neg hn
theorem whole_yes {k k' : UInt8} {l b : List UInt8} {n : Nat} (h : Em.getF l = some (k', b, n)) (hn : k' = k ∧ n = l.length) : Em.whole k l = some b := by unfold Em.whole; rw [h]; exact if_pos hn
/-- A reader of the call's own. -/
def RdrS (w : World) (s : Option (List UInt8)) (e : Ending) (w' : World) : Prop := ∃ p w0, e = .returned (.pointer (some ⟨p, 0, none⟩)) ∧ Keep w w0 ∧ w0.heap.size ≤ p ∧ Keep w0 w' ∧ StC 141 w0 w' p s
theorem Bs.nil0 (w : World) : Bs w (.slice none 0 0) [] := (Ob.nil w 0 0).bs
set_option maxHeartbeats 4000000 in
theorem srvWhole (k : UInt8) (v : Value) (l : List UInt8) (w : World) (h : Bs w v l) : Calls Try.prog 110 #[v, .int .u8 (k.toNat : Int)] w (RdrS w (Em.whole k l)) := by
  have HG := hide (frameGet v l w h)
  obtain ⟨A, c, rfl, hlc, hcm, hr⟩ := h
  clear hr
  cases hg : Em.getF l with
  | none =>
    rw [whole_none hg]
    have hG := hide hg
    clear hg
    go_enter Try.func110, Try.ntmps110
    go_wp2_with fail
    refine HG.out.mono ?_
    rintro e w1 ⟨hk, hm⟩
    rw [hG.out] at hm
    obtain rfl := hm
    go_wp2_with fail
    go_ret
    exact ⟨_, w1, rfl, hk, Nat.le_refl _, (by repeat (first | exact Keep.rf _ | assumption | apply Keep.al | apply Keep.dr | apply Keep.dn)), _, _, [], Bs.nil0 _, heap_alloc_new _ _⟩
  | some y =>
    obtain ⟨k', b, n⟩ := y
    have hG := hide hg
    by_cases h1 : k' = k
    · subst h1
      by_cases h2 : n = l.length
      · rw [whole_yes hg ⟨rfl, h2⟩]
        have h2' := hide h2
        clear hg h2
        go_enter Try.func110, Try.ntmps110
        go_wp2_with fail
        refine HG.out.mono ?_
        rintro e w1 ⟨hk, hm⟩
        rw [hG.out, h2'.out] at hm
        obtain ⟨u, rfl, hu⟩ := hm
        have hu' := hide hu
        obtain ⟨A1, c1, rfl, -⟩ := hu
        go_wp2_with fail
        go_ret
        exact ⟨_, w1, rfl, hk, Nat.le_refl _, (by repeat (first | exact Keep.rf _ | assumption | apply Keep.al | apply Keep.dr | apply Keep.dn)), _, _, hu'.out, heap_alloc_new _ _⟩
      · rw [whole_no hg (fun x => h2 x.2)]
        have h2i : ((n : Int) == (l.length : Int)) = false := beq_false_of_ne (by omega)
        clear hg h2
        go_enter Try.func110, Try.ntmps110
        go_wp2_with fail
        refine HG.out.mono ?_
        rintro e w1 ⟨hk, hm⟩
        rw [hG.out] at hm
        obtain ⟨u, rfl, hu⟩ := hm
        have hu' := hide hu
        obtain ⟨A1, c1, rfl, -⟩ := hu
        go_wp2_with fail
        go_ret
        exact ⟨_, w1, rfl, hk, Nat.le_refl _, (by repeat (first | exact Keep.rf _ | assumption | apply Keep.al | apply Keep.dr | apply Keep.dn)), _, _, b, hu'.out, heap_alloc_new _ _⟩
    · rw [whole_no hg (fun x => h1 x.1)]
      have h1i : ((k'.toNat : Int) == (k.toNat : Int)) = false := by
        have : k'.toNat ≠ k.toNat := fun e => h1 (UInt8.toNat_inj.1 e)
        exact beq_false_of_ne (by omega)
      clear hg h1
      go_enter Try.func110, Try.ntmps110
      go_wp2_with fail
      refine HG.out.mono ?_
      rintro e w1 ⟨hk, hm⟩
      rw [hG.out] at hm
      obtain ⟨u, rfl, hu⟩ := hm
      have hu' := hide hu
      obtain ⟨A1, c1, rfl, -⟩ := hu
      go_wp2_with fail
      go_ret
      exact ⟨_, w1, rfl, hk, Nat.le_refl _, (by repeat (first | exact Keep.rf _ | assumption | apply Keep.al | apply Keep.dr | apply Keep.dn)), _, _, b, hu'.out, heap_alloc_new _ _⟩
end Go.Proofs.Ytcbkklfdeloeeaa
