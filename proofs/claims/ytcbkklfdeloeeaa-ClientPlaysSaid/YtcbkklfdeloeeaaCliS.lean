/- Plain facts of client: requests of small numbers, replies that were put. Walk: known() of law 26. -/
import Derived.Test.YtcbkklfdeloeeaaCliR
import Derived.Test.YtcbkklfdeloeeaaCliN
import Derived.Test.YtcbkklfdeloeeaaLibC
namespace Go.Proofs.Ytcbkklfdeloeeaa
open Go.RowKit
set_option linter.unusedVariables false
set_option maxRecDepth 100000
namespace Em
theorem num31_small {v : Nat} (h : v < 128) (t : List UInt8) : num31 (UInt8.ofNat v :: t) = some (v, t) := by
  have hg := get_put (v := v) (by omega) t
  rw [putN_small h] at hg
  unfold num31
  rw [show UInt8.ofNat v :: t = [UInt8.ofNat v] ++ t from rfl, hg]
  simp only [List.length_cons, List.length_nil]
  rw [if_pos (by omega)]
  rfl
theorem ans_frame (b : List UInt8) (h : b.length ≤ 4000) : ans (frame 2 b) = ansB b := by
  have hg := getF_put 2 b [] h
  rw [List.append_nil] at hg
  unfold ans whole
  rw [hg]
  simp
theorem ansB_small (e s x : Nat) (l : List UInt8) (he : e < 128) (hs : s < 128) (hx : x < 128) : ansB (UInt8.ofNat e :: UInt8.ofNat s :: UInt8.ofNat x :: l) = if x ≤ 12 ∧ (x = 0 ∨ l = []) then some ((e, s), x, l) else none := by
  unfold ansB callR
  rw [num31_small he, Option.bind_some, num31_small hs, Option.bind_some, Option.bind_some, num31_small hx, Option.bind_some]
theorem req_small (e s m : Nat) (l : List UInt8) (he : e ≤ 1000000) (hs : s ≤ 1000000) (hl : l.length ≤ 1000) : req (e : Int) (s : Int) m l = some (frame 1 (reqB e s m l)) := by
  have h1 := putN_len10 (v := e) (by omega)
  have h2 := putN_len10 (v := s) (by omega)
  have hc : isC (e : Int) (s : Int) = true := by
    unfold isC
    rw [decide_eq_true (by omega), decide_eq_true (by omega), decide_eq_true (by omega), decide_eq_true (by omega)]
    rfl
  unfold req
  simp only [Int.toNat_natCast]
  rw [if_pos ⟨hc, by unfold reqB; simp only [List.length_append, be8_len]; omega⟩]
end Em
theorem callO_small (c : Cl) (l : List UInt8) (hp : c.p = false) (he : c.e ≤ 1000000) (hs : c.s < 1000000) (hl : l.length ≤ 1000) : callO c l = some (Em.frame 1 (Em.reqB c.e (c.s + 1) c.m l)) := by
  unfold callO
  rw [hp, if_neg (by simp)]
  exact Em.req_small c.e (c.s + 1) c.m l he (by omega) hl
theorem callO_pos {c : Cl} {l q : List UInt8} (h : callO c l = some q) : 0 < q.length := by
  unfold callO at h
  split at h
  · cases h
  · unfold Em.req at h
    split at h
    · cases h
      rw [Em.frame_len]
      omega
    · cases h
theorem Bs.cl {tt : Nat} {w w' : World} {p : Nat} {c : Cl} {v : Value} {l : List UInt8} (h : Bs w v l) (F : Frm (· = p) w w') (hc : CRep tt w p c) : Bs w' v l := by
  obtain ⟨A, k, h1, -⟩ := hc
  exact h.away F h1 (cl_noB c A k)
theorem Keep.cl {w0 w w' : World} {p : Nat} (k : Keep w0 w) (F : Frm (· = p) w w') (hp : w0.heap.size ≤ p) : Keep w0 w' := F.keep k fun i e => by have e : i = p := e; omega
theorem tickC_of (c : Cl) (h : c.p = true) : tickC c = { c with n := c.n + 1 } := if_pos h
theorem tickO_no (c : Cl) (h : (c.n + 1) % 3 ≠ 0) : tickO c = none := if_neg fun g => h g.2
theorem tickO_yes (c : Cl) (hp : c.p = true) (h : (c.n + 1) % 3 = 0) : tickO c = some c.b := if_pos ⟨hp, h⟩
set_option maxHeartbeats 8000000 in
theorem law26Known (w : World) : Calls Try.prog 38 #[] w fun e w' => e = .returned (.bool true) ∧ Keep w w' := by
  go_enter Try.func38, Try.ntmps38
  go_wp2_with fail
  refine (cliNew 7 w).mono ?_
  rintro e w1 ⟨rfl, k1, r1⟩
  have kc := fun (C : Array Value) (n c : Nat) => run_conv_const (P := Try.prog) w1 w1.heap.size rfl 29 5 C n c Try.underlying29 Try.underlying5
  go_wp2_with fail
  clear kc
  have k2 : Keep w1 (w1.alloc (.cells #[.int .u8 97] 5 (1, 2))) := (by repeat (first | exact Keep.rf _ | assumption | apply Keep.al | apply Keep.dr | apply Keep.dn))
  have hb2 : Bs (w1.alloc (.cells #[.int .u8 97] 5 (1, 2))) (.slice (some ⟨w1.heap.size, 0, none⟩) 1 1) [97] := Bs.lit [97] rfl rfl rfl (by simp) (by omega)
  have r2 := r1.keep k2
  have k02 := Keep.tr k1 k2
  obtain ⟨q, hq⟩ : ∃ q, callO ⟨7, 0, 0, false, [], 0⟩ [97] = some q := ⟨_, callO_small _ _ rfl (by simp) (by simp) (by simp)⟩
  have hql := req_len (show Em.req _ _ _ _ = some q from by unfold callO at hq; rw [if_neg (by simp)] at hq; exact hq)
  have hq0 := callO_pos hq
  generalize World.alloc w1 _ = W2 at *
  refine (cliCall_free W2 _ _ rfl (by simp) (by simp) _ [97] hb2 (by simp) r2).mono ?_
  intro e w3 R
  rw [callC_some hq, hq] at R
  obtain ⟨F3, r3, A3, n3, c3, rfl, hb3⟩ := R
  have k03 := k02.cl F3 (Nat.le_refl _)
  clear F3 hb2 r2 k2 k02 r1 k1 hq
  go_wp2_with fail
  refine (cliTick w3 _ _ (by simp [calledC]) (by simpa [calledC] using hql) r3).mono ?_
  intro e w4 R
  rw [tickC_of _ rfl, tickO_no _ (by simp [calledC])] at R
  obtain ⟨F4, r4, rfl⟩ := R
  have k04 := k03.cl F4 (Nat.le_refl _)
  have hb4 := hb3.cl F4 r3
  clear F4 hb3 r3 k03
  go_wp2_with fail
  refine (cliTick w4 _ _ (by simp [calledC]) (by simpa [calledC] using hql) r4).mono ?_
  intro e w5 R
  rw [tickC_of _ rfl, tickO_no _ (by simp [calledC])] at R
  obtain ⟨F5, r5, rfl⟩ := R
  have k05 := k04.cl F5 (Nat.le_refl _)
  have hb5 := hb4.cl F5 r4
  clear F5 hb4 r4 k04
  go_wp2_with fail
  refine (cliTick w5 _ _ (by simp [calledC]) (by simpa [calledC] using hql) r5).mono ?_
  intro e w6 R
  rw [tickO_yes _ rfl (by simp [calledC])] at R
  obtain ⟨F6, -, A6, n6, c6, rfl, hb6⟩ := R
  have k06 := k05.cl F6 (Nat.le_refl _)
  have hb36 := hb5.cl F6 r5
  rw [show (({ ({ (calledC ⟨7, 0, 0, false, [], 0⟩ q) with n := (calledC ⟨7, 0, 0, false, [], 0⟩ q).n + 1 } : Cl) with n := (calledC ⟨7, 0, 0, false, [], 0⟩ q).n + 1 + 1 } : Cl)).b = q from rfl] at hb6
  clear F6 hb5 r5 k05
  have hcA := run_conv_bs (P := Try.prog) hb36 29 5 9 Try.underlying29 Try.underlying5 Try.underlying9
  have hcB := run_conv_bs (P := Try.prog) hb6 29 5 9 Try.underlying29 Try.underlying5 Try.underlying9
  have hss : ((str q).toList == (str q).toList) = true := by simp
  obtain rfl : n3 = q.length := by obtain ⟨_, _, e, _⟩ := hb36; cases e; rfl
  clear hb6 hb36
  go_wp2_with fail
  go_ret
  exact ⟨rfl, k06⟩
end Go.Proofs.Ytcbkklfdeloeeaa
