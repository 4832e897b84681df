/- Walks: the laws of sum return true. -/
import Derived.Test.YtonolehmhnfklaaSumW
import Derived.Test.YtonolehmhnfklaaLibP
namespace Go.Proofs.Ytonolehmhnfklaa
open Go.RowKit
set_option linter.unusedVariables false

theorem wiki : Em.adler [87, 105, 107, 105, 112, 101, 100, 105, 97] = 300286872 := by decide +kernel
theorem markNil : (((Em.mark [] : Nat) : Int) == 14695981039346656037) = true := by simp [Em.mark, Em.h0]
def Tru (w : World) (e : Ending) (w' : World) : Prop := e = .returned (.bool true) ∧ Keep w w'
set_option maxHeartbeats 1000000 in
theorem sumKnown (w : World) : Calls Try.prog 19 #[] w (Tru w) := by
  have hw := hide wiki
  have kc := fun (w : World) (C : Array Value) (n c : Nat) => Lib.run_convert_bytes_const (P := Try.prog) w 22 5 C n c Try.underlying22 Try.underlying5
  go_enter Try.func19, Try.ntmps19
  go_wp2_with (first
    | (go_at_call 15; refine (sumAdler _ [[87, 105, 107, 105, 112, 101, 100, 105, 97]] _ (Rws.one (Bs.lit _ rfl rfl rfl (by simp) (by simp)) _ (by simp))).mono ?_; rintro e w' ⟨rfl, rfl⟩; simp only [List.flatten_cons, List.flatten_nil, List.append_nil]; rw [hw.out])
    | (go_at_call 17; refine (sumMark _ [] _ (Rws.nil _)).mono ?_; rintro e w' ⟨rfl, rfl⟩))
  go_ret
  refine ⟨by rw [markNil]; rfl, ?_⟩
  exact (((Keep.rf _).al _).al _)
set_option maxHeartbeats 1000000 in
theorem SumTells_walk (w : World) (v : Value) (l : List UInt8) (h : Bs w v l) (hz : l.length ≤ 140737488351232) : Calls Try.prog 3 #[v] w (Tru w) := by
  have h0 := h
  obtain ⟨A, c, rfl, hlc, hcm, hr⟩ := h
  clear hr
  by_cases hl : l.length ≤ 3000
  · go_enter Try.func3, Try.ntmps3
    go_wp2_with (first
      | (go_at_call 15; refine (sumAdler _ [l] _ (Rws.one (h0.keep (by repeat (first | exact Keep.rf _ | apply Keep.al | apply Keep.dr | apply Keep.dn | assumption))) _ (by simp))).mono ?_; rintro e w' ⟨rfl, rfl⟩; simp only [List.flatten_cons, List.flatten_nil, List.append_nil])
      | (go_at_call 16; refine (refAdler _ l _ (h0.keep (by repeat (first | exact Keep.rf _ | apply Keep.al | apply Keep.dr | apply Keep.dn | assumption)))).mono ?_; rintro e w' ⟨rfl, rfl⟩)
      | (go_at_call 17; refine (sumMark _ [l] _ (Rws.one (h0.keep (by repeat (first | exact Keep.rf _ | apply Keep.al | apply Keep.dr | apply Keep.dn | assumption))) _ (by simp))).mono ?_; rintro e w' ⟨rfl, rfl⟩; simp only [List.flatten_cons, List.flatten_nil, List.append_nil])
      | (go_at_call 18; refine (refMark _ l _ (h0.keep (by repeat (first | exact Keep.rf _ | apply Keep.al | apply Keep.dr | apply Keep.dn | assumption)))).mono ?_; rintro e w' ⟨rfl, rfl⟩)
      | (go_at_call 19; refine (sumKnown _).mono ?_; rintro e w' ⟨rfl, hk⟩))
    go_ret
    exact ⟨rfl, Keep.tr (by repeat (first | exact Keep.rf _ | apply Keep.al | apply Keep.dr | apply Keep.dn | assumption)) hk⟩
  · go_enter Try.func3, Try.ntmps3
    go_wp2
    go_ret
    exact ⟨rfl, Keep.rf _⟩

theorem ad_and (l : List UInt8) : bits .and .u32 (Em.adler l : Int) 65535 = ((Em.ad l).1 : Int) := by
  have h := Em.adler_lt l
  rw [show (65535 : Int) = ((65535 : Nat) : Int) from rfl, u32_and_nat _ _ h (by omega), ← Em.adler_low l, show 65535 = 2 ^ 16 - 1 from rfl, Nat.and_two_pow_sub_one_eq_mod]
theorem ad_shr (l : List UInt8) : (Em.adler l : Int) / 65536 = ((Em.ad l).2 : Int) := by
  have h := Em.adler_high l
  omega
theorem ad_or (a b : Nat) (ha : a < 65521) (hb : b < 65521) : bits .or .u32 ((b : Int) * 65536) (a : Int) = ((b * 65536 + a : Nat) : Int) := by
  rw [show (b : Int) * 65536 = ((b * 65536 : Nat) : Int) from by omega, u32_or_nat _ _ (by omega) (by omega)]
  congr 1
  rw [show b * 65536 = b <<< 16 from by rw [Nat.shiftLeft_eq], Nat.shiftLeft_add_eq_or_of_lt (by omega)]
theorem next_eq (l : List UInt8) (b : UInt8) : (((Em.adler (l ++ [b]) : Nat) : Int) == bits .or .u32 ((((Em.ad l).2 : Int) + (((Em.ad l).1 : Int) + (b.toNat : Int))) % 65521 * 65536) ((((Em.ad l).1 : Int) + (b.toNat : Int)) % 65521)) = true := by
  have h1 : (((Em.ad l).2 : Int) + (((Em.ad l).1 : Int) + (b.toNat : Int))) % 65521 = (((Em.adStep (Em.ad l) b).2 : Nat) : Int) := by simp [Em.adStep]
  have h2 : (((Em.ad l).1 : Int) + (b.toNat : Int)) % 65521 = (((Em.adStep (Em.ad l) b).1 : Nat) : Int) := by simp [Em.adStep]
  have h3 := Em.adStep_lt (Em.ad l) b
  rw [h1, h2, ad_or _ _ h3.1 h3.2, beq_iff_eq]
  unfold Em.adler
  rw [Em.ad_snoc]
theorem next_mk (l : List UInt8) (b : UInt8) : (((Em.mark (l ++ [b]) : Nat) : Int) == IntKind.u64.wrap (bits .xor .u64 (Em.mark l : Int) (b.toNat : Int) * 1099511628211)) = true := by
  rw [mk_go _ _ (Em.mark_lt l), Em.mark_snoc, beq_self_eq_true]
set_option maxHeartbeats 2000000 in
theorem SumNext_walk (w : World) (v : Value) (l : List UInt8) (h : Bs w v l) (hz : l.length ≤ 140737488351232) (c : Int) (hc : (Lit.int .u8 c).wf = true) : Calls Try.prog 6 #[v, .int .u8 c] w (Tru w) := by
  have h0 := h
  obtain ⟨b, rfl⟩ := in_u8 hc
  clear hc
  obtain ⟨A, cc, rfl, hlc, hcm, hr⟩ := h
  clear hr
  by_cases hl : l.length ≤ 1000
  · have e1 := ad_and l
    have e2 := ad_shr l
    have hb := Em.ad_lt l
    have hb2 := b.toNat_lt
    have e3 := hide (next_eq l b)
    have e4 := hide (next_mk l b)
    go_enter Try.func6, Try.ntmps6
    go_wp2_with fail
    refine (sumAdler _ [l] _ (Rws.one (h0.keep (by repeat (first | exact Keep.rf _ | apply Keep.al | apply Keep.dr | apply Keep.dn | assumption))) _ (by simp))).mono ?_
    rintro e w' ⟨rfl, rfl⟩
    simp only [List.flatten_cons, List.flatten_nil, List.append_nil]
    go_wp2_with fail
    refine (sumAdler _ [l, [b]] _ (Rws.two (h0.keep (by repeat (first | exact Keep.rf _ | apply Keep.al | apply Keep.dr | apply Keep.dn | assumption))) (Bs.box rfl (by simp)) _ (by simp))).mono ?_
    rintro e w' ⟨rfl, rfl⟩
    simp only [List.flatten_cons, List.flatten_nil, List.append_nil]
    have e3' := e3.out
    clear e3
    go_wp2_with fail
    refine (sumMark _ [l, [b]] _ (Rws.two (h0.keep (by repeat (first | exact Keep.rf _ | apply Keep.al | apply Keep.dr | apply Keep.dn | assumption))) (Bs.box rfl (by simp)) _ (by simp))).mono ?_
    rintro e w' ⟨rfl, rfl⟩
    simp only [List.flatten_cons, List.flatten_nil, List.append_nil]
    go_wp2_with fail
    refine (sumMark _ [l] _ (Rws.one (h0.keep (by repeat (first | exact Keep.rf _ | apply Keep.al | apply Keep.dr | apply Keep.dn | assumption))) _ (by simp))).mono ?_
    rintro e w' ⟨rfl, rfl⟩
    simp only [List.flatten_cons, List.flatten_nil, List.append_nil]
    have e4' := e4.out
    clear e4
    go_wp2_with fail
    refine (sumKnown _).mono ?_
    rintro e w' ⟨rfl, hk⟩
    go_wp2_with fail
    go_ret
    exact ⟨rfl, Keep.tr (by repeat (first | exact Keep.rf _ | apply Keep.al | apply Keep.dr | apply Keep.dn | assumption)) hk⟩
  · go_enter Try.func6, Try.ntmps6
    go_wp2
    go_ret
    exact ⟨rfl, Keep.rf _⟩

theorem fl_one (l : List UInt8) : [l].flatten = l := by simp
set_option maxHeartbeats 2000000 in
theorem SumRows_walk (w : World) (v : Value) (ls : List (List UInt8)) (h : Rws w v ls) (hz : ∀ l ∈ ls, l.length ≤ 140737488351232) : Calls Try.prog 4 #[v] w (Tru w) := by
  have h0 := h
  obtain ⟨A, c, rfl, hlc, hcm, hr⟩ := h
  go_enter Try.func4, Try.ntmps4
  go_wp2
  go_loopw [3, 4] (fun b i W => ∃ j : Nat, j ≤ ls.length ∧ j ≤ 101 ∧ i = .int .i64 j ∧ (ls.take j).flatten.length ≤ 1000 ∧ Ob W w.heap.size 5 b (ls.take j).flatten ∧ Keep w W) (fun _ i _ => ls.length - (intOf i).toNat)
  case atStart => exact ⟨0, by omega, by omega, rfl, by simp, Ob.nil _ _ _, Keep.rf _⟩
  case round =>
    obtain ⟨j, hj, hj1, rfl, hs, ho, hk⟩ := hrel
    obtain ⟨A3, c3, rfl⟩ := ho.slice
    generalize hP : (ls.take j).flatten = P at hs ho
    have HP := hide hP
    clear hP
    by_cases hlt : j < ls.length
    · obtain ⟨ad, rfl, hcell⟩ := hr (by omega)
      obtain ⟨u, hc, hb⟩ := hcell j hlt
      have hc' := Keep.cell hk hc
      have hb' := hb.keep hk
      have hbl := hz ls[j] (List.getElem_mem hlt)
      obtain ⟨B, d, rfl, _⟩ := hb
      have hfs := hide (flat_step ls j hlt)
      clear hcell hr hc
      by_cases h100 : j ≤ 100
      · by_cases h1000 : P.length + ls[j].length ≤ 1000
        · go_wp2_with (at_builtin; refine appB rfl (.tmp 24) (.tmp 28) rfl _ _ rfl ho _ _ rfl hb' hk (by omega) ?_; intro v1 w1 ho1 hk1 hg1 hat1)
          go_roundw
          case rel => exact ⟨j + 1, by omega, by omega, by go_num, by rw [hfs.out, HP.out, List.length_append]; exact h1000, by rw [hfs.out, HP.out]; exact ho1, hk1⟩
          case measure => simp [intOf]; omega
        · go_wp2
          go_ret
          exact ⟨rfl, hk⟩
      · go_wp2
        go_ret
        exact ⟨rfl, hk⟩
    · have hall := hide (take_all ls j hj hlt)
      have hf := hide (fl_one P)
      have HP2 := hide (show ls.flatten = P from by rw [← HP.out, hall.out])
      clear HP
      clear hr
      have hr := h0.keep hk
      go_wp2_with fail
      refine (sumAdler _ ls _ hr).mono ?_
      rintro e w' ⟨rfl, rfl⟩
      rw [HP2.out]
      go_wp2_with fail
      refine (sumAdler _ [P] _ (Rws.one ho.bs _ (by first | rfl | simp))).mono ?_
      rintro e w' ⟨rfl, rfl⟩
      rw [hf.out]
      go_wp2_with fail
      refine (sumMark _ ls _ (hr.keep (by repeat (first | exact Keep.rf _ | apply Keep.al | apply Keep.dr | apply Keep.dn | assumption)))).mono ?_
      rintro e w' ⟨rfl, rfl⟩
      rw [HP2.out]
      go_wp2_with fail
      refine (sumMark _ [P] _ (Rws.one (ho.bs.keep (by repeat (first | exact Keep.rf _ | apply Keep.al | apply Keep.dr | apply Keep.dn | assumption))) _ (by first | rfl | simp))).mono ?_
      rintro e w' ⟨rfl, rfl⟩
      rw [hf.out]
      go_wp2_with fail
      refine (sumKnown _).mono ?_
      rintro e w' ⟨rfl, hk2⟩
      go_wp2_with fail
      go_ret
      exact ⟨rfl, Keep.tr (Keep.tr hk (by repeat (first | exact Keep.rf _ | apply Keep.al | apply Keep.dr | apply Keep.dn | assumption))) hk2⟩

theorem and_mask (n : Int) : bits .and .i64 n 65535 = n % 65536 := by
  show IntKind.i64.wrap ((BitVec.ofInt 64 n &&& BitVec.ofInt 64 65535).toNat : Int) = _
  have h1 : (BitVec.ofInt 64 n &&& BitVec.ofInt 64 65535).toNat = (n % 65536).toNat := by
    rw [BitVec.toNat_and, BitVec.toNat_ofInt, show (BitVec.ofInt 64 65535).toNat = 2 ^ 16 - 1 from by decide, Nat.and_two_pow_sub_one_eq_mod]
    omega
  rw [h1, IntKind.wrap_i64]
  omega
theorem xor_go (a b : UInt8) : bits .xor .u8 (a.toNat : Int) (b.toNat : Int) = ((a ^^^ b).toNat : Int) := by
  rw [u8_xor_nat _ _ a.toNat_lt b.toNat_lt, UInt8.toNat_xor]
theorem set_parts (l : List UInt8) (k : Nat) (h : k < l.length) (b : UInt8) : l = l.take k ++ l[k] :: l.drop (k + 1) ∧ l.set k b = l.take k ++ b :: l.drop (k + 1) := by
  refine ⟨?_, List.set_eq_take_append_cons_drop .. |>.trans (by rw [if_pos h])⟩
  rw [← List.drop_eq_getElem_cons h, List.take_append_drop]
theorem xor_ne (a b : UInt8) (h : b ≠ 0) : a ^^^ b ≠ a := by
  intro e
  apply h
  have := congrArg (a ^^^ ·) e
  simpa [← UInt8.xor_assoc] using this
theorem turn_ad (l : List UInt8) (k : Nat) (h : k < l.length) (b : UInt8) (hb : b ≠ 0) : (((Em.adler (l.set k (l[k] ^^^ b)) : Nat) : Int) != ((Em.adler l : Nat) : Int)) = true := by
  obtain ⟨e1, e2⟩ := set_parts l k h (l[k] ^^^ b)
  rw [bne_iff_ne]
  intro he
  have he' : Em.adler (l.set k (l[k] ^^^ b)) = Em.adler l := by omega
  rw [e2] at he'
  conv at he' => rhs; rw [e1]
  exact Em.adler_turn _ _ _ _ (xor_ne _ _ hb) he'
theorem turn_mk (l : List UInt8) (k : Nat) (h : k < l.length) (b : UInt8) (hb : b ≠ 0) : (((Em.mark (l.set k (l[k] ^^^ b)) : Nat) : Int) != ((Em.mark l : Nat) : Int)) = true := by
  obtain ⟨e1, e2⟩ := set_parts l k h (l[k] ^^^ b)
  rw [bne_iff_ne]
  intro he
  have he' : Em.mark (l.set k (l[k] ^^^ b)) = Em.mark l := by omega
  rw [e2] at he'
  conv at he' => rhs; rw [e1]
  exact Em.mark_turn _ _ _ _ (xor_ne _ _ hb) he'
set_option maxHeartbeats 2000000 in
theorem SumTurned_walk (w : World) (v : Value) (l : List UInt8) (h : Bs w v l) (hz : l.length ≤ 140737488351232) (at_ : Int) (hat : (Lit.int .i64 at_).wf = true) (c : Int) (hc : (Lit.int .u8 c).wf = true) : Calls Try.prog 5 #[v, .int .i64 at_, .int .u8 c] w (Tru w) := by
  have h0 := h
  obtain ⟨b, rfl⟩ := in_u8 hc
  have hb2 := b.toNat_lt
  clear hc
  obtain ⟨A, cc, rfl, hlc, hcm, hr⟩ := h
  clear hr
  by_cases h1 : 1 ≤ l.length
  · by_cases h2 : l.length ≤ 2000
    · by_cases h3 : b = 0
      · have h3' : ((b.toNat : Int) == 0) = true := by subst h3; rfl
        go_enter Try.func5, Try.ntmps5
        go_wp2
        go_ret
        exact ⟨rfl, Keep.rf _⟩
      · have h3' : ((b.toNat : Int) == 0) = false := by
          rw [beq_eq_false_iff_ne]
          intro e
          exact h3 (UInt8.toNat_inj.1 (by simpa using e))
        obtain ⟨k, hk, hke⟩ : ∃ k : Nat, k < l.length ∧ (at_ % 65536) % (l.length : Int) = (k : Int) := ⟨((at_ % 65536) % (l.length : Int)).toNat, by
          have := Int.emod_lt_of_pos (at_ % 65536) (show (0 : Int) < l.length by omega)
          have := Int.emod_nonneg (at_ % 65536) (show (l.length : Int) ≠ 0 by omega)
          omega, by
          have := Int.emod_nonneg (at_ % 65536) (show (l.length : Int) ≠ 0 by omega)
          omega⟩
        have em := and_mask at_
        have hnn : 0 ≤ at_ % 65536 := by omega
        obtain ⟨nb, hnb⟩ : ∃ nb : UInt8, nb = l[k] ^^^ b := ⟨_, rfl⟩
        have f1 := turn_ad l k hk b h3
        have f2 := turn_mk l k hk b h3
        have fx := xor_go l[k] b
        rw [← hnb] at f1 f2 fx
        have F1 := hide f1
        have F2 := hide f2
        clear f1 f2 hnb
        have f3 := hide (fl_one (l.set k nb))
        have f4 := hide (fl_one l)
        go_enter Try.func5, Try.ntmps5
        go_wp2_with (at_builtin; refine appB (w0 := w) rfl (.tmp 20) (.tmp 21) rfl _ [] rfl (Ob.new [] rfl rfl rfl (Nat.le_refl _) (by simp)) _ l rfl (h0.keep (by repeat (first | exact Keep.rf _ | apply Keep.al | apply Keep.dr | apply Keep.dn | assumption))) (by repeat (first | exact Keep.rf _ | apply Keep.al | apply Keep.dr | apply Keep.dn | assumption)) (by simp; omega) ?_; intro v1 w1 ho1 hk1 hg1 hat1; obtain ⟨g, cap, rfl, hcap, hgb, hgs, hcell, hfr⟩ := ho1.form (by simp; omega); have hck := hcell k (by simpa using hk); have hfk := hfr k; simp only [List.nil_append] at hck ho1 hcap; unfold bv at hck; clear hcell hfr)
        have hB1 := (ho1.set rfl k nb).bs
        have hKK := Keep.st hk1 (p := ⟨g, k, none⟩) hgb (bv nb)
        have hB2 := h0.keep hKK
        unfold bv at hB1 hKK hB2
        have hsz : (w1.setCell ⟨g, k, none⟩ (.int .u8 (nb.toNat : Int))).heap.size = w1.heap.size := by simp
        generalize w1.setCell ⟨g, k, none⟩ (.int .u8 (nb.toNat : Int)) = W1 at hB1 hB2 hKK hsz
        refine (sumAdler _ [l.set k nb] _ (Rws.one hB1 _ (by first | rfl | simp [hsz]))).mono ?_
        rintro e w' ⟨rfl, rfl⟩
        rw [f3.out]
        go_wp2_with fail
        refine (sumAdler _ [l] _ (Rws.one (hB2.keep (by repeat (first | exact Keep.rf _ | apply Keep.al | apply Keep.dr | apply Keep.dn | assumption))) _ (by first | rfl | simp [hsz]))).mono ?_
        rintro e w' ⟨rfl, rfl⟩
        rw [f4.out]
        have f1 := F1.out
        clear F1
        go_wp2_with fail
        refine (sumMark _ [l.set k nb] _ (Rws.one (hB1.keep (by repeat (first | exact Keep.rf _ | apply Keep.al | apply Keep.dr | apply Keep.dn | assumption))) _ (by first | rfl | simp [hsz]))).mono ?_
        rintro e w' ⟨rfl, rfl⟩
        rw [f3.out]
        go_wp2_with fail
        refine (sumMark _ [l] _ (Rws.one (hB2.keep (by repeat (first | exact Keep.rf _ | apply Keep.al | apply Keep.dr | apply Keep.dn | assumption))) _ (by first | rfl | simp [hsz]))).mono ?_
        rintro e w' ⟨rfl, rfl⟩
        rw [f4.out]
        have f2 := F2.out
        clear F2
        go_wp2_with fail
        refine (sumKnown _).mono ?_
        rintro e w' ⟨rfl, hk2⟩
        go_wp2_with fail
        go_ret
        exact ⟨rfl, Keep.tr (Keep.tr hKK (by repeat (first | exact Keep.rf _ | apply Keep.al | apply Keep.dr | apply Keep.dn | assumption))) hk2⟩

    · go_enter Try.func5, Try.ntmps5
      go_wp2
      go_ret
      exact ⟨rfl, Keep.rf _⟩
  · go_enter Try.func5, Try.ntmps5
    go_wp2
    go_ret
    exact ⟨rfl, Keep.rf _⟩
end Go.Proofs.Ytonolehmhnfklaa
