/- The law CodeTurned: walk. -/
import Derived.Test.YtcbkklfdeloeeaaCodeU
namespace Go.Proofs.Ytcbkklfdeloeeaa
open Go.RowKit
open Em (Prg)
set_option linter.unusedVariables false
set_option maxRecDepth 100000
theorem and_low (n : Int) : ∃ m : Nat, m ≤ 65535 ∧ bits .and .i64 n 65535 = (m : Int) := by
  refine ⟨(BitVec.ofInt 64 n &&& BitVec.ofInt 64 65535).toNat, ?_, ?_⟩
  · rw [BitVec.toNat_and]
    exact Nat.le_trans Nat.and_le_right (by decide)
  · have h : (BitVec.ofInt 64 n &&& BitVec.ofInt 64 65535).toNat ≤ 65535 := by
      rw [BitVec.toNat_and]
      exact Nat.le_trans Nat.and_le_right (by decide)
    show IntKind.i64.wrap ((BitVec.ofInt 64 n &&& BitVec.ofInt 64 65535).toNat : Int) = _
    rw [IntKind.wrap_i64]
    generalize (BitVec.ofInt 64 n &&& BitVec.ofInt 64 65535).toNat = m at h
    omega
theorem putP_len (p : Prg) (h : Em.okP p = true) (hx : PrgIn p) : (Em.putP p).length ≤ 13000000 := by
  simp only [Em.okP, Bool.and_eq_true, decide_eq_true_eq, List.all_eq_true] at h
  obtain ⟨⟨⟨⟨⟨h1, h2⟩, h3⟩, h4⟩, h5⟩, h6⟩ := h
  have a1 := flatMap_len Em.putS 2010 p.strs fun s hs => putS_len s (by have := h5 s hs; simpa [Em.okS] using this)
  have a2 := flatMap_len Em.putF 44010 p.funs fun f hf => putF_len f (by have := h6 f hf; simp only [Em.okF, Bool.and_eq_true, decide_eq_true_eq] at this; exact this.1) (hx f hf)
  have b1 := Em.putN_len10 (v := p.depth.toNat) (by omega)
  have b2 := Em.putN_len10 (v := p.strs.length) (by omega)
  have b3 := Em.putN_len10 (v := p.funs.length) (by omega)
  have c1 : p.strs.length * 2010 ≤ 2000 * 2010 := Nat.mul_le_mul_right _ h3
  have c2 : p.funs.length * 44010 ≤ 200 * 44010 := Nat.mul_le_mul_right _ h4
  simp only [Em.putP, List.length_append]
  omega
set_option maxHeartbeats 16000000 in
theorem CodeTurned_walk (w : World) (v : Value) (p : Prg) (h : PrgV w v p) (_ : True) (at_ : Int) (hat : (Lit.int .i64 at_).wf = true) (c : Int) (hc : (Lit.int .u8 c).wf = true) (way : Int) (hway : (Lit.int .i64 way).wf = true) :
    Calls Try.prog 6 #[v, .int .i64 at_, .int .u8 c, .int .i64 way] w fun e w' => e = .returned (.bool true) ∧ Keep w w' := by
  obtain ⟨cs, rfl, h⟩ := h
  obtain ⟨c, rfl⟩ := in_u8 hc
  have hin := h.inn
  have HP := hide h
  obtain ⟨vf, vs, rfl, hwf, ⟨fA, fc, rfl, _⟩, ⟨sA, sc, rfl, _⟩⟩ := h
  have hb := heap_alloc_new w (.cells #[.int .i64 p.depth, .slice fA p.funs.length fc, .slice sA p.strs.length sc] 36)
  have k0 : Keep w (w.alloc (.cells #[.int .i64 p.depth, .slice fA p.funs.length fc, .slice sA p.strs.length sc] 36)) := (by repeat (first | exact Keep.rf _ | assumption | apply Keep.al | apply Keep.dr | apply Keep.dn))
  have t0 := top_cells hb 0
  have t1 := top_cells hb 1
  have t2 := top_cells hb 2
  simp only [List.getElem?_toArray, List.getElem?_cons_succ, List.getElem?_cons_zero] at t0 t1 t2
  have HIN := hide hin
  have hwb := in_i64 hway
  clear hb hin
  go_enter Try.func6, Try.ntmps6
  go_wp2_with fail
  generalize World.alloc w _ = W1 at *
  refine (lawLong13 W1 _ p (HP.out.keep k0)).mono ?_
  rintro e w2 ⟨⟨b, rfl⟩, k2⟩
  have k02 := Keep.tr k0 k2
  replace t0 := Keep.cell k2 t0
  replace t1 := Keep.cell k2 t1
  replace t2 := Keep.cell k2 t2
  cases b with
  | true =>
    go_wp2_with fail
    go_ret
    exact ⟨rfl, k02⟩
  | false =>
    go_wp2_with fail
    refine (refIs13 w2 _ p (HP.out.keep k02)).mono ?_
    rintro e w3 ⟨rfl, k3⟩
    have k03 := Keep.tr k02 k3
    replace t0 := Keep.cell k3 t0
    replace t1 := Keep.cell k3 t1
    replace t2 := Keep.cell k3 t2
    cases hok : Em.okP p with
    | false =>
      go_wp2_with fail
      go_ret
      exact ⟨rfl, k03⟩
    | true =>
      have hbt : Em.bytesP p = Em.putP p := by rw [Em.bytesP, hok]; rfl
      have HBT := hide hbt
      have hpos := putP_pos p
      have hpl := putP_len p hok HIN.out
      have HCUT := hide (readP_cut p hok HIN.out)
      have HMORE := hide (readP_more p hok HIN.out)
      clear hok hbt
      by_cases g1 : way < 0
      · go_wp2_with fail
        go_ret
        exact ⟨rfl, k03⟩
      by_cases g2 : 2 < way
      · go_wp2_with fail
        go_ret
        exact ⟨rfl, k03⟩
      have hw02 := hide (show way = 0 ∨ way = 1 ∨ way = 2 from by omega)
      obtain ⟨m, hm, hand⟩ := and_low at_
      go_wp2_with fail
      refine (refBytes13 w3 _ p (HP.out.keep k03) HIN.out).mono ?_
      rintro e w4 ⟨v4, rfl, o4, k4⟩
      rw [HBT.out] at o4
      have hplen : (Em.putP p).length ≤ 9223372036854775807 := o4.bs.len
      have k04 := Keep.tr k03 k4
      generalize hbt : Em.putP p = bt at *
      obtain ⟨g, cap, rfl, hcap, hg3, hg4, hcl, hfz⟩ := Ob.form o4 hpos
      have HO4 := hide o4
      have hml : m % bt.length < bt.length := Nat.mod_lt _ hpos
      have hlen0 : ((bt.length : Int) == 0) = false := by rw [beq_eq_false_iff_ne]; omega
      clear o4 t0 t1 t2
      go_upto_block 0 with fail
      have hki : (m : Int) % (bt.length : Int) = ((m % bt.length : Nat) : Int) := by rw [Int.natCast_emod]
      rw [hki]
      generalize hkk : m % bt.length = k at *
      clear hki hand hkk
      have k34 : Keep w3 w4 := k4
      go_cut [9] (fun v W => ∃ A n c l, v = .slice A n c ∧ Bs W (.slice A n c) l ∧ Keep w W ∧ (way ≠ 0 → Em.readP l = none))
      case first =>
        rcases hw02.out with rfl | rfl | rfl
        · have hck : w4.cell? ⟨g, k, none⟩ = some (.int .u8 (bt[k].toNat : Int)) := hcl k hml
          have hfk := hfz k
          have hset := HO4.out.set rfl k c
          have HSET := hide hset
          have hkset : Keep w (w4.setCell ⟨g, k, none⟩ (bv c)) := Keep.st k04 (p := ⟨g, k, none⟩) (by show w.heap.size ≤ g; have := k03.size; omega) _
          have HKS := hide hkset
          clear hset hkset
          go_wp2_with fail
          go_meet
          exact ⟨_, _, _, bt.set k c, rfl, (show Bs (w4.setCell ⟨g, k, none⟩ (bv c)) _ _ from by have := HSET.out.bs; simpa [List.length_set] using this), HKS.out, fun h => absurd rfl h⟩
        · go_wp2_with (first
            | (refine slTo rfl (.tmp 50) (.tmp 51) _ _ rfl Try.underlying29 sizeB8 _ bt rfl HO4.out.bs .i64 _ rfl k rfl (by omega) ?_; intro A5 c5 hb5 _ _)
            | fail)
          go_meet
          exact ⟨_, _, _, bt.take k, rfl, hb5, k04, fun _ => HCUT.out k hml⟩
        · have hbx : Bs (w4.alloc (.cells #[.int .u8 (c.toNat : Int)] 5)) (.slice (some ⟨w4.heap.size, 0, none⟩) 1 1) [c] := Bs.box rfl rfl
          have HBX := hide hbx
          clear hbx
          go_wp2_with (first
            | (at_builtin; go_loud (refine appB (w0 := w3) rfl (.tmp 38) (.tmp 40) rfl _ bt rfl (Ob.keep HO4.out (by repeat (first | exact Keep.rf _ | assumption | apply Keep.al | apply Keep.dr | apply Keep.dn))) _ [c] rfl HBX.out (Keep.tr k34 (by repeat (first | exact Keep.rf _ | assumption | apply Keep.al | apply Keep.dr | apply Keep.dn))) (by simp only [List.length_singleton]; omega) ?_; intro v5 w5 ho5 hk5 _ _; obtain ⟨A5, c5, rfl⟩ := own_slice (show w5.ownsRow _ _ _ _ _ _ from ho5); have HO5 := hide ho5; clear ho5))
            | fail)
          go_meet
          exact ⟨_, _, _, bt ++ [c], rfl, (by have := HO5.out.bs; simpa [List.length_append] using this), Keep.tr k03 hk5, fun _ => HMORE.out c⟩
      case rest =>
        obtain ⟨A5, n5, c5, l, rfl, hb5, k05, hno⟩ := hcut
        rename World => w5
        have HNO := hide hno
        have HB5 := hide hb5
        clear hno HO4 hcl hfz hb5
        go_wp2_with fail
        refine (codeRead w5 _ l HB5.out).mono ?_
        rintro e w6 ⟨d6, gA, gn, gc, tA, tn, tc, rfl, k6, hp6, hi6⟩
        have hx6 := heap_alloc_new w6 (.cells #[.int .i64 d6, .slice gA gn gc, .slice tA tn tc] 36)
        have k67 : Keep w6 (w6.alloc (.cells #[.int .i64 d6, .slice gA gn gc, .slice tA tn tc] 36)) := (by repeat (first | exact Keep.rf _ | assumption | apply Keep.al | apply Keep.dr | apply Keep.dn))
        have hp7 := hp6.keep k67
        have k57 := Keep.tr k6 k67
        have HR := hide (refRead13 _ _ l (HB5.out.keep k57))
        generalize hbo : (Em.readP l).isSome = bo at *
        have HBO := hide hbo
        clear hp6 hi6 k6 k67 hbo
        go_wp2_with fail
        generalize World.alloc w6 _ = W7 at *
        refine HR.out.mono ?_
        rintro e w8 ⟨d8, qA, qn, qc, rA, rn, rc, rfl, k8, hp8, hi8⟩
        rw [HBO.out]
        have hx8 := heap_alloc_new w8 (.cells #[.int .i64 d8, .slice qA qn qc, .slice rA rn rc] 36)
        have k89 : Keep w8 (w8.alloc (.cells #[.int .i64 d8, .slice qA qn qc, .slice rA rn rc] 36)) := (by repeat (first | exact Keep.rf _ | assumption | apply Keep.al | apply Keep.dr | apply Keep.dn))
        have hp9 := hp8.keep k89
        have k79 := Keep.tr k8 k89
        have hx69 := (k79.frm fun _ => False).heap (fun h => h) hx6
        have hp79 := hp7.keep k79
        have x0 := top_cells hx69 0
        have x1 := top_cells hx69 1
        have x2 := top_cells hx69 2
        have y0 := top_cells hx8 0
        have y1 := top_cells hx8 1
        have y2 := top_cells hx8 2
        simp only [List.getElem?_toArray, List.getElem?_cons_succ, List.getElem?_cons_zero] at x0 x1 x2 y0 y1 y2
        have HS := hide (refSame13 _ _ _ _ hp79 hp9)
        have k09 := Keep.tr (Keep.tr k05 k57) k79
        clear hp8 hp9 hp79 hx6 hx8 hx69 k8 k89 hi8 HR hp7
        go_wp2_with fail
        generalize World.alloc w8 _ = W9 at *
        refine HS.out.mono ?_
        rintro e w10 ⟨rfl, k10⟩
        by_cases hw0 : way = 0
        · subst hw0
          cases bo
          all_goals
            go_wp2_with fail
            refine (codeKnown _).mono ?_
            rintro e w11 ⟨rfl, k11⟩
            go_wp2_with fail
            go_ret
            exact ⟨rfl, Keep.tr (Keep.tr k09 k10) k11⟩
        · have hw0b : (way == 0) = false := by simpa using hw0
          have hbo : bo = false := by rw [← HBO.out, HNO.out hw0]; rfl
          subst hbo
          go_wp2_with fail
          refine (codeKnown _).mono ?_
          rintro e w11 ⟨rfl, k11⟩
          go_wp2_with fail
          go_ret
          exact ⟨rfl, Keep.tr (Keep.tr k09 k10) k11⟩
end Go.Proofs.Ytcbkklfdeloeeaa
