/- Walks: are two blocks one? are two graphs? (package shape) -/
import Derived.Test.YtilhglnfjaablaaShapeE
import Derived.Shelf.Abstract
namespace Go.Proofs.Ytilhglnfjaablaa
open Go.RowKit
set_option linter.unusedVariables false
set_option maxRecDepth 100000
theorem blk_eq (b c : Em.Blk) : decide (b = c) = (decide (b.tag = c.tag) && (decide (b.str = c.str) && decide (b.kids = c.kids))) := by
  obtain ⟨b1, b2, b3⟩ := b
  obtain ⟨c1, c2, c3⟩ := c
  rw [Bool.eq_iff_iff, Bool.and_eq_true, Bool.and_eq_true, decide_eq_true_iff, decide_eq_true_iff, decide_eq_true_iff, decide_eq_true_iff, Em.Blk.mk.injEq]
set_option maxHeartbeats 4000000 in
theorem blkSame (b c : Em.Blk) (w : World) (cs cs' : List Value) (h : KBk w cs b) (h' : KBk w cs' c) : Calls Try.prog 57 #[.agg cs.toArray, .agg cs'.toArray] w fun e w' => e = .returned (.bool (decide (b = c))) ∧ Keep w w' := by
  obtain ⟨v, rfl, _, hk⟩ := h
  obtain ⟨v', rfl, _, hk'⟩ := h'
  have hq := blk_eq b c
  obtain ⟨bt, bs, bk⟩ := b
  obtain ⟨ct, cs, ck⟩ := c
  have HF := hide fun W (k : Keep w W) => refsEqual bk ck W v v' (hk.keep k fun _ _ h => h) (hk'.keep k fun _ _ h => h)
  obtain ⟨A, cp, rfl, _⟩ := hk
  obtain ⟨A', cp', rfl, _⟩ := hk'
  simp only at hq HF ⊢
  generalize decide ((⟨bt, bs, bk⟩ : Em.Blk) = ⟨ct, cs, ck⟩) = q at hq ⊢
  generalize decide (bk = ck) = kq at *
  by_cases h1 : bt = ct
  · subst h1
    by_cases h2 : bs = cs
    · subst h2
      have HQ := hide (hq.trans (show _ = kq by rw [decide_eq_true rfl, decide_eq_true rfl]; rfl))
      have hss : ((str bs).toList == (str bs).toList) = true := by simp
      clear hq
      go_enter Try.func57, Try.ntmps57
      go_wp2_with fail
      refine (HF.out _ (by repeat (first | exact Keep.rf _ | assumption | apply Keep.al | apply Keep.dr | apply Keep.dn))).mono ?_
      rintro e w1 ⟨rfl, k1⟩
      go_wp2_with fail
      go_ret
      rw [HQ.out]
      exact ⟨rfl, Keep.tr (by repeat (first | exact Keep.rf _ | assumption | apply Keep.al | apply Keep.dr | apply Keep.dn)) k1⟩
    · have HQ := hide (hq.trans (show _ = false by rw [decide_eq_false h2, decide_eq_true rfl]; rfl))
      have hss : ((str bs).toList == (str cs).toList) = false := by rw [str_lbeq]; exact decide_eq_false h2
      clear hq h2
      go_enter Try.func57, Try.ntmps57
      go_wp2_with fail
      go_ret
      rw [HQ.out]
      exact ⟨rfl, (by repeat (first | exact Keep.rf _ | assumption | apply Keep.al | apply Keep.dr | apply Keep.dn))⟩
  · have HQ := hide (hq.trans (show _ = false by rw [decide_eq_false h1]; rfl))
    have h1b : (bt == ct) = false := by simpa using h1
    clear hq
    go_enter Try.func57, Try.ntmps57
    go_wp2_with fail
    go_ret
    rw [HQ.out]
    exact ⟨rfl, (by repeat (first | exact Keep.rf _ | assumption | apply Keep.al | apply Keep.dr | apply Keep.dn))⟩
theorem blkSame_enters : Enters Try.prog 57 := enters_of Try.func57 (by kernel_rfl) rfl
set_option maxHeartbeats 8000000 in
theorem blksEqual (xs ys : List Em.Blk) (w : World) (v v' : Value) (h : Sl 3 KBk w v xs) (h' : Sl 3 KBk w v' ys) : Calls Try.prog 56 #[v, v', .func (.func 57) #[] #[]] w fun e w' => e = .returned (.bool (decide (xs = ys))) ∧ Keep w w' := by
  obtain ⟨A, c, rfl, hlc, hcm, hr⟩ := h
  obtain ⟨A', c', rfl, hlc', hcm', hr'⟩ := h'
  have heg : ∀ (args : Array Value) (w : World), (callFunc 57 args).run Try.prog w = .ok (.enter 57 args) w := blkSame_enters
  generalize hdq : decide (xs = ys) = q
  by_cases hll : xs.length = ys.length
  · have hll1 : xs.length ≤ ys.length := by omega
    have hll2 : ys.length ≤ xs.length := by omega
    have hne : ((xs.length : Int) != (ys.length : Int)) = false := by rw [hll]; simp
    have HDQ := hide hdq
    clear hll hdq
    go_enter Try.func56, Try.ntmps56
    go_wp2_with fail
    go_loopw [17] (fun i W => ∃ (j : Nat), j ≤ xs.length ∧ i = .int .i64 (j : Int) ∧ q = decide (xs.drop j = ys.drop j) ∧ Keep w W) (fun i _ => xs.length - (intOf i).toNat)
    case atStart => exact ⟨0, by omega, rfl, by rw [← HDQ.out]; simp, Keep.rf _⟩
    case round =>
      obtain ⟨j, hj, rfl, hx, hk⟩ := hrel
      have HX := hide hx
      clear hx
      by_cases hlt : j < xs.length
      · have hlt' : j < ys.length := by omega
        have hlti : (j : Int) < (xs.length : Int) := by omega
        obtain ⟨ad, rfl, hcell⟩ := hr (by omega)
        obtain ⟨ad', rfl, hcell'⟩ := hr' (by omega)
        obtain ⟨cs, hcs, hcl, hkt⟩ := hcell j hlt
        obtain ⟨cs', hcs', hcl', hkt'⟩ := hcell' j hlt'
        have hdr := hide (drop_step hlt hlt')
        have hkt0 := hkt.keep hk
        have hkt0' := hkt'.keep hk
        generalize xs[j] = x at *
        generalize ys[j] = y at *
        obtain ⟨kv, rfl, _, ⟨kA, kc, rfl, _⟩⟩ := hkt
        obtain ⟨kv', rfl, _, ⟨kA', kc', rfl, _⟩⟩ := hkt'
        have c0 := Keep.cell hk (hcl 0 _ rfl)
        have e0 := Keep.cell hk (hcl' 0 _ rfl)
        rw [Nat.add_zero] at c0 e0
        have c1 := cell_off (Keep.cell hk (hcl 1 _ rfl))
        have c2 := cell_off (Keep.cell hk (hcl 2 _ rfl))
        have e1 := cell_off (Keep.cell hk (hcl' 1 _ rfl))
        have e2 := cell_off (Keep.cell hk (hcl' 2 _ rfl))
        have kx : ∀ o, Keep wr (wr.alloc o) := fun o => (Keep.rf wr).al o
        have KX := hide kx
        have e0' := fun o => Keep.cell (KX.out o) e0
        have e1' := fun o => Keep.cell (KX.out o) e1
        have e2' := fun o => Keep.cell (KX.out o) e2
        have HK0 := hide hkt0
        have HK0' := hide hkt0'
        have HR := hide hr
        have HR' := hide hr'
        clear hcell hcl hr hcell' hcl' hr' kx hkt0 hkt0'
        go_wp2_with fail
        refine (blkSame x y _ _ _ (HK0.out.keep (by repeat (first | exact Keep.rf _ | assumption | apply Keep.al | apply Keep.dr | apply Keep.dn))) (HK0'.out.keep (by repeat (first | exact Keep.rf _ | assumption | apply Keep.al | apply Keep.dr | apply Keep.dn)))).mono ?_
        rintro e w' ⟨rfl, hk2⟩
        cases hpk : decide (x = y) with
        | false =>
          have HPK := hide hpk
          clear hpk
          go_wp2_with fail
          go_ret
          refine ⟨?_, Keep.tr (by repeat (first | exact Keep.rf _ | assumption | apply Keep.al | apply Keep.dr | apply Keep.dn)) hk2⟩
          rw [HX.out, hdr.out, HPK.out]
          rfl
        | true =>
          have HPK := hide hpk
          clear hpk
          go_wp2_with fail
          go_roundw
          case rel => exact ⟨j + 1, by omega, by go_num, by rw [HX.out, hdr.out, HPK.out]; rfl, Keep.tr (by repeat (first | exact Keep.rf _ | assumption | apply Keep.al | apply Keep.dr | apply Keep.dn)) hk2⟩
          case measure => simp [intOf]; omega
      · have hlti : ¬ (j : Int) < (xs.length : Int) := by omega
        go_wp2_with fail
        go_ret
        refine ⟨?_, hk⟩
        rw [HX.out, List.drop_of_length_le (by omega), List.drop_of_length_le (by omega)]
        rfl
  · have hf := hide (show q = false from by rw [← hdq]; exact decide_eq_false fun e => hll (by rw [e]))
    have hne : ((xs.length : Int) != (ys.length : Int)) = true := by
      rw [bne_iff_ne]
      omega
    clear hll hdq
    go_enter Try.func56, Try.ntmps56
    go_wp2_with fail
    go_ret
    rw [hf.out]
    exact ⟨rfl, Keep.rf _⟩
end Go.Proofs.Ytilhglnfjaablaa
