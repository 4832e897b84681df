/- Walks: the reader of the reference: fail, a number, a value that is no block, a string. Walks: the types of a type's fields, a type's tag, is a type's value no block (reference). -/
import Derived.Test.YtoehaijmkmdggaaGreatGRvR
import Derived.Test.YtoehaijmkmdggaaGreatGVarZ
import Derived.Test.YtoehaijmkmdggaaGreatGVarW
import Derived.Test.YtoehaijmkmdggaaGreatGBldK
import Derived.Test.YtoehaijmkmdggaaGreatGRdT
import Derived.OpenShut
set_option linter.unusedSimpArgs false
set_option linter.unusedVariables false
namespace Go.Proofs.YtoehaijmkmdggaaGreat
open Go.RowKit
open Em (Ty)
set_option linter.unusedVariables false
set_option linter.unusedSimpArgs false
set_option maxRecDepth 100000
section
variable {B : Nat} {Z : Nat → Prop} {w0 w : World} {p : Nat} {bv lv tv : Value} {its : List (Em.Blk × Value)} {tys : List (Ty × List Value)} {s : Em.Rd}
end
/-- The first error stays. -/
def failE (c e : Int) : Int := if c = 0 then e else c
theorem failE_0 (e : Int) : failE 0 e = e := rfl
theorem failE_2 (e : Int) : failE 2 e = 2 := rfl
theorem failE_ne {c : Int} (e : Int) (h : ¬ c = 0) : failE c e = c := if_neg h
section
variable {B : Nat} {Z : Nat → Prop} {w0 w : World} {p : Nat} {bv lv tv : Value} {its : List (Em.Blk × Value)} {tys : List (Ty × List Value)} {s : Em.Rd}
theorem rvFail {c : Int} (e : Int) (h : RdM 91 B Z w0 w p bv lv tv [.int .i64 c] its tys s) : Calls Tryz.prog 37 #[.pointer (some ⟨p, 0, none⟩), .int .i64 e] w fun r w' => r = .returned (.tuple #[]) ∧ RdM 91 B Z w0 w' p bv lv tv [.int .i64 (failE c e)] its tys s ∧ RWent Z Z w w' p lv tv lv tv its its := by
  have c3 := top_cells h.top 3
  have f3 := top_free h.top 3
  simp only [List.getElem?_toArray, List.getElem?_cons_succ, List.getElem?_cons_zero] at c3
  have HM := hide h
  clear h
  by_cases hc : c = 0
  · subst hc
    go_enter Tryz.func37, Tryz.ntmps37
    go_wp2_with fail
    (try simp only [Exit.inBlock, Exit.then]); refine bodyPost_end (results_none rfl _ _ _) rfl ?_
    rw [failE_0]
    exact ⟨rfl, HM.out.setE⟩
  · go_enter Tryz.func37, Tryz.ntmps37
    go_wp2_with fail
    (try simp only [Exit.inBlock, Exit.then]); refine bodyPost_end (results_none rfl _ _ _) rfl ?_
    rw [failE_ne _ hc]
    exact ⟨rfl, HM.out, RWent.rf⟩
set_option maxHeartbeats 4000000 in
theorem rvNumber (h : RdM 91 B Z w0 w p bv lv tv [.int .i64 0] its tys s) : Calls Tryz.prog 59 #[.pointer (some ⟨p, 0, none⟩)] w (NumX 91 B Z w0 w p lv tv its tys s) := by
  have hG := hide (refGet _ s.b w (h.byt.keep h.k0))
  have c0 := top_cells h.top 0
  simp only [List.getElem?_toArray, List.getElem?_cons_succ, List.getElem?_cons_zero] at c0
  have HB := hide h.byt
  have HM := hide h
  clear h
  cases hg : Em.getN s.b with
  | none =>
    have HN := hide (show Em.numP s = .err 2 from by unfold Em.numP; rw [hg])
    have HT := hide (show getT s.b = .tuple #[.int .u64 0, .int .i64 0, .bool false] from by unfold getT; rw [hg])
    clear hg
    go_enter Tryz.func59, Tryz.ntmps59
    go_wp2_with fail
    refine hG.out.mono ?_
    rintro e w1 ⟨rfl, k1⟩
    rw [HT.out]
    have hM1 := HM.out.keep k1
    have c3 := top_cells hM1.top 3
    simp only [List.getElem?_toArray, List.getElem?_cons_succ, List.getElem?_cons_zero] at c3
    have HF := hide (rvFail 2 hM1)
    have K1 := hide k1
    clear hM1 k1 c0 hG
    go_wp2_with fail
    refine HF.out.mono ?_
    rintro e w2 ⟨rfl, hm2, hw2⟩
    rw [failE_0] at hm2
    have HM2 := hide hm2
    have HW2 := hide hw2
    clear hm2 hw2
    go_wp2_with fail
    go_ret
    exact ⟨0, s, 2, rfl, by omega, ⟨_, HM2.out⟩, (RWent.of_keep K1.out).tr HW2.out, .inr ⟨rfl, rfl, HN.out⟩⟩
  | some y =>
    obtain ⟨v, n⟩ := y
    have hv := (Em.get_some hg).1
    have hn := (Em.get_some hg).2.2.2
    have HN := hide (show Em.numP s = .ok v ⟨s.b.drop n, s.bl, s.ty⟩ from by unfold Em.numP; rw [hg])
    have HT := hide (show getT s.b = .tuple #[.int .u64 (v : Int), .int .i64 (n : Int), .bool true] from by unfold getT; rw [hg])
    have HLE := hide (show s.b.length = n + (s.b.length - n) from by omega)
    have HV := hide hv
    clear hg hv
    go_enter Tryz.func59, Tryz.ntmps59
    go_wp2_with fail
    refine hG.out.mono ?_
    rintro e w1 ⟨rfl, k1⟩
    rw [HT.out]
    have hM1 := HM.out.keep k1
    have c0 := top_cells hM1.top 0
    have c3 := top_cells hM1.top 3
    have f0 := top_free hM1.top 0
    simp only [List.getElem?_toArray, List.getElem?_cons_succ, List.getElem?_cons_zero] at c0 c3
    have HM1 := hide hM1
    have K1 := hide k1
    clear hM1 k1 hG
    go_wp2_with (first
      | (refine slFrom0 rfl (.tmp 30) (.tmp 31) _ _ rfl Tryz.underlying22 sizeB8 _ _ rfl HB.out _ _ rfl n rfl _ HLE.out ?_; intro A1 c1 hd hd1 hd2)
      | fail)
    go_ret
    have hb' : Bs w0 (.slice A1 (s.b.length - n) c1) (s.b.drop n) := hd
    exact ⟨v, _, 0, rfl, HV.out, ⟨_, (HM1.out.setB hb').1⟩, (RWent.of_keep K1.out).tr (HM1.out.setB hb').2, .inl ⟨rfl, HN.out⟩⟩
theorem immBad_fits (n : Int) : Em.immBad [105, 110, 116] n = !Em.fitsN n := by
  rw [immBad_int]
  unfold Em.fitsN
  by_cases h1 : n < -4611686018427387904
  · have h3 : ¬ -4611686018427387904 ≤ n := by omega
    simp [h1, h3]
  · have h3 : -4611686018427387904 ≤ n := by omega
    by_cases h2 : n ≥ 4611686018427387904
    · have h4 : ¬ n < 4611686018427387904 := by omega
      simp [h1, h2, h3, h4]
    · have h4 : n < 4611686018427387904 := by omega
      simp [h1, h2, h3, h4]
set_option maxHeartbeats 8000000 in
theorem rvPlain (t : Ty) (d : Nat) (cs : List Value) (h : RdM 91 B Z w0 w p bv lv tv [.int .i64 0] its tys s) (ht : TyI (fun k => k < w0.heap.size ∨ Z k) d w cs t) (hp : Em.isPl t.op) :
    Calls Tryz.prog 58 #[.pointer (some ⟨p, 0, none⟩), .agg cs.toArray] w (ValX 91 B Z w0 w p lv tv its (Em.immP t.op s)) := by
  cases d with
  | zero => exact ht.elim
  | succ d =>
    obtain ⟨v, rfl, hn, hs, hin⟩ := ht
    obtain ⟨A, c, rfl, _⟩ := id hs
    obtain ⟨o, n, ks⟩ := t
    simp only [Em.Ty.op, Em.Ty.n, Em.Ty.kids] at *
    have ka : Keep w ((w.alloc (.cells #[.string (str o), .int .i64 n, .slice A ks.length c] 25)).alloc (.cells #[.bool false, .int .i64 0] 59)) := (by repeat (first | exact Keep.rf _ | assumption | apply Keep.al | apply Keep.dr | apply Keep.dn))
    have hB := (Keep.frm (Keep.al (Keep.rf (w.alloc (.cells #[.string (str o), .int .i64 n, .slice A ks.length c] 25))) (.cells #[.bool false, .int .i64 0] 59)) (fun _ => False)).heap (fun h => h) (heap_alloc_new w (.cells #[.string (str o), .int .i64 n, .slice A ks.length c] 25))
    have hR := new_second w (.cells #[.string (str o), .int .i64 n, .slice A ks.length c] 25) (.cells #[.bool false, .int .i64 0] 59)
    have hnr : ¬ HasR Z p lv tv its (w.heap.size + 1) := fun e => by have := (h.lt _ e).2; omega
    have hnb : ¬ HasR Z p lv tv its w.heap.size := fun e => by have := (h.lt _ e).2; omega
    have hrl : w.heap.size + 1 < ((w.alloc (.cells #[.string (str o), .int .i64 n, .slice A ks.length c] 25)).alloc (.cells #[.bool false, .int .i64 0] 59)).heap.size := by simp
    have h0r : w0.heap.size ≤ w.heap.size + 1 := by have := h.k0.size; omega
    have hM1 := h.keep ka
    have HN := hide (rvNumber hM1)
    have b0 := top_cells hB 0
    simp only [List.getElem?_toArray, List.getElem?_cons_succ, List.getElem?_cons_zero] at b0
    have HR := hide hR
    have HB := hide hB
    have KA := hide ka
    have HM1 := hide hM1
    have HH := hide h
    have HNR := hide hnr
    have HNB := hide hnb
    have hO := opB o
    clear hR ka h hB hs hin hn hM1 hnr hnb
    rcases hp with ho | ho | ho
    · -- int
      obtain rfl : o = [105, 110, 116] := ho
      have HX := hide (show ∀ v s', Em.numP s = .ok v s' → Em.immP [105, 110, 116] s = if Em.fitsN (Em.zag v) = true then .ok (true, Em.zag v) s' else .err 2 from fun v s' e => by
        unfold Em.immP
        rw [if_neg (by decide), e]
        have h9 : Em.immN [105, 110, 116] v = Em.zag v := rfl
        simp only [h9, immBad_fits]
        cases Em.fitsN (Em.zag v) <;> rfl)
      have HE := hide (show Em.numP s = .err 2 → Em.immP [105, 110, 116] s = .err 2 from fun e => by
        unfold Em.immP
        rw [if_neg (by decide), e])
      go_enter Tryz.func58, Tryz.ntmps58
      go_wp2_with fail
      generalize World.alloc (World.alloc w _) _ = w1 at *
      refine HN.out.mono ?_
      rintro e w2 ⟨v, s2, c2, rfl, hv, ⟨bv2, hm2⟩, hw2, hend⟩
      have hB2 := hw2.heap HNB.out HB.out
      have hR2 := hw2.heap HNR.out HR.out
      have HNR2 := hide (hw2.out hrl HNR.out)
      have b0 := top_cells hB2 0
      simp only [List.getElem?_toArray, List.getElem?_cons_succ, List.getElem?_cons_zero] at b0
      have HR2 := hide hR2
      have HM2 := hide hm2
      have HW2 := hide ((RWent.of_keep KA.out).tr hw2)
      have HZ := hide (refZag v (hide hv) w2)
      have hz := zag_le v hv
      have HF := hide (rvFail 2 hm2)
      have hrl2 : w.heap.size + 1 < w2.heap.size := Nat.lt_of_lt_of_le hrl hw2.frm.size
      have HEND := hide hend
      clear hB2 hR2 hm2 hw2 hend HN
      go_wp2_with fail
      refine HZ.out.mono ?_
      rintro e w9 ⟨rfl, rfl⟩
      have HWF := hide hz
      generalize hzn : Em.zag v = z at *
      have HZN := hide hzn
      clear hzn
      go_wp2_with fail
      refine (refWrap _ _).mono ?_
      rintro e w9 ⟨rfl, rfl⟩
      have hfit := wrap_fits z
      cases hfb : Em.fitsN z with
      | true =>
        have hne : (intW z / 2 != z) = false := by unfold bne; rw [hfit, hfb]; rfl
        have r0 := top_cells HR2.out 0
        have r1 := top_cells HR2.out 1
        have f0 := top_free HR2.out 0
        have f1 := top_free HR2.out 1
        simp only [List.getElem?_toArray, List.getElem?_cons_succ, List.getElem?_cons_zero] at r0 r1
        have HFB := hide hfb
        clear hfit hfb
        generalize intW z / 2 = iz at *
        go_wp2_with fail
        refine bodyPost_ret_by (results_cell_row rfl _ _ (w.heap.size + 1) 59 _ (0, 0) _ rfl (heap_set2R HR2.out _ _) Tryz.underlying59 rfl ?_) rfl ?_
        · kernel_rfl
        · refine ⟨(true, z), s2, c2, rfl, imm_wf HWF.out.1 HWF.out.2, ⟨Z, lv, tv, its, tys, ⟨_, HM2.out.far (frm_set2R _ _ _ _) HNR2.out h0r⟩, HW2.out.far (by omega) (frm_set2R _ _ _ _)⟩, ?_⟩
          rcases HEND.out with ⟨e1, e2⟩ | ⟨e1, e2, e3⟩
          · exact .inl ⟨e1, by rw [HX.out _ _ e2, HZN.out, if_pos HFB.out]⟩
          · exact .inr ⟨.inl e1, by rw [HE.out e3, e1]⟩
      | false =>
        have hne : (intW z / 2 != z) = true := by unfold bne; rw [hfit, hfb]; rfl
        have HFB := hide hfb
        clear hfit hfb
        generalize intW z / 2 = iz at *
        go_wp2_with fail
        refine HF.out.mono ?_
        rintro e w3 ⟨rfl, hm3, hw3⟩
        have hR3 := hw3.heap HNR2.out HR2.out
        have HNR3 := hide (hw3.out hrl2 HNR2.out)
        have r0 := top_cells hR3 0
        have r1 := top_cells hR3 1
        have f0 := top_free hR3 0
        have f1 := top_free hR3 1
        simp only [List.getElem?_toArray, List.getElem?_cons_succ, List.getElem?_cons_zero] at r0 r1
        have HR3 := hide hR3
        have HM3 := hide hm3
        have HW3 := hide (HW2.out.tr hw3)
        clear hR3 hm3 hw3
        go_wp2_with fail
        refine bodyPost_ret_by (results_cell_row rfl _ _ (w.heap.size + 1) 59 _ (0, 0) _ rfl (heap_set2R HR3.out _ _) Tryz.underlying59 rfl ?_) rfl ?_
        · kernel_rfl
        · refine ⟨(true, z), s2, 2, rfl, imm_wf HWF.out.1 HWF.out.2, ⟨Z, lv, tv, its, tys, ⟨bv2, ?_⟩, HW3.out.far (by omega) (frm_set2R _ _ _ _)⟩, .inr ⟨.inl rfl, ?_⟩⟩
          · have h9 := HM3.out.far (frm_set2R w3 _ (.bool true) (.int .i64 z)) HNR3.out h0r
            rcases HEND.out with ⟨e1, e2⟩ | ⟨e1, e2, e3⟩
            · subst e1; exact h9
            · subst e1; exact h9
          · rcases HEND.out with ⟨e1, e2⟩ | ⟨e1, e2, e3⟩
            · rw [HX.out _ _ e2, HZN.out, if_neg (by rw [HFB.out]; decide)]
            · exact HE.out e3
    · -- bool
      obtain rfl : o = [98, 111, 111, 108] := ho
      have HX := hide (show ∀ v s', Em.numP s = .ok v s' → Em.immP [98, 111, 111, 108] s = if 1 < v then .err 2 else .ok (true, (v : Int)) s' from fun v s' e => by
        unfold Em.immP
        rw [if_neg (by decide), e]
        have h9 : Em.immN [98, 111, 111, 108] v = ((min v 2 : Nat) : Int) := by
          unfold Em.immN
          exact if_pos (by decide)
        simp only [h9]
        rcases (show v = 0 ∨ v = 1 ∨ 2 ≤ v by omega) with rfl | rfl | hv2
        · rfl
        · rfl
        · rw [Nat.min_eq_right hv2, if_pos (by decide), if_pos (by omega)])
      have HE := hide (show Em.numP s = .err 2 → Em.immP [98, 111, 111, 108] s = .err 2 from fun e => by
        unfold Em.immP
        rw [if_neg (by decide), e])
      go_enter Tryz.func58, Tryz.ntmps58
      go_wp2_with fail
      generalize World.alloc (World.alloc w _) _ = w1 at *
      refine HN.out.mono ?_
      rintro e w2 ⟨v, s2, c2, rfl, hv, ⟨bv2, hm2⟩, hw2, hend⟩
      have hB2 := hw2.heap HNB.out HB.out
      have hR2 := hw2.heap HNR.out HR.out
      have HNR2 := hide (hw2.out hrl HNR.out)
      have b0 := top_cells hB2 0
      simp only [List.getElem?_toArray, List.getElem?_cons_succ, List.getElem?_cons_zero] at b0
      have HR2 := hide hR2
      have HM2 := hide hm2
      have HW2 := hide ((RWent.of_keep KA.out).tr hw2)
      have HF := hide (rvFail 2 hm2)
      have hrl2 : w.heap.size + 1 < w2.heap.size := Nat.lt_of_lt_of_le hrl hw2.frm.size
      have HEND := hide hend
      have hvw := wrap64_wf (v : Int)
      have hvs : v ≤ 1 → wrap64 (v : Int) = (v : Int) := fun h => by unfold wrap64; omega
      clear hB2 hR2 hm2 hw2 hend HN
      by_cases hv1 : 1 < v
      · have hvi : (v : Int) > 1 := by omega
        go_wp2_with fail
        refine HF.out.mono ?_
        rintro e w3 ⟨rfl, hm3, hw3⟩
        have hR3 := hw3.heap HNR2.out HR2.out
        have HNR3 := hide (hw3.out hrl2 HNR2.out)
        have r0 := top_cells hR3 0
        have r1 := top_cells hR3 1
        have f0 := top_free hR3 0
        have f1 := top_free hR3 1
        simp only [List.getElem?_toArray, List.getElem?_cons_succ, List.getElem?_cons_zero] at r0 r1
        have HR3 := hide hR3
        have HM3 := hide hm3
        have HW3 := hide (HW2.out.tr hw3)
        clear hR3 hm3 hw3
        go_wp2_with fail
        refine bodyPost_ret_by (results_cell_row rfl _ _ (w.heap.size + 1) 59 _ (0, 0) _ rfl (heap_set2R HR3.out _ _) Tryz.underlying59 rfl ?_) rfl ?_
        · kernel_rfl
        · refine ⟨(true, wrap64 (v : Int)), s2, 2, rfl, hvw, ⟨Z, lv, tv, its, tys, ⟨bv2, ?_⟩, HW3.out.far (by omega) (frm_set2R _ _ _ _)⟩, .inr ⟨.inl rfl, ?_⟩⟩
          · have h9 := HM3.out.far (frm_set2R w3 _ (.bool true) (.int .i64 (wrap64 (v : Int)))) HNR3.out h0r
            rcases HEND.out with ⟨e1, e2⟩ | ⟨e1, e2, e3⟩
            · subst e1; exact h9
            · subst e1; exact h9
          · rcases HEND.out with ⟨e1, e2⟩ | ⟨e1, e2, e3⟩
            · rw [HX.out _ _ e2, if_pos hv1]
            · exact HE.out e3
      · have hvi : ¬ (v : Int) > 1 := by omega
        have r0 := top_cells HR2.out 0
        have r1 := top_cells HR2.out 1
        have f0 := top_free HR2.out 0
        have f1 := top_free HR2.out 1
        simp only [List.getElem?_toArray, List.getElem?_cons_succ, List.getElem?_cons_zero] at r0 r1
        go_wp2_with fail
        refine bodyPost_ret_by (results_cell_row rfl _ _ (w.heap.size + 1) 59 _ (0, 0) _ rfl (heap_set2R HR2.out _ _) Tryz.underlying59 rfl ?_) rfl ?_
        · kernel_rfl
        · refine ⟨(true, (v : Int)), s2, c2, rfl, imm_wf (by omega) (by omega), ⟨Z, lv, tv, its, tys, ⟨_, HM2.out.far (frm_set2R _ _ _ _) HNR2.out h0r⟩, HW2.out.far (by omega) (frm_set2R _ _ _ _)⟩, ?_⟩
          rcases HEND.out with ⟨e1, e2⟩ | ⟨e1, e2, e3⟩
          · exact .inl ⟨e1, by rw [HX.out _ _ e2, if_neg hv1]⟩
          · exact .inr ⟨.inl e1, by rw [HE.out e3, e1]⟩
    · -- unit
      obtain rfl : o = [117, 110, 105, 116] := ho
      have HX := hide (show Em.immP [117, 110, 105, 116] s = .ok (true, 0) s from rfl)
      clear HN
      go_enter Tryz.func58, Tryz.ntmps58
      go_wp2_with fail
      refine bodyPost_ret_by (results_cell_row rfl _ _ (w.heap.size + 1) 59 _ (0, 0) _ rfl (new_second w _ _) Tryz.underlying59 rfl ?_) rfl ?_
      · kernel_rfl
      · rw [HX.out]
        exact ⟨(true, 0), s, 0, rfl, (by decide : (Lit.int .i64 0).wf = true), ⟨Z, lv, tv, its, tys, ⟨_, HH.out.keep (by repeat (first | exact Keep.rf _ | assumption | apply Keep.al | apply Keep.dr | apply Keep.dn))⟩, RWent.of_keep (by repeat (first | exact Keep.rf _ | assumption | apply Keep.al | apply Keep.dr | apply Keep.dn))⟩, .inl ⟨rfl, rfl⟩⟩
set_option maxHeartbeats 8000000 in
theorem rvText (h : RdM 91 B Z w0 w p bv lv tv [.int .i64 0] its tys s) : Calls Tryz.prog 62 #[.pointer (some ⟨p, 0, none⟩)] w (StrX 91 B Z w0 w p lv tv its tys s) := by
  have HN := hide (rvNumber h)
  have HXE := hide (show Em.numP s = .err 2 → Em.strP s = .err 2 from fun e => by unfold Em.strP; rw [e])
  have HXO := hide (show ∀ v s', Em.numP s = .ok v s' → Em.strP s = if s'.b.length < v then .err 2 else .ok (s'.b.take v) ⟨s'.b.drop v, s'.bl, s'.ty⟩ from fun v s' e => by unfold Em.strP; rw [e])
  clear h
  go_enter Tryz.func62, Tryz.ntmps62
  go_wp2_with fail
  refine HN.out.mono ?_
  rintro e w2 ⟨v, s', c2, rfl, hv, ⟨bv2, hm2⟩, hw2, hend⟩
  have c3 := top_cells hm2.top 3
  have c0 := top_cells hm2.top 0
  have f0 := top_free hm2.top 0
  simp only [List.getElem?_toArray, List.getElem?_cons_succ, List.getElem?_cons_zero] at c0 c3
  obtain ⟨bA, bc, rfl, b1, b2, _⟩ := id hm2.byt
  have HBS := hide (hm2.byt.keep hm2.k0)
  have HB0 := hide hm2.byt
  have HF := hide (rvFail 2 hm2)
  have HM2 := hide hm2
  have HW2 := hide hw2
  clear hm2 hw2 HN
  rcases hend with ⟨rfl, e2⟩ | ⟨rfl, rfl, e3⟩
  · have HQ := hide (HXO.out v s' e2)
    clear e2 HXO HXE
    by_cases hl : s'.b.length < v
    · have hli : (v : Int) > (s'.b.length : Int) := by omega
      go_wp2_with fail
      refine HF.out.mono ?_
      rintro e w3 ⟨rfl, hm3, hw3⟩
      rw [failE_0] at hm3
      have HM3 := hide hm3
      have HW3 := hide (HW2.out.tr hw3)
      clear hm3 hw3
      go_wp2_with fail
      go_ret
      exact ⟨[], s', 2, rfl, ⟨_, HM3.out⟩, HW3.out, .inr ⟨rfl, by rw [HQ.out, if_pos hl]⟩⟩
    · have hli : ¬ (v : Int) > (s'.b.length : Int) := by omega
      have HLE := hide (show s'.b.length = v + (s'.b.length - v) from by omega)
      go_wp2_with (first
        | (refine slTo rfl (.tmp 27) (.tmp 28) _ _ rfl Tryz.underlying22 sizeB8 _ _ rfl HBS.out _ _ rfl v rfl (by omega) ?_; intro A1 c1 hd hd1 hd2; have hcv := run_conv_bs hd 22 5 9 Tryz.underlying22 Tryz.underlying5 Tryz.underlying9; clear hd)
        | (refine slFrom0 rfl (.tmp 35) (.tmp 36) _ _ rfl Tryz.underlying22 sizeB8 _ _ rfl HB0.out _ _ rfl v rfl _ HLE.out ?_; intro A3 c3 hd3 hd4 hd5)
        | fail)
      go_ret
      have hb' : Bs w0 (.slice A3 (s'.b.length - v) c3) (s'.b.drop v) := hd3
      exact ⟨_, _, 0, rfl, ⟨_, (HM2.out.setB hb').1⟩, HW2.out.tr (HM2.out.setB hb').2, .inl ⟨rfl, by rw [HQ.out, if_neg hl]⟩⟩
  · go_wp2_with fail
    refine HF.out.mono ?_
    rintro e w3 ⟨rfl, hm3, hw3⟩
    rw [failE_2] at hm3
    have HM3 := hide hm3
    have HW3 := hide (HW2.out.tr hw3)
    clear hm3 hw3
    go_wp2_with fail
    go_ret
    exact ⟨[], s', 2, rfl, ⟨_, HM3.out⟩, HW3.out, .inr ⟨rfl, HXE.out e3⟩⟩
end
end Go.Proofs.YtoehaijmkmdggaaGreat
namespace Go.Proofs.YtoehaijmkmdggaaGreat
open Go.RowKit
open Em (Ty)
set_option linter.unusedVariables false
set_option linter.unusedSimpArgs false
set_option maxRecDepth 100000
/-- The types of a type's fields were answered. -/
def KidX (I : Nat → Prop) (w : World) (t : Ty) (e : Ending) (w' : World) : Prop :=
  ∃ v d, e = .returned v ∧ Sl 3 (TyI (fun k => I k ∨ (w.heap.size ≤ k ∧ k < w'.heap.size)) d) w' v (Em.kidsT t) ∧ InX (fun k => I k ∨ (w.heap.size ≤ k ∧ k < w'.heap.size)) v ∧ Keep w w'
section
variable {I : Nat → Prop} {w : World} {d : Nat} {cs : List Value} {t : Ty}
set_option maxHeartbeats 4000000 in
theorem refPlain22 (ht : TyK d w cs t) (hok : Em.okS t = true) : Calls Tryz.prog 57 #[.agg cs.toArray] w fun e w' => e = .returned (.bool (decide (Em.isPl t.op))) ∧ Keep w w' := by
  cases d with
  | zero => exact ht.elim
  | succ d =>
    obtain ⟨v, rfl, hn, hs⟩ := ht
    obtain ⟨A, c, rfl, _⟩ := id hs
    have ho := Em.okS_op hok
    obtain ⟨o, n, ks⟩ := t
    simp only [Em.Ty.op, Em.Ty.n, Em.Ty.kids] at *
    have hO := opB o
    clear hs hn hok
    rcases ho with rfl | rfl | rfl | rfl | rfl | ⟨rfl, _⟩ | ⟨rfl, _⟩ | ⟨rfl, _⟩
    all_goals
      (try unfold Em.wInt at *)
      (try unfold Em.wBool at *)
      (try unfold Em.wUnit at *)
      (try unfold Em.wString at *)
      (try unfold Em.wCell at *)
      (try unfold Em.wList at *)
      (try unfold Em.wRef at *)
      (try unfold Em.wPair at *)
      go_enter Tryz.func57, Tryz.ntmps57
      go_wp2_with fail
      go_ret
      exact ⟨rfl, (by repeat (first | exact Keep.rf _ | assumption | apply Keep.al | apply Keep.dr | apply Keep.dn))⟩
set_option maxHeartbeats 4000000 in
theorem refTag22 (ht : TyK d w cs t) (hok : Em.okS t = true) (hpl : ¬ Em.isPl t.op) : Calls Tryz.prog 61 #[.agg cs.toArray] w fun e w' => e = .returned (.int .i64 (Em.tagT t.op)) ∧ Keep w w' := by
  cases d with
  | zero => exact ht.elim
  | succ d =>
    obtain ⟨v, rfl, hn, hs⟩ := ht
    obtain ⟨A, c, rfl, _⟩ := id hs
    have ho := Em.okS_op hok
    obtain ⟨o, n, ks⟩ := t
    simp only [Em.Ty.op, Em.Ty.n, Em.Ty.kids] at *
    have hO := opB o
    clear hs hn hok
    rcases ho with rfl | rfl | rfl | rfl | rfl | ⟨rfl, _⟩ | ⟨rfl, _⟩ | ⟨rfl, _⟩
    · exact absurd (.inl rfl) hpl
    · exact absurd (.inr (.inl rfl)) hpl
    · exact absurd (.inr (.inr rfl)) hpl
    all_goals
      clear hpl
      (try unfold Em.wString at *)
      (try unfold Em.wCell at *)
      (try unfold Em.wList at *)
      (try unfold Em.wRef at *)
      (try unfold Em.wPair at *)
      go_enter Tryz.func61, Tryz.ntmps61
      go_wp2_with fail
      go_ret
      exact ⟨rfl, (by repeat (first | exact Keep.rf _ | assumption | apply Keep.al | apply Keep.dr | apply Keep.dn))⟩
set_option maxHeartbeats 8000000 in
theorem refKids22 (ht : TyI I d w cs t) (hok : Em.okS t = true) (hpl : ¬ Em.isPl t.op) (hst : ¬ t.op = Em.wString) : Calls Tryz.prog 63 #[.agg cs.toArray] w (KidX I w t) := by
  cases d with
  | zero => exact ht.elim
  | succ d =>
    have ht0 := hide ht
    obtain ⟨v, rfl, hn, hs, hin⟩ := ht
    have hO := opB t.op
    have ho := Em.okS_op hok
    obtain ⟨o, n, ks⟩ := t
    simp only [Em.Ty.op, Em.Ty.n, Em.Ty.kids] at *
    obtain ⟨A, c, rfl, l1, l2, hr⟩ := id hs
    have HS := hide hs
    have HIN := hide hin
    have hnb := in_i64 hn
    clear hs hin
    rcases ho with rfl | rfl | rfl | rfl | rfl | ⟨rfl, hl⟩ | ⟨rfl, hl⟩ | ⟨rfl, hl⟩
    · exact absurd (.inl rfl) hpl
    · exact absurd (.inr (.inl rfl)) hpl
    · exact absurd (.inr (.inr rfl)) hpl
    · exact absurd rfl hst
    · -- cell
      have HK := hide (show Em.kidsT (.mk Em.wCell n ks) = [.mk Em.wInt 0 [], .mk Em.wList 0 [.mk Em.wCell 0 []]] from rfl)
      clear hpl hok hr hst
      unfold Em.wCell at *
      have h2 := heap_alloc_new ((w.alloc (.cells #[.string (str [99, 101, 108, 108]), .int .i64 n, .slice A ks.length c] 25)).alloc (.cells #[.string (str [99, 101, 108, 108]), .int .i64 0, .slice none 0 0] 25)) (.cells #[.string (str [99, 101, 108, 108]), .int .i64 0, .slice none 0 0] 25)
      have H2 := hide h2
      clear h2
      go_enter Tryz.func63, Tryz.ntmps63
      go_wp2_with fail
      refine (refT23 _ [108, 105, 115, 116] _ 1 1).mono ?_
      rintro e w2 ⟨rfl, k2⟩
      have k02 : Keep w w2 := Keep.tr (Keep.al (Keep.al (Keep.al (Keep.rf w) _) _) _) k2
      have hsz := k2.size
      simp only [size_alloc] at hsz
      have H3 := hide ((k2.frm fun _ => False).heap (fun h => h) H2.out)
      have K02 := hide k02
      clear k2 k02
      go_wp2_with fail
      go_ret
      have h9 := ((Keep.al (Keep.rf w2) (.cells #[.string (str [105, 110, 116]), .int .i64 0, .slice none 0 0, .string (str [108, 105, 115, 116]), .int .i64 0, .slice (some ⟨w.heap.size + 1 + 1, 0, none⟩) 1 1] 25)).frm fun _ => False).heap (fun h => h) H3.out
      have h3 := heap_alloc_new w2 (.cells #[.string (str [105, 110, 116]), .int .i64 0, .slice none 0 0, .string (str [108, 105, 115, 116]), .int .i64 0, .slice (some ⟨w.heap.size + 1 + 1, 0, none⟩) 1 1] 25)
      simp only [size_alloc] at h9
      refine ⟨_, 3, rfl, ?_, fun ad n c e hn => ?_, Keep.al K02.out _⟩
      · rw [HK.out]
        refine sl_two3 h3 (TyI.le (e := 3) (TyI.leaf _) (by decide)) ⟨_, rfl, (by decide : (Lit.int .i64 0).wf = true), sl_one3 h9 (TyI.le (e := 2) (TyI.leaf _) (by decide)), fun ad n c e hn => ?_⟩
        cases e
        refine .inr ⟨?_, ?_⟩
        · show w.heap.size ≤ w.heap.size + 1 + 1
          omega
        · show w.heap.size + 1 + 1 < _
          simp only [size_alloc]
          omega
      · cases e
        refine .inr ⟨?_, ?_⟩
        · show w.heap.size ≤ w2.heap.size
          omega
        · show w2.heap.size < _
          simp only [size_alloc]
          omega
    · -- list
      obtain ⟨ad, rfl, hcell⟩ := hr (by omega)
      obtain ⟨ks0, hk1, hk2, hk3⟩ := hcell 0 (by omega)
      have hhd : ks.headD (.mk [] 0 []) = ks[0] := by
        cases ks with
        | nil => simp at hl
        | cons a u => rfl
      have HK := hide (show Em.kidsT (.mk Em.wList n ks) = [ks[0], .mk Em.wList n ks] from by rw [← hhd]; rfl)
      generalize ks[0] = k0 at *
      have hk4 := hide hk3
      cases d with
      | zero => exact hk3.elim
      | succ d =>
        obtain ⟨kv, rfl, kn, kS, kI⟩ := hk3
        obtain ⟨kA, kc, rfl, _⟩ := id kS
        have kx1 : Keep w ((w.alloc (.cells #[.string (str Em.wList), .int .i64 n, .slice (some ad) ks.length c] 25)).alloc (.cells #[.string ⟨#[99, 101, 108, 108]⟩, .int .i64 0, .slice none 0 0] 25)) := (by repeat (first | exact Keep.rf _ | assumption | apply Keep.al | apply Keep.dr | apply Keep.dn))
        have c0 := Keep.cell kx1 (hk2 0 _ rfl)
        have c1 := cell_off (Keep.cell kx1 (hk2 1 _ rfl))
        have c2 := cell_off (Keep.cell kx1 (hk2 2 _ rfl))
        have hadd : ad.add 0 = ad := by simp [Addr.add]
        simp only [Nat.zero_mul, Nat.add_zero, hadd] at c0 c1 c2
        have hB := (Keep.frm (Keep.al (Keep.rf (w.alloc (.cells #[.string (str Em.wList), .int .i64 n, .slice (some ad) ks.length c] 25))) (.cells #[.string ⟨#[99, 101, 108, 108]⟩, .int .i64 0, .slice none 0 0] 25)) (fun _ => False)).heap (fun h => h) (heap_alloc_new w (.cells #[.string (str Em.wList), .int .i64 n, .slice (some ad) ks.length c] 25))
        have b0 := top_cells hB 0
        have b1 := top_cells hB 1
        have b2 := top_cells hB 2
        simp only [List.getElem?_toArray, List.getElem?_cons_succ, List.getElem?_cons_zero] at b0 b1 b2
        have hlp : (0 : Int) < (ks.length : Int) := by omega
        have hlp2 : 0 < ks.length := by omega
        have HFIN := hide (show ∀ W g, Keep w W → w.heap.size ≤ g → W.heap[g]? = some (.cells #[.string (str k0.op), .int .i64 k0.n, .slice kA k0.kids.length kc, .string (str Em.wList), .int .i64 n, .slice (some ad) ks.length c] 25) → KidX I w (.mk Em.wList n ks) (.returned (.slice (some ⟨g, 0, none⟩) 2 2)) W from fun W g k hg hh => by
          have hgl := (Array.getElem?_eq_some_iff.1 hh).1
          refine ⟨_, d + 2, rfl, ?_, fun ad n c e hn => ?_, k⟩
          · rw [HK.out]
            exact sl_two3 hh (((hk4.out.keep k).mono fun k hk => .inl hk).le (by omega)) ((ht0.out.keep k).mono fun k hk => .inl hk)
          · cases e
            exact .inr ⟨hg, hgl⟩)
        clear hpl hok hr hcell hk1 hk2 hhd hl hB kS kI hst
        unfold Em.wList at *
        go_enter Tryz.func63, Tryz.ntmps63
        go_wp2_with fail
        have hJ := And.intro b0 (And.intro b1 (And.intro b2 (And.intro c0 (And.intro c1 c2))))
        generalize hw1 : World.alloc (World.alloc w _) _ = w1 at *
        have hs1 : w.heap.size ≤ w1.heap.size := by rw [← hw1]; simp; omega
        clear hw1
        have HSK := hide (fun (W : World) (k : Keep w1 W) => And.intro (Keep.cell k b0) (And.intro (Keep.cell k b1) (And.intro (Keep.cell k b2) (And.intro (Keep.cell k c0) (And.intro (Keep.cell k c1) (Keep.cell k c2))))))
        clear hJ b0 b1 b2 c0 c1 c2
        go_region_held3 (fun W => W.cell? ⟨w.heap.size, 0, none⟩ = some (.string (str [108, 105, 115, 116])) ∧ W.cell? ⟨w.heap.size, 1, none⟩ = some (.int .i64 n) ∧ W.cell? ⟨w.heap.size, 2, none⟩ = some (.slice (some ad) ks.length c) ∧ W.cell? ad = some (.string (str k0.op)) ∧ W.cell? ⟨ad.block, ad.off + 1, none⟩ = some (.int .i64 k0.n) ∧ W.cell? ⟨ad.block, ad.off + 2, none⟩ = some (.slice kA k0.kids.length kc)) (first | exact HSK.out _ (by repeat (first | exact Keep.rf _ | assumption | apply Keep.al | apply Keep.dr | apply Keep.dn))) (first | fail)
        all_goals
          go_wp2_with fail
          go_ret
          refine HFIN.out _ w1.heap.size (Keep.tr kx1 (by repeat (first | exact Keep.rf _ | assumption | apply Keep.al | apply Keep.dr | apply Keep.dn))) hs1 ?_
          first
            | exact heap_alloc_new w1.drew _
            | exact heap_alloc_new _ _
    · -- ref
      have HK := hide (show Em.kidsT (.mk Em.wRef n ks) = ks from rfl)
      have HFIN := hide (show ∀ W, Keep w W → KidX I w (.mk Em.wRef n ks) (.returned (.slice A ks.length c)) W from fun W k => ⟨_, d, rfl, by rw [HK.out]; exact (HS.out.keep k fun _ _ h => h.keep k).mono fun _ _ h => h.mono fun k hk => .inl hk, fun ad n c e hn => .inl (HIN.out ad n c e hn), k⟩)
      clear hl hst hpl hok hr
      unfold Em.wRef at *
      go_enter Tryz.func63, Tryz.ntmps63
      go_wp2_with fail
      go_ret
      exact HFIN.out _ (by repeat (first | exact Keep.rf _ | assumption | apply Keep.al | apply Keep.dr | apply Keep.dn))
    · -- pair
      have HK := hide (show Em.kidsT (.mk Em.wPair n ks) = ks from rfl)
      have HFIN := hide (show ∀ W, Keep w W → KidX I w (.mk Em.wPair n ks) (.returned (.slice A ks.length c)) W from fun W k => ⟨_, d, rfl, by rw [HK.out]; exact (HS.out.keep k fun _ _ h => h.keep k).mono fun _ _ h => h.mono fun k hk => .inl hk, fun ad n c e hn => .inl (HIN.out ad n c e hn), k⟩)
      clear hl hst hpl hok hr
      unfold Em.wPair at *
      go_enter Tryz.func63, Tryz.ntmps63
      go_wp2_with fail
      go_ret
      exact HFIN.out _ (by repeat (first | exact Keep.rf _ | assumption | apply Keep.al | apply Keep.dr | apply Keep.dn))
end
end Go.Proofs.YtoehaijmkmdggaaGreat
