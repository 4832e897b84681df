/- Walks: the picker of the reference 22: a block that comes the first time (with fields). -/
import Derived.Test.YtoehaijmkmdggaaURkX
set_option linter.unusedSimpArgs false
set_option linter.unusedVariables false
namespace Go.Proofs.Ytoehaijmkmdggaa
open Go.RowKit Go.Maps
open Em (Ty)
set_option linter.unusedVariables false
set_option linter.unusedSimpArgs false
set_option maxRecDepth 100000
section
variable {B f : Nat} {Z : Nat → Prop} {w0 w : World} {p mb hp sz : Nat} {S : List Nat} {tv ov : Value} {fm : Int → Option Value} {tys : List (Ty × List Value)} {s : Em.Pk} {H : Em.Hp} {b : List UInt8}
set_option maxHeartbeats 8000000 in
theorem rkNode_kidsM (n : Int) (t : Ty) (d : Nat) (cs : List Value) (h : RkS 116 B Z w0 w p mb (.pointer (some ⟨hp, 0, none⟩)) tv ov tys s) (ht : TyI (fun k => k < w0.heap.size ∨ Z k) d w cs t) (hok : Em.okS t = true) (hn : (Lit.int .i64 n).wf = true) (hl : s.b.length + 40040 * (2000 - s.ws.length) ≤ 100000000) (hrep : RRep w0 hp S sz H) (hpl : ¬ Em.isPl t.op) (hop : ¬ t.op = Em.wList ∧ ¬ t.op = Em.wString) (hi : Em.posK s.ws n = none) (s' : Em.Pk) (hs : Em.blkK (Em.valK H f) H n t 0 s = .ok s') (hval : NodC B w0 p mb (.pointer (some ⟨hp, 0, none⟩)) H f) :
    Calls Try.prog 59 #[.pointer (some ⟨p, 0, none⟩), .int .i64 n, .agg cs.toArray] w (NodA 116 B Z w0 w p mb (.pointer (some ⟨hp, 0, none⟩)) tv ov (s')) := by
  cases d with
  | zero => exact ht.elim
  | succ d =>
    have HT0 := hide ht
    have HOK := hide hok
    have HP := hide hpl
    obtain ⟨tv9, e0, hn0, hs0, hin0⟩ := id ht
    subst e0
    obtain ⟨A, c, e1, _⟩ := id hs0
    subst e1
    obtain ⟨o, m, ks⟩ := t
    simp only [Em.Ty.op, Em.Ty.n, Em.Ty.kids] at *
    have hnl : ¬ o = [108, 105, 115, 116] := hop.1
    have hns : ¬ o = [115, 116, 114, 105, 110, 103] := hop.2
    obtain ⟨hM, hty, hlen, hlim⟩ := h
    have ka : Keep w (w.alloc (.cells #[.string (str o), .int .i64 m, .slice A ks.length c] 25)) := (by repeat (first | exact Keep.rf _ | assumption | apply Keep.al | apply Keep.dr | apply Keep.dn))
    have hB := heap_alloc_new w (.cells #[.string (str o), .int .i64 m, .slice A ks.length c] 25)
    have hnb : ¬ OwnK p mb tv ov w.heap.size := fun e => by have := (hM.ltO _ e).2; omega
    have hM1 := hM.keep ka
    have HT1 := hide (HT0.out.keep ka)
    have HPL := hide (refPlain22 HT1.out.ty HOK.out)
    have b0 := top_cells hB 0
    have b1 := top_cells hB 1
    have b2 := top_cells hB 2
    have c4 := top_cells hM1.top 4
    simp only [List.getElem?_toArray, List.getElem?_cons_succ, List.getElem?_cons_zero] at b0 b1 b2 c4
    have HB := hide hB
    have HM1 := hide hM1
    have KA := hide ka
    have HNB := hide hnb
    have HSZ := hide (show (w.alloc (.cells #[.string (str o), .int .i64 m, .slice A ks.length c] 25)).heap.size = w.heap.size + 1 from by simp)
    have HTY := hide hty
    have HLN := hide hlen
    have hO := opB o
    clear hM hM1 ka hB ht hs0 hin0 hn0 hnb hok hpl hty hlen
    go_enter Try.func59, Try.ntmps59
    go_wp2_with fail
    generalize World.alloc w _ = w1 at *
    refine HPL.out.mono ?_
    rintro e w2 ⟨rfl, k2⟩
    clear HPL
    have hpd : decide (Em.isPl (Ty.op (.mk o m ks))) = false := decide_eq_false HP.out
    rw [hpd]
    clear hpd
    have hM2 := HM1.out.keep k2
    have hB2 := (k2.frm fun _ => False).heap (fun h => h) HB.out
    have HT2 := hide (HT1.out.keep k2)
    have KA2 := hide (Keep.tr KA.out k2)
    have b0 := top_cells hB2 0
    have b1 := top_cells hB2 1
    have b2 := top_cells hB2 2
    have c0 := top_cells hM2.top 0
    have c1 := top_cells hM2.top 1
    have c2 := top_cells hM2.top 2
    simp only [List.getElem?_toArray, List.getElem?_cons_succ, List.getElem?_cons_zero] at b0 b1 b2 c0 c1 c2
    have HB2 := hide hB2
    have HM2 := hide hM2
    have HW2 := hide (KWent.of_keep (Z := Z) (p := p) (mb := mb) (tv := tv) (ov := ov) KA2.out)
    have HL2 := hide (show w.heap.size < w2.heap.size from by have := HSZ.out; have := k2.size; omega)
    clear hM2 hB2 k2 c4 HT1 HB KA HM1 HSZ
    have hlk := HM2.out.map.look_ok (P := Try.prog) Try.underlying114 Try.underlying36 (zeroInt _) n hn
    have hpv : posKV s.ws n = none := by unfold posKV; rw [hi]; rfl
    rw [hpv] at hlk
    simp only [Option.getD_none, Option.isSome_none] at hlk
    clear hpv
    obtain ⟨A9, c9, rfl⟩ := own_slice HM2.out.tow
    have HRP2 := hide (hrep.keep HM2.out.k0)
    obtain ⟨htag, hw2k, hbl, hke⟩ := blkK_kids (t := (.mk o m ks)) (hns) hs
    have HTAG := hide htag
    have HBL := hide hbl
    have HKE := hide hke
    have htx : Em.textH H n = none := by unfold Em.textH; rw [if_neg (by rw [htag]; exact tag_no hns)]
    obtain ⟨fvv, hfv, hfld⟩ := refFields0 hrep n hn
    obtain ⟨fA, fc, rfl, _, _, fcell⟩ := id hfv
    simp only [List.length_map] at hfld
    have FV3 := hide fcell
    have HFLD := hide hfld
    have hfll : ((Em.blk H n).2.length : Int) = ((Em.kidsT (.mk o m ks)).length : Int) := by rw [hbl]
    have HKN := hide (fun W k => refKids22 ((HT2.out.keep (w' := W) k)) HOK.out HP.out hns)
    clear hs htag hbl hke hfv hfld fcell
    go_wp2_with fail
    refine (ref18Text w2 HRP2.out n hn).mono ?_
    rintro e w3 ⟨k3, rfl⟩
    rw [htx]
    simp only [Option.isSome_none, Option.getD_none]
    clear htx
    have hM3 := HM2.out.keep k3
    have HB3 := hide ((k3.frm fun _ => False).heap (fun h => h) HB2.out)
    have b0 := top_cells HB3.out 0
    have b1 := top_cells HB3.out 1
    have b2 := top_cells HB3.out 2
    have c0 := top_cells hM3.top 0
    have c1 := top_cells hM3.top 1
    have c2 := top_cells hM3.top 2
    simp only [List.getElem?_toArray, List.getElem?_cons_succ, List.getElem?_cons_zero] at b0 b1 b2 c0 c1 c2
    have HM3 := hide hM3
    have HT3 := hide (HT2.out.keep k3)
    have HW3 := hide (HW2.out.tr (KWent.of_keep k3))
    have HL3 := hide (Nat.lt_of_lt_of_le HL2.out k3.size)
    have HRP3 := hide (HRP2.out.keep k3)
    have HKN3 := hide (fun W (k : Keep w3 W) => HKN.out W (Keep.tr k3 k))
    clear hM3 k3 HM2 HT2 HW2 HL2 HRP2 HB2 hlk
    go_wp2_with fail
    apply region_all (by kernel_rfl) Keep Keep krg ktg krg ktg (fun _ _ h => h) [some 70, some 71, some 72, some 73, some 74, some 75, some 76, some 77, some 78, some 79, some 80, some 81, some 82, some 83, some 84, some 85, some 86, some 87, some 88, some 89, some 90, some 91, some 92, some 93, some 94, some 95, some 96, some 97, some 98, some 99, some 100, some 101, some 102, some 103, some 104, some 105] [eqG _ , eqG _ , eqG _ , eqG _ , eqG _ , fun us _ v => v = .int .i64 (Em.tagT o), eqG _ , fun us _ v => v = .int .i64 (Em.tagT o), eqG _ , eqG _ , eqG _ , eqG _ , eqG _ , eqG _ , eqG undef, eqG undef, eqG _ , eqG _ , eqG _ , eqG _ , eqG _ , eqG _ , eqG _ , eqG _ , eqG _ , eqG _ , eqG _ , eqG _ , fun us _ v => v = .slice fA (Em.blk H n).2.length fc, eqG _ , eqG _ , fun us W v => ∃ A c, v = .slice A (Em.kidsT (.mk o m ks)).length c, fun us _ v => v = .int .i64 ((Em.kidsT (.mk o m ks)).length : Int), fun us _ v => v = .bool false, eqG _ , eqG _ ] [⟨[], [], true, false, false⟩, ⟨[0], [], true, false, false⟩, ⟨[1], [], true, false, false⟩, ⟨[2], [], true, false, false⟩, ⟨[], [], true, false, false⟩, ⟨[3, 4], [], true, false, false⟩, ⟨[], [], true, false, false⟩, ⟨[6], [], true, false, false⟩, ⟨[5, 7], [], true, false, false⟩, ⟨[8], [], true, false, false⟩, ⟨[9], [], true, false, false⟩, ⟨[9, 10], [], true, false, false⟩, ⟨[9, 11], [], true, false, false⟩, ⟨[9, 12], [], true, false, false⟩, ⟨[13], [], true, false, false⟩, ⟨[13, 14], [], true, false, false⟩, ⟨[9, 13, 15], [], true, false, false⟩, ⟨[9, 16], [], true, false, false⟩, ⟨[17], [], true, false, false⟩, ⟨[18], [], true, false, false⟩, ⟨[18, 19], [], true, false, false⟩, ⟨[18, 20], [], true, false, false⟩, ⟨[18, 21], [], true, false, false⟩, ⟨[22], [], true, false, false⟩, ⟨[22, 23], [], true, false, false⟩, ⟨[22, 24], [], true, false, false⟩, ⟨[22, 25], [], true, false, false⟩, ⟨[22], [], true, false, false⟩, ⟨[22, 26, 27], [], true, false, false⟩, ⟨[22, 28], [], true, false, false⟩, ⟨[22], [], true, false, false⟩, ⟨[22, 30], [], true, false, false⟩, ⟨[22, 31], [], true, false, false⟩, ⟨[22, 29, 32], [], true, false, false⟩, ⟨[18, 22, 33], [], true, false, false⟩, ⟨[18, 34], [], true, false, false⟩] [31, 35] (by kernel_rfl) (by kernel_rfl) 
    · refine ⟨?_, ?_, ?_, ?_, ?_, ?_, ?_, ?_, ?_, ?_, ?_, ?_, ?_, ?_, ?_, ?_, ?_, ?_, ?_, ?_, ?_, ?_, ?_, ?_, ?_, ?_, ?_, ?_, ?_, ?_, ?_, ?_, ?_, ?_, ?_, ?_, trivial⟩ <;> (intro us W h9 hW hE hd hs K hK; obtain ⟨u0, u1, u2, u3, u4, u5, u6, u7, u8, u9, u10, u11, u12, u13, u14, u15, u16, u17, u18, u19, u20, u21, u22, u23, u24, u25, u26, u27, u28, u29, u30, u31, u32, u33, u34, u35, rfl⟩ := rog 36 h9 rfl; clear h9; try simp only [DepG, AtG, and_true, relG, eqG, eqG1, eqG2, eqG3, gdG, gdG1, gnG, gnG1, List.getD_cons_zero, List.getD_cons_succ, List.getElem?_cons_succ, List.getElem?_cons_zero, Option.map_some, Option.getD_some, valsG, List.map_cons, List.map_nil, List.length_cons, List.length_nil] at hd)
      · ((try clear hd); clear hs; simp only [fillG, List.set_cons_zero, List.set_cons_succ]; refine want_n rfl ?_; go_wp2_with (first | fail); simp only [DoneG, fillG, List.set_cons_zero, List.set_cons_succ, relG, eqG, eqG1, eqG2, eqG3, gdG, gdG1, gnG, gnG1, List.getD_cons_zero, List.getD_cons_succ, List.getElem?_cons_succ, List.getElem?_cons_zero, Option.map_some, Option.getD_some, valsG, List.map_cons, List.map_nil, List.length_cons, List.length_nil]; exact ⟨_, rfl, (by first | with_reducible assumption | exact krg _ | exact Keep.al (krg _) _), fun _ _ => rfl⟩)
      · (have d0 := hd; clear hd; subst d0; clear hs; simp only [fillG, List.set_cons_zero, List.set_cons_succ]; refine want_n rfl ?_; go_wp2_with (first | fail); simp only [DoneG, fillG, List.set_cons_zero, List.set_cons_succ, relG, eqG, eqG1, eqG2, eqG3, gdG, gdG1, gnG, gnG1, List.getD_cons_zero, List.getD_cons_succ, List.getElem?_cons_succ, List.getElem?_cons_zero, Option.map_some, Option.getD_some, valsG, List.map_cons, List.map_nil, List.length_cons, List.length_nil]; exact ⟨_, rfl, (by first | with_reducible assumption | exact krg _ | exact Keep.al (krg _) _), fun _ _ => rfl⟩)
      · (have d1 := hd; clear hd; subst d1; clear hs; simp only [fillG, List.set_cons_zero, List.set_cons_succ]; refine want_n rfl ?_; go_wp2_with (first | fail); simp only [DoneG, fillG, List.set_cons_zero, List.set_cons_succ, relG, eqG, eqG1, eqG2, eqG3, gdG, gdG1, gnG, gnG1, List.getD_cons_zero, List.getD_cons_succ, List.getElem?_cons_succ, List.getElem?_cons_zero, Option.map_some, Option.getD_some, valsG, List.map_cons, List.map_nil, List.length_cons, List.length_nil]; exact ⟨_, rfl, (by first | with_reducible assumption | exact krg _ | exact Keep.al (krg _) _), fun _ _ => rfl⟩)
      · (have d2 := hd; clear hd; subst d2; clear hs; simp only [fillG, List.set_cons_zero, List.set_cons_succ]; have hKW := Keep.tr (Keep.dr (Keep.rf _)) (hE rfl); have c0 := Keep.cell hKW c0; have b0 := Keep.cell hKW b0; have b1 := Keep.cell hKW b1; have b2 := Keep.cell hKW b2; refine want_n rfl ?_; go_wp2_with (first | fail); simp only [DoneG, fillG, List.set_cons_zero, List.set_cons_succ, relG, eqG, eqG1, eqG2, eqG3, gdG, gdG1, gnG, gnG1, List.getD_cons_zero, List.getD_cons_succ, List.getElem?_cons_succ, List.getElem?_cons_zero, Option.map_some, Option.getD_some, valsG, List.map_cons, List.map_nil, List.length_cons, List.length_nil]; exact ⟨_, rfl, (by first | with_reducible assumption | exact krg _ | exact Keep.al (krg _) _), fun _ _ => rfl⟩)
      · ((try clear hd); clear hs; simp only [fillG, List.set_cons_zero, List.set_cons_succ]; refine want_n rfl ?_; go_wp2_with (first | fail); simp only [DoneG, fillG, List.set_cons_zero, List.set_cons_succ, relG, eqG, eqG1, eqG2, eqG3, gdG, gdG1, gnG, gnG1, List.getD_cons_zero, List.getD_cons_succ, List.getElem?_cons_succ, List.getElem?_cons_zero, Option.map_some, Option.getD_some, valsG, List.map_cons, List.map_nil, List.length_cons, List.length_nil]; exact ⟨_, rfl, (by first | with_reducible assumption | exact krg _ | exact Keep.al (krg _) _), fun _ _ => rfl⟩)
      · (obtain ⟨d3, d4⟩ := hd; subst d3; subst d4; clear hs; simp only [fillG, List.set_cons_zero, List.set_cons_succ]; have hKW := Keep.tr (Keep.dr (Keep.rf _)) (hE rfl); have c0 := Keep.cell hKW c0; have b0 := Keep.cell hKW b0; have b1 := Keep.cell hKW b1; have b2 := Keep.cell hKW b2; refine want_n rfl ?_; go_wp2_with (first | (go_at_call 90; refine (refTag _ (HRP3.out.keep hKW) n hn).mono ?_; rintro e w9 ⟨rfl, rfl⟩; rw [HTAG.out]) | fail); simp only [DoneG, fillG, List.set_cons_zero, List.set_cons_succ, relG, eqG, eqG1, eqG2, eqG3, gdG, gdG1, gnG, gnG1, List.getD_cons_zero, List.getD_cons_succ, List.getElem?_cons_succ, List.getElem?_cons_zero, Option.map_some, Option.getD_some, valsG, List.map_cons, List.map_nil, List.length_cons, List.length_nil]; exact ⟨_, rfl, (by first | with_reducible assumption | exact krg _ | exact Keep.al (krg _) _), fun W9 hk9 => rfl⟩)
      · ((try clear hd); clear hs; simp only [fillG, List.set_cons_zero, List.set_cons_succ]; have hKW := Keep.tr (Keep.dr (Keep.rf _)) (hE rfl); have c0 := Keep.cell hKW c0; have b0 := Keep.cell hKW b0; have b1 := Keep.cell hKW b1; have b2 := Keep.cell hKW b2; refine want_n rfl ?_; go_wp2_with (first | fail); simp only [DoneG, fillG, List.set_cons_zero, List.set_cons_succ, relG, eqG, eqG1, eqG2, eqG3, gdG, gdG1, gnG, gnG1, List.getD_cons_zero, List.getD_cons_succ, List.getElem?_cons_succ, List.getElem?_cons_zero, Option.map_some, Option.getD_some, valsG, List.map_cons, List.map_nil, List.length_cons, List.length_nil]; exact ⟨_, rfl, (by first | with_reducible assumption | exact krg _ | exact Keep.al (krg _) _), fun _ _ => rfl⟩)
      · (have d6 := hd; clear hd; subst d6; clear hs; simp only [fillG, List.set_cons_zero, List.set_cons_succ]; have hKW := Keep.tr (Keep.dr (Keep.rf _)) (hE rfl); have c0 := Keep.cell hKW c0; have b0 := Keep.cell hKW b0; have b1 := Keep.cell hKW b1; have b2 := Keep.cell hKW b2; refine want_n rfl ?_; go_wp2_with (first | (go_at_call 67; refine (refTag22 (HT3.out.ty.keep hKW) HOK.out HP.out).mono ?_; rintro e w9 ⟨rfl, k9⟩) | fail); simp only [DoneG, fillG, List.set_cons_zero, List.set_cons_succ, relG, eqG, eqG1, eqG2, eqG3, gdG, gdG1, gnG, gnG1, List.getD_cons_zero, List.getD_cons_succ, List.getElem?_cons_succ, List.getElem?_cons_zero, Option.map_some, Option.getD_some, valsG, List.map_cons, List.map_nil, List.length_cons, List.length_nil]; exact ⟨_, rfl, (by first | with_reducible assumption | exact krg _ | exact Keep.al (krg _) _), fun W9 hk9 => rfl⟩)
      · (obtain ⟨d5, d7⟩ := hd; subst d5; subst d7; clear hs; simp only [fillG, List.set_cons_zero, List.set_cons_succ]; refine want_n rfl ?_; go_wp2_with (first | fail); simp only [DoneG, fillG, List.set_cons_zero, List.set_cons_succ, relG, eqG, eqG1, eqG2, eqG3, gdG, gdG1, gnG, gnG1, List.getD_cons_zero, List.getD_cons_succ, List.getElem?_cons_succ, List.getElem?_cons_zero, Option.map_some, Option.getD_some, valsG, List.map_cons, List.map_nil, List.length_cons, List.length_nil]; exact ⟨_, rfl, (by first | with_reducible assumption | exact krg _ | exact Keep.al (krg _) _), fun _ _ => rfl⟩)
      · (have d8 := hd; clear hd; subst d8; clear hs; simp only [fillG, List.set_cons_zero, List.set_cons_succ]; refine want_n rfl ?_; go_wp2_with (first | fail); simp only [DoneG, fillG, List.set_cons_zero, List.set_cons_succ, relG, eqG, eqG1, eqG2, eqG3, gdG, gdG1, gnG, gnG1, List.getD_cons_zero, List.getD_cons_succ, List.getElem?_cons_succ, List.getElem?_cons_zero, Option.map_some, Option.getD_some, valsG, List.map_cons, List.map_nil, List.length_cons, List.length_nil]; exact ⟨_, rfl, (by first | with_reducible assumption | exact krg _ | exact Keep.al (krg _) _), fun _ _ => rfl⟩)
      · (have d9 := hd; clear hd; subst d9; clear hs; simp only [fillG, List.set_cons_zero, List.set_cons_succ]; refine want_y rfl ?_; go_wp2_with (first | fail); simp only [DoneG, fillG, List.set_cons_zero, List.set_cons_succ, relG, eqG, eqG1, eqG2, eqG3, gdG, gdG1, gnG, gnG1, List.getD_cons_zero, List.getD_cons_succ, List.getElem?_cons_succ, List.getElem?_cons_zero, Option.map_some, Option.getD_some, valsG, List.map_cons, List.map_nil, List.length_cons, List.length_nil]; exact ⟨_, rfl, (by first | with_reducible assumption | exact krg _ | exact Keep.al (krg _) _), fun _ _ => rfl⟩)
      · (obtain ⟨d9, d10⟩ := hd; subst d9; subst d10; clear hs; simp only [fillG, List.set_cons_zero, List.set_cons_succ]; have hKW := Keep.tr (Keep.dr (Keep.rf _)) (hE rfl); have c0 := Keep.cell hKW c0; have b0 := Keep.cell hKW b0; have b1 := Keep.cell hKW b1; have b2 := Keep.cell hKW b2; refine want_y rfl ?_; go_wp2_with (first | fail); simp only [DoneG, fillG, List.set_cons_zero, List.set_cons_succ, relG, eqG, eqG1, eqG2, eqG3, gdG, gdG1, gnG, gnG1, List.getD_cons_zero, List.getD_cons_succ, List.getElem?_cons_succ, List.getElem?_cons_zero, Option.map_some, Option.getD_some, valsG, List.map_cons, List.map_nil, List.length_cons, List.length_nil]; exact ⟨_, rfl, (by first | with_reducible assumption | exact krg _ | exact Keep.al (krg _) _), fun _ _ => rfl⟩)
      · (obtain ⟨d9, d11⟩ := hd; subst d9; subst d11; clear hs; simp only [fillG, List.set_cons_zero, List.set_cons_succ]; refine want_y rfl ?_; go_wp2_with (first | fail); simp only [DoneG, fillG, List.set_cons_zero, List.set_cons_succ, relG, eqG, eqG1, eqG2, eqG3, gdG, gdG1, gnG, gnG1, List.getD_cons_zero, List.getD_cons_succ, List.getElem?_cons_succ, List.getElem?_cons_zero, Option.map_some, Option.getD_some, valsG, List.map_cons, List.map_nil, List.length_cons, List.length_nil]; exact ⟨_, rfl, (by first | with_reducible assumption | exact krg _ | exact Keep.al (krg _) _), fun _ _ => rfl⟩)
      · (obtain ⟨d9, d12⟩ := hd; subst d9; subst d12; clear hs; simp only [fillG, List.set_cons_zero, List.set_cons_succ]; refine want_y rfl ?_; go_wp2_with (first | fail); simp only [DoneG, fillG, List.set_cons_zero, List.set_cons_succ, relG, eqG, eqG1, eqG2, eqG3, gdG, gdG1, gnG, gnG1, List.getD_cons_zero, List.getD_cons_succ, List.getElem?_cons_succ, List.getElem?_cons_zero, Option.map_some, Option.getD_some, valsG, List.map_cons, List.map_nil, List.length_cons, List.length_nil]; exact ⟨_, rfl, (by first | with_reducible assumption | exact krg _ | exact Keep.al (krg _) _), fun _ _ => rfl⟩)
      · (have d13 := hd; clear hd; subst d13; clear hs; simp only [fillG, List.set_cons_zero, List.set_cons_succ]; refine want_f rfl ?_; refine hK _ _ ?_; simp only [DoneG, fillG, List.set_cons_zero, List.set_cons_succ, relG, eqG, eqG1, eqG2, eqG3, gdG, gdG1, gnG, gnG1, List.getD_cons_zero, List.getD_cons_succ, List.getElem?_cons_succ, List.getElem?_cons_zero, Option.map_some, Option.getD_some, valsG, List.map_cons, List.map_nil, List.length_cons, List.length_nil]; exact ⟨undef, rfl, krg _, fun _ _ => rfl⟩)
      · (obtain ⟨d13, d14⟩ := hd; subst d13; subst d14; clear hs; simp only [fillG, List.set_cons_zero, List.set_cons_succ]; refine want_f rfl ?_; refine hK _ _ ?_; simp only [DoneG, fillG, List.set_cons_zero, List.set_cons_succ, relG, eqG, eqG1, eqG2, eqG3, gdG, gdG1, gnG, gnG1, List.getD_cons_zero, List.getD_cons_succ, List.getElem?_cons_succ, List.getElem?_cons_zero, Option.map_some, Option.getD_some, valsG, List.map_cons, List.map_nil, List.length_cons, List.length_nil]; exact ⟨undef, rfl, krg _, fun _ _ => rfl⟩)
      · (obtain ⟨d9, d13, d15⟩ := hd; subst d9; subst d13; subst d15; clear hs; simp only [fillG, List.set_cons_zero, List.set_cons_succ]; refine want_y rfl ?_; go_wp2_with (first | fail); simp only [DoneG, fillG, List.set_cons_zero, List.set_cons_succ, relG, eqG, eqG1, eqG2, eqG3, gdG, gdG1, gnG, gnG1, List.getD_cons_zero, List.getD_cons_succ, List.getElem?_cons_succ, List.getElem?_cons_zero, Option.map_some, Option.getD_some, valsG, List.map_cons, List.map_nil, List.length_cons, List.length_nil]; exact ⟨_, rfl, (by first | with_reducible assumption | exact krg _ | exact Keep.al (krg _) _), fun _ _ => rfl⟩)
      · (obtain ⟨d9, d16⟩ := hd; subst d9; subst d16; clear hs; simp only [fillG, List.set_cons_zero, List.set_cons_succ]; refine want_n rfl ?_; go_wp2_with (first | fail); simp only [DoneG, fillG, List.set_cons_zero, List.set_cons_succ, relG, eqG, eqG1, eqG2, eqG3, gdG, gdG1, gnG, gnG1, List.getD_cons_zero, List.getD_cons_succ, List.getElem?_cons_succ, List.getElem?_cons_zero, Option.map_some, Option.getD_some, valsG, List.map_cons, List.map_nil, List.length_cons, List.length_nil]; exact ⟨_, rfl, (by first | with_reducible assumption | exact krg _ | exact Keep.al (krg _) _), fun _ _ => rfl⟩)
      · (have d17 := hd; clear hd; subst d17; clear hs; simp only [fillG, List.set_cons_zero, List.set_cons_succ]; refine want_n rfl ?_; go_wp2_with (first | fail); simp only [DoneG, fillG, List.set_cons_zero, List.set_cons_succ, relG, eqG, eqG1, eqG2, eqG3, gdG, gdG1, gnG, gnG1, List.getD_cons_zero, List.getD_cons_succ, List.getElem?_cons_succ, List.getElem?_cons_zero, Option.map_some, Option.getD_some, valsG, List.map_cons, List.map_nil, List.length_cons, List.length_nil]; exact ⟨_, rfl, (by first | with_reducible assumption | exact krg _ | exact Keep.al (krg _) _), fun _ _ => rfl⟩)
      · (have d18 := hd; clear hd; subst d18; clear hs; simp only [fillG, List.set_cons_zero, List.set_cons_succ]; refine want_y rfl ?_; go_wp2_with (first | fail); simp only [DoneG, fillG, List.set_cons_zero, List.set_cons_succ, relG, eqG, eqG1, eqG2, eqG3, gdG, gdG1, gnG, gnG1, List.getD_cons_zero, List.getD_cons_succ, List.getElem?_cons_succ, List.getElem?_cons_zero, Option.map_some, Option.getD_some, valsG, List.map_cons, List.map_nil, List.length_cons, List.length_nil]; exact ⟨_, rfl, (by first | with_reducible assumption | exact krg _ | exact Keep.al (krg _) _), fun _ _ => rfl⟩)
      · (obtain ⟨d18, d19⟩ := hd; subst d18; subst d19; clear hs; simp only [fillG, List.set_cons_zero, List.set_cons_succ]; have hKW := Keep.tr (Keep.dr (Keep.rf _)) (hE rfl); have c0 := Keep.cell hKW c0; have b0 := Keep.cell hKW b0; have b1 := Keep.cell hKW b1; have b2 := Keep.cell hKW b2; refine want_y rfl ?_; go_wp2_with (first | fail); simp only [DoneG, fillG, List.set_cons_zero, List.set_cons_succ, relG, eqG, eqG1, eqG2, eqG3, gdG, gdG1, gnG, gnG1, List.getD_cons_zero, List.getD_cons_succ, List.getElem?_cons_succ, List.getElem?_cons_zero, Option.map_some, Option.getD_some, valsG, List.map_cons, List.map_nil, List.length_cons, List.length_nil]; exact ⟨_, rfl, (by first | with_reducible assumption | exact krg _ | exact Keep.al (krg _) _), fun _ _ => rfl⟩)
      · (obtain ⟨d18, d20⟩ := hd; subst d18; subst d20; clear hs; simp only [fillG, List.set_cons_zero, List.set_cons_succ]; refine want_y rfl ?_; go_wp2_with (first | fail); simp only [DoneG, fillG, List.set_cons_zero, List.set_cons_succ, relG, eqG, eqG1, eqG2, eqG3, gdG, gdG1, gnG, gnG1, List.getD_cons_zero, List.getD_cons_succ, List.getElem?_cons_succ, List.getElem?_cons_zero, Option.map_some, Option.getD_some, valsG, List.map_cons, List.map_nil, List.length_cons, List.length_nil]; exact ⟨_, rfl, (by first | with_reducible assumption | exact krg _ | exact Keep.al (krg _) _), fun _ _ => rfl⟩)
      · (obtain ⟨d18, d21⟩ := hd; subst d18; subst d21; clear hs; simp only [fillG, List.set_cons_zero, List.set_cons_succ]; refine want_y rfl ?_; go_wp2_with (first | fail); simp only [DoneG, fillG, List.set_cons_zero, List.set_cons_succ, relG, eqG, eqG1, eqG2, eqG3, gdG, gdG1, gnG, gnG1, List.getD_cons_zero, List.getD_cons_succ, List.getElem?_cons_succ, List.getElem?_cons_zero, Option.map_some, Option.getD_some, valsG, List.map_cons, List.map_nil, List.length_cons, List.length_nil]; exact ⟨_, rfl, (by first | with_reducible assumption | exact krg _ | exact Keep.al (krg _) _), fun _ _ => rfl⟩)
      · (have d22 := hd; clear hd; subst d22; clear hs; simp only [fillG, List.set_cons_zero, List.set_cons_succ]; refine want_y rfl ?_; go_wp2_with (first | fail); simp only [DoneG, fillG, List.set_cons_zero, List.set_cons_succ, relG, eqG, eqG1, eqG2, eqG3, gdG, gdG1, gnG, gnG1, List.getD_cons_zero, List.getD_cons_succ, List.getElem?_cons_succ, List.getElem?_cons_zero, Option.map_some, Option.getD_some, valsG, List.map_cons, List.map_nil, List.length_cons, List.length_nil]; exact ⟨_, rfl, (by first | with_reducible assumption | exact krg _ | exact Keep.al (krg _) _), fun _ _ => rfl⟩)
      · (obtain ⟨d22, d23⟩ := hd; subst d22; subst d23; clear hs; simp only [fillG, List.set_cons_zero, List.set_cons_succ]; refine want_y rfl ?_; go_wp2_with (first | fail); simp only [DoneG, fillG, List.set_cons_zero, List.set_cons_succ, relG, eqG, eqG1, eqG2, eqG3, gdG, gdG1, gnG, gnG1, List.getD_cons_zero, List.getD_cons_succ, List.getElem?_cons_succ, List.getElem?_cons_zero, Option.map_some, Option.getD_some, valsG, List.map_cons, List.map_nil, List.length_cons, List.length_nil]; exact ⟨_, rfl, (by first | with_reducible assumption | exact krg _ | exact Keep.al (krg _) _), fun _ _ => rfl⟩)
      · (obtain ⟨d22, d24⟩ := hd; subst d22; subst d24; clear hs; simp only [fillG, List.set_cons_zero, List.set_cons_succ]; refine want_y rfl ?_; go_wp2_with (first | fail); simp only [DoneG, fillG, List.set_cons_zero, List.set_cons_succ, relG, eqG, eqG1, eqG2, eqG3, gdG, gdG1, gnG, gnG1, List.getD_cons_zero, List.getD_cons_succ, List.getElem?_cons_succ, List.getElem?_cons_zero, Option.map_some, Option.getD_some, valsG, List.map_cons, List.map_nil, List.length_cons, List.length_nil]; exact ⟨_, rfl, (by first | with_reducible assumption | exact krg _ | exact Keep.al (krg _) _), fun _ _ => rfl⟩)
      · (obtain ⟨d22, d25⟩ := hd; subst d22; subst d25; clear hs; simp only [fillG, List.set_cons_zero, List.set_cons_succ]; have hKW := Keep.tr (Keep.dr (Keep.rf _)) (hE rfl); have c0 := Keep.cell hKW c0; have b0 := Keep.cell hKW b0; have b1 := Keep.cell hKW b1; have b2 := Keep.cell hKW b2; refine want_y rfl ?_; go_wp2_with (first | fail); simp only [DoneG, fillG, List.set_cons_zero, List.set_cons_succ, relG, eqG, eqG1, eqG2, eqG3, gdG, gdG1, gnG, gnG1, List.getD_cons_zero, List.getD_cons_succ, List.getElem?_cons_succ, List.getElem?_cons_zero, Option.map_some, Option.getD_some, valsG, List.map_cons, List.map_nil, List.length_cons, List.length_nil]; exact ⟨_, rfl, (by first | with_reducible assumption | exact krg _ | exact Keep.al (krg _) _), fun _ _ => rfl⟩)
      · (have d22 := hd; clear hd; subst d22; clear hs; simp only [fillG, List.set_cons_zero, List.set_cons_succ]; refine want_y rfl ?_; go_wp2_with (first | fail); simp only [DoneG, fillG, List.set_cons_zero, List.set_cons_succ, relG, eqG, eqG1, eqG2, eqG3, gdG, gdG1, gnG, gnG1, List.getD_cons_zero, List.getD_cons_succ, List.getElem?_cons_succ, List.getElem?_cons_zero, Option.map_some, Option.getD_some, valsG, List.map_cons, List.map_nil, List.length_cons, List.length_nil]; exact ⟨_, rfl, (by first | with_reducible assumption | exact krg _ | exact Keep.al (krg _) _), fun _ _ => rfl⟩)
      · (obtain ⟨d22, d26, d27⟩ := hd; subst d22; subst d26; subst d27; clear hs; simp only [fillG, List.set_cons_zero, List.set_cons_succ]; have hKW := Keep.tr (Keep.dr (Keep.rf _)) (hE rfl); have c0 := Keep.cell hKW c0; have b0 := Keep.cell hKW b0; have b1 := Keep.cell hKW b1; have b2 := Keep.cell hKW b2; refine want_y rfl ?_; go_wp2_with (first | (go_at_call 86; refine (HFLD.out _ (Keep.tr HM3.out.k0 hKW)).mono ?_; rintro e w9 ⟨rfl, rfl⟩) | fail); simp only [DoneG, fillG, List.set_cons_zero, List.set_cons_succ, relG, eqG, eqG1, eqG2, eqG3, gdG, gdG1, gnG, gnG1, List.getD_cons_zero, List.getD_cons_succ, List.getElem?_cons_succ, List.getElem?_cons_zero, Option.map_some, Option.getD_some, valsG, List.map_cons, List.map_nil, List.length_cons, List.length_nil]; exact ⟨_, rfl, (by first | with_reducible assumption | exact krg _ | exact Keep.al (krg _) _), fun W9 hk9 => rfl⟩)
      · (obtain ⟨d22, d28⟩ := hd; subst d22; subst d28; clear hs; simp only [fillG, List.set_cons_zero, List.set_cons_succ]; have hKW := Keep.tr (Keep.dr (Keep.rf _)) (hE rfl); have c0 := Keep.cell hKW c0; have b0 := Keep.cell hKW b0; have b1 := Keep.cell hKW b1; have b2 := Keep.cell hKW b2; refine want_y rfl ?_; go_wp2_with (first | fail); simp only [DoneG, fillG, List.set_cons_zero, List.set_cons_succ, relG, eqG, eqG1, eqG2, eqG3, gdG, gdG1, gnG, gnG1, List.getD_cons_zero, List.getD_cons_succ, List.getElem?_cons_succ, List.getElem?_cons_zero, Option.map_some, Option.getD_some, valsG, List.map_cons, List.map_nil, List.length_cons, List.length_nil]; exact ⟨_, rfl, (by first | with_reducible assumption | exact krg _ | exact Keep.al (krg _) _), fun _ _ => rfl⟩)
      · (have d22 := hd; clear hd; subst d22; clear hs; simp only [fillG, List.set_cons_zero, List.set_cons_succ]; have hKW := Keep.tr (Keep.dr (Keep.rf _)) (hE rfl); have c0 := Keep.cell hKW c0; have b0 := Keep.cell hKW b0; have b1 := Keep.cell hKW b1; have b2 := Keep.cell hKW b2; refine want_y rfl ?_; go_wp2_with (first | fail); simp only [DoneG, fillG, List.set_cons_zero, List.set_cons_succ, relG, eqG, eqG1, eqG2, eqG3, gdG, gdG1, gnG, gnG1, List.getD_cons_zero, List.getD_cons_succ, List.getElem?_cons_succ, List.getElem?_cons_zero, Option.map_some, Option.getD_some, valsG, List.map_cons, List.map_nil, List.length_cons, List.length_nil]; exact ⟨_, rfl, (by first | with_reducible assumption | exact krg _ | exact Keep.al (krg _) _), fun _ _ => rfl⟩)
      · (obtain ⟨d22, d30⟩ := hd; subst d22; subst d30; clear hs; simp only [fillG, List.set_cons_zero, List.set_cons_succ]; have hKW := Keep.tr (Keep.dr (Keep.rf _)) (hE rfl); have c0 := Keep.cell hKW c0; have b0 := Keep.cell hKW b0; have b1 := Keep.cell hKW b1; have b2 := Keep.cell hKW b2; refine want_y rfl ?_; go_wp2_with (first | (go_at_call 69; refine (HKN3.out _ hKW).mono ?_; rintro e w9 ⟨v31, d31, rfl, hs31, _, hk9⟩; obtain ⟨A31, c31, e31, _⟩ := id hs31) | fail); simp only [DoneG, fillG, List.set_cons_zero, List.set_cons_succ, relG, eqG, eqG1, eqG2, eqG3, gdG, gdG1, gnG, gnG1, List.getD_cons_zero, List.getD_cons_succ, List.getElem?_cons_succ, List.getElem?_cons_zero, Option.map_some, Option.getD_some, valsG, List.map_cons, List.map_nil, List.length_cons, List.length_nil]; exact ⟨_, rfl, (by first | with_reducible assumption | exact krg _ | exact Keep.al (krg _) _), fun W9 hk9 => ⟨A31, c31, by first | exact e31 | rfl⟩⟩)
      · (obtain ⟨d22, d31⟩ := hd; subst d22; obtain ⟨A31, c31, rfl⟩ := d31; clear hs; simp only [fillG, List.set_cons_zero, List.set_cons_succ]; have hKW := Keep.tr (Keep.dr (Keep.rf _)) (hE rfl); have c0 := Keep.cell hKW c0; have b0 := Keep.cell hKW b0; have b1 := Keep.cell hKW b1; have b2 := Keep.cell hKW b2; refine want_y rfl ?_; go_wp2_with (first | fail); simp only [DoneG, fillG, List.set_cons_zero, List.set_cons_succ, relG, eqG, eqG1, eqG2, eqG3, gdG, gdG1, gnG, gnG1, List.getD_cons_zero, List.getD_cons_succ, List.getElem?_cons_succ, List.getElem?_cons_zero, Option.map_some, Option.getD_some, valsG, List.map_cons, List.map_nil, List.length_cons, List.length_nil]; exact ⟨_, rfl, (by first | with_reducible assumption | exact krg _ | exact Keep.al (krg _) _), fun _ _ => rfl⟩)
      · (obtain ⟨d22, d29, d32⟩ := hd; subst d22; subst d29; subst d32; clear hs; simp only [fillG, List.set_cons_zero, List.set_cons_succ]; have hKW := Keep.tr (Keep.dr (Keep.rf _)) (hE rfl); have c0 := Keep.cell hKW c0; have b0 := Keep.cell hKW b0; have b1 := Keep.cell hKW b1; have b2 := Keep.cell hKW b2; refine want_y rfl ?_; go_wp2_with (first | fail); simp only [DoneG, fillG, List.set_cons_zero, List.set_cons_succ, relG, eqG, eqG1, eqG2, eqG3, gdG, gdG1, gnG, gnG1, List.getD_cons_zero, List.getD_cons_succ, List.getElem?_cons_succ, List.getElem?_cons_zero, Option.map_some, Option.getD_some, valsG, List.map_cons, List.map_nil, List.length_cons, List.length_nil]; exact ⟨_, rfl, (by first | with_reducible assumption | exact krg _ | exact Keep.al (krg _) _), fun _ _ => rfl⟩)
      · (obtain ⟨d18, d22, d33⟩ := hd; subst d18; subst d22; subst d33; clear hs; simp only [fillG, List.set_cons_zero, List.set_cons_succ]; refine want_y rfl ?_; go_wp2_with (first | fail); simp only [DoneG, fillG, List.set_cons_zero, List.set_cons_succ, relG, eqG, eqG1, eqG2, eqG3, gdG, gdG1, gnG, gnG1, List.getD_cons_zero, List.getD_cons_succ, List.getElem?_cons_succ, List.getElem?_cons_zero, Option.map_some, Option.getD_some, valsG, List.map_cons, List.map_nil, List.length_cons, List.length_nil]; exact ⟨_, rfl, (by first | with_reducible assumption | exact krg _ | exact Keep.al (krg _) _), fun _ _ => rfl⟩)
      · (obtain ⟨d18, d34⟩ := hd; subst d18; subst d34; clear hs; simp only [fillG, List.set_cons_zero, List.set_cons_succ]; refine want_n rfl ?_; go_wp2_with (first | fail); simp only [DoneG, fillG, List.set_cons_zero, List.set_cons_succ, relG, eqG, eqG1, eqG2, eqG3, gdG, gdG1, gnG, gnG1, List.getD_cons_zero, List.getD_cons_succ, List.getElem?_cons_succ, List.getElem?_cons_zero, Option.map_some, Option.getD_some, valsG, List.map_cons, List.map_nil, List.length_cons, List.length_nil]; exact ⟨_, rfl, (by first | with_reducible assumption | exact krg _ | exact Keep.al (krg _) _), fun _ _ => rfl⟩)
    (intro us W4 h9 hW hE hA; obtain ⟨u0, u1, u2, u3, u4, u5, u6, u7, u8, u9, u10, u11, u12, u13, u14, u15, u16, u17, u18, u19, u20, u21, u22, u23, u24, u25, u26, u27, u28, u29, u30, u31, u32, u33, u34, u35, rfl⟩ := rog 36 h9 rfl; clear h9; simp only [AllG, AtG, and_true, relG, eqG, eqG1, eqG2, eqG3, gdG, gdG1, gnG, gnG1, List.getD_cons_zero, List.getD_cons_succ, List.getElem?_cons_succ, List.getElem?_cons_zero, Option.map_some, Option.getD_some, valsG, List.map_cons, List.map_nil, List.length_cons, List.length_nil] at hA; obtain ⟨d31, d35⟩ := hA; obtain ⟨A31, c31, rfl⟩ := d31; subst d35; simp only [fillG, List.set_cons_zero, List.set_cons_succ]; have k4 := Keep.tr (Keep.dr (Keep.rf _)) hW; clear hW hE)
    have hlenI : ¬ (tys.length : Int) ≥ 2000 := by have := HLN.out; omega
    have hM4 := HM3.out.keep k4
    have HB4 := hide ((k4.frm fun _ => False).heap (fun h => h) HB3.out)
    have b0 := top_cells HB4.out 0
    have b1 := top_cells HB4.out 1
    have b2 := top_cells HB4.out 2
    have c0 := top_cells hM4.top 0
    have c1 := top_cells hM4.top 1
    have c2 := top_cells hM4.top 2
    simp only [List.getElem?_toArray, List.getElem?_cons_succ, List.getElem?_cons_zero] at b0 b1 b2 c0 c1 c2
    have HM4 := hide hM4
    have HT4 := hide (HT3.out.keep k4)
    have HW4 := hide (HW3.out.tr (KWent.of_keep k4))
    have HL4 := hide (Nat.lt_of_lt_of_le HL3.out k4.size)
    clear hM4 k4 HM3 HT3 HW3 HL3 HB3 HRP3
    go_wp2_with fail
    apply region_last 10 _ (by kernel_rfl) Keep Keep krg ktg krg ktg (fun _ _ h => h) [some 116, some 117, some 118, some 119, some 120, some 121, some 122, some 123, some 124, some 125, none] [eqG _ , eqG _ , eqG _ , eqG _ , eqG _ , eqG _ , eqG _ , eqG _ , eqG _ , eqG _ , fun _ _ _ => True] [⟨[], [], true, false, false⟩, ⟨[0], [], true, false, false⟩, ⟨[1], [], true, false, false⟩, ⟨[2], [], true, false, false⟩, ⟨[], [], true, false, false⟩, ⟨[], [], true, false, false⟩, ⟨[5], [], true, false, false⟩, ⟨[6], [], true, false, false⟩, ⟨[7], [], true, false, false⟩, ⟨[8], [], true, false, false⟩, ⟨[3, 4, 9], [], true, false, false⟩] [3, 4, 9] (by kernel_rfl) (by kernel_rfl) (by kernel_rfl) rfl (by kernel_rfl)
    · refine ⟨?_, ?_, ?_, ?_, ?_, ?_, ?_, ?_, ?_, ?_, trivial⟩ <;> (intro us W h9 hW hE hd hs K hK; obtain ⟨u0, u1, u2, u3, u4, u5, u6, u7, u8, u9, u10, rfl⟩ := rog 11 h9 rfl; clear h9; try simp only [DepG, AtG, and_true, relG, eqG, eqG1, eqG2, eqG3, gdG, gdG1, gnG, gnG1, List.getD_cons_zero, List.getD_cons_succ, List.getElem?_cons_succ, List.getElem?_cons_zero, Option.map_some, Option.getD_some, valsG, List.map_cons, List.map_nil, List.length_cons, List.length_nil] at hd)
      · ((try clear hd); clear hs; simp only [fillG, List.set_cons_zero, List.set_cons_succ]; refine want_n rfl ?_; go_wp2_with (first | fail); simp only [DoneG, fillG, List.set_cons_zero, List.set_cons_succ, relG, eqG, eqG1, eqG2, eqG3, gdG, gdG1, gnG, gnG1, List.getD_cons_zero, List.getD_cons_succ, List.getElem?_cons_succ, List.getElem?_cons_zero, Option.map_some, Option.getD_some, valsG, List.map_cons, List.map_nil, List.length_cons, List.length_nil]; exact ⟨_, rfl, (by first | with_reducible assumption | exact krg _ | exact Keep.al (krg _) _), fun _ _ => rfl⟩)
      · (have d0 := hd; clear hd; subst d0; clear hs; simp only [fillG, List.set_cons_zero, List.set_cons_succ]; refine want_n rfl ?_; go_wp2_with (first | fail); simp only [DoneG, fillG, List.set_cons_zero, List.set_cons_succ, relG, eqG, eqG1, eqG2, eqG3, gdG, gdG1, gnG, gnG1, List.getD_cons_zero, List.getD_cons_succ, List.getElem?_cons_succ, List.getElem?_cons_zero, Option.map_some, Option.getD_some, valsG, List.map_cons, List.map_nil, List.length_cons, List.length_nil]; exact ⟨_, rfl, (by first | with_reducible assumption | exact krg _ | exact Keep.al (krg _) _), fun _ _ => rfl⟩)
      · (have d1 := hd; clear hd; subst d1; clear hs; simp only [fillG, List.set_cons_zero, List.set_cons_succ]; refine want_n rfl ?_; go_wp2_with (first | fail); simp only [DoneG, fillG, List.set_cons_zero, List.set_cons_succ, relG, eqG, eqG1, eqG2, eqG3, gdG, gdG1, gnG, gnG1, List.getD_cons_zero, List.getD_cons_succ, List.getElem?_cons_succ, List.getElem?_cons_zero, Option.map_some, Option.getD_some, valsG, List.map_cons, List.map_nil, List.length_cons, List.length_nil]; exact ⟨_, rfl, (by first | with_reducible assumption | exact krg _ | exact Keep.al (krg _) _), fun _ _ => rfl⟩)
      · (have d2 := hd; clear hd; subst d2; clear hs; simp only [fillG, List.set_cons_zero, List.set_cons_succ]; have hKW := Keep.tr (Keep.dr (Keep.rf _)) (hE rfl); have c1 := Keep.cell hKW c1; have c2 := Keep.cell hKW c2; refine want_n rfl ?_; go_wp2_with (first | fail); simp only [DoneG, fillG, List.set_cons_zero, List.set_cons_succ, relG, eqG, eqG1, eqG2, eqG3, gdG, gdG1, gnG, gnG1, List.getD_cons_zero, List.getD_cons_succ, List.getElem?_cons_succ, List.getElem?_cons_zero, Option.map_some, Option.getD_some, valsG, List.map_cons, List.map_nil, List.length_cons, List.length_nil]; exact ⟨_, rfl, (by first | with_reducible assumption | exact krg _ | exact Keep.al (krg _) _), fun _ _ => rfl⟩)
      · ((try clear hd); clear hs; simp only [fillG, List.set_cons_zero, List.set_cons_succ]; refine want_n rfl ?_; go_wp2_with (first | fail); simp only [DoneG, fillG, List.set_cons_zero, List.set_cons_succ, relG, eqG, eqG1, eqG2, eqG3, gdG, gdG1, gnG, gnG1, List.getD_cons_zero, List.getD_cons_succ, List.getElem?_cons_succ, List.getElem?_cons_zero, Option.map_some, Option.getD_some, valsG, List.map_cons, List.map_nil, List.length_cons, List.length_nil]; exact ⟨_, rfl, (by first | with_reducible assumption | exact krg _ | exact Keep.al (krg _) _), fun _ _ => rfl⟩)
      · ((try clear hd); clear hs; simp only [fillG, List.set_cons_zero, List.set_cons_succ]; refine want_n rfl ?_; go_wp2_with (first | fail); simp only [DoneG, fillG, List.set_cons_zero, List.set_cons_succ, relG, eqG, eqG1, eqG2, eqG3, gdG, gdG1, gnG, gnG1, List.getD_cons_zero, List.getD_cons_succ, List.getElem?_cons_succ, List.getElem?_cons_zero, Option.map_some, Option.getD_some, valsG, List.map_cons, List.map_nil, List.length_cons, List.length_nil]; exact ⟨_, rfl, (by first | with_reducible assumption | exact krg _ | exact Keep.al (krg _) _), fun _ _ => rfl⟩)
      · (have d5 := hd; clear hd; subst d5; clear hs; simp only [fillG, List.set_cons_zero, List.set_cons_succ]; refine want_n rfl ?_; go_wp2_with (first | fail); simp only [DoneG, fillG, List.set_cons_zero, List.set_cons_succ, relG, eqG, eqG1, eqG2, eqG3, gdG, gdG1, gnG, gnG1, List.getD_cons_zero, List.getD_cons_succ, List.getElem?_cons_succ, List.getElem?_cons_zero, Option.map_some, Option.getD_some, valsG, List.map_cons, List.map_nil, List.length_cons, List.length_nil]; exact ⟨_, rfl, (by first | with_reducible assumption | exact krg _ | exact Keep.al (krg _) _), fun _ _ => rfl⟩)
      · (have d6 := hd; clear hd; subst d6; clear hs; simp only [fillG, List.set_cons_zero, List.set_cons_succ]; refine want_n rfl ?_; go_wp2_with (first | fail); simp only [DoneG, fillG, List.set_cons_zero, List.set_cons_succ, relG, eqG, eqG1, eqG2, eqG3, gdG, gdG1, gnG, gnG1, List.getD_cons_zero, List.getD_cons_succ, List.getElem?_cons_succ, List.getElem?_cons_zero, Option.map_some, Option.getD_some, valsG, List.map_cons, List.map_nil, List.length_cons, List.length_nil]; exact ⟨_, rfl, (by first | with_reducible assumption | exact krg _ | exact Keep.al (krg _) _), fun _ _ => rfl⟩)
      · (have d7 := hd; clear hd; subst d7; clear hs; simp only [fillG, List.set_cons_zero, List.set_cons_succ]; have hKW := Keep.tr (Keep.dr (Keep.rf _)) (hE rfl); have c1 := Keep.cell hKW c1; have c2 := Keep.cell hKW c2; refine want_n rfl ?_; go_wp2_with (first | fail); simp only [DoneG, fillG, List.set_cons_zero, List.set_cons_succ, relG, eqG, eqG1, eqG2, eqG3, gdG, gdG1, gnG, gnG1, List.getD_cons_zero, List.getD_cons_succ, List.getElem?_cons_succ, List.getElem?_cons_zero, Option.map_some, Option.getD_some, valsG, List.map_cons, List.map_nil, List.length_cons, List.length_nil]; exact ⟨_, rfl, (by first | with_reducible assumption | exact krg _ | exact Keep.al (krg _) _), fun _ _ => rfl⟩)
      · (have d8 := hd; clear hd; subst d8; clear hs; simp only [fillG, List.set_cons_zero, List.set_cons_succ]; have hKW := Keep.tr (Keep.dr (Keep.rf _)) (hE rfl); have c1 := Keep.cell hKW c1; have c2 := Keep.cell hKW c2; refine want_n rfl ?_; go_wp2_with (first | fail); simp only [DoneG, fillG, List.set_cons_zero, List.set_cons_succ, relG, eqG, eqG1, eqG2, eqG3, gdG, gdG1, gnG, gnG1, List.getD_cons_zero, List.getD_cons_succ, List.getElem?_cons_succ, List.getElem?_cons_zero, Option.map_some, Option.getD_some, valsG, List.map_cons, List.map_nil, List.length_cons, List.length_nil]; exact ⟨_, rfl, (by first | with_reducible assumption | exact krg _ | exact Keep.al (krg _) _), fun _ _ => rfl⟩)
    (intro us W5 h9 hW hE hA hl9; obtain ⟨u0, u1, u2, u3, u4, u5, u6, u7, u8, u9, u10, rfl⟩ := rog 11 h9 rfl; clear h9; clear hl9; simp only [AllG, AtG, and_true, relG, eqG, eqG1, eqG2, eqG3, gdG, gdG1, gnG, gnG1, List.getD_cons_zero, List.getD_cons_succ, List.getElem?_cons_succ, List.getElem?_cons_zero, Option.map_some, Option.getD_some, valsG, List.map_cons, List.map_nil, List.length_cons, List.length_nil] at hA; obtain ⟨d3, d4, d9⟩ := hA; subst d3; subst d4; subst d9; simp only [fillG, List.set_cons_zero, List.set_cons_succ]; have k5 := Keep.tr (Keep.dr (Keep.rf _)) hW; clear hW hE; refine want_n rfl ?_)
    have hM5 := HM4.out.keep k5
    obtain ⟨w6, hup, hm6, F6⟩ := hM5.map.put (P := Try.prog) Try.underlying114 Try.underlying36 n hn (by unfold posKV; rw [hi]; rfl) (.int .i64 (tys.length : Int))
    have hmp : (fun m => if m = n then some (Value.int .i64 (tys.length : Int)) else posKV s.ws m) = posKV (s.ws ++ [n]) := by rw [posKV_snoc hi, HLN.out]
    rw [hmp] at hm6
    clear hmp
    obtain ⟨hM6, hW6⟩ := hM5.mapped F6 hm6
    have HB6 := hide (hW6.heap HNB.out ((k5.frm fun _ => False).heap (fun h => h) HB4.out))
    have HT6 := hide (hW6.ty hM5 (HT4.out.keep k5))
    have b0 := top_cells HB6.out 0
    have b1 := top_cells HB6.out 1
    have b2 := top_cells HB6.out 2
    have c2 := top_cells hM6.top 2
    simp only [List.getElem?_toArray, List.getElem?_cons_succ, List.getElem?_cons_zero] at b0 b1 b2 c2
    have HM6 := hide hM6
    have HW6 := hide ((HW4.out.tr (KWent.of_keep k5)).tr hW6)
    have HL6 := hide (Nat.lt_of_lt_of_le HL4.out (Nat.le_trans k5.size hW6.frm.size))
    clear hM5 hM6 hW6 F6 hm6 c0 c1 k5 HM4 HT4 HW4 HL4 HB4
    go_wp2_with fail
    clear hup
    have HLT := hide (show tys.length < 2000 from by omega)
    have HBW := hide (show B ≤ w6.heap.size from by have := HM6.out.ltO p (.inl rfl); omega)
    go_cut [] (fun W => ∃ tv7, RkM 116 B Z w0 W p mb (.pointer (some ⟨hp, 0, none⟩)) tv7 ov (posKV (s.ws ++ [n])) (tys ++ [((.mk o m ks), [.string (str o), .int .i64 m, .slice A ks.length c])]) s.b ∧ KWent Z Z w6 W p mb (.slice A9 tys.length c9) ov tv7 ov)
    case first =>
      have hlt2 := HLT.out
      have hi1 : (tys.length : Int) < (tys.length : Int) + 1 := by omega
      have b0' := fun o => Keep.cell (Keep.al (Keep.rf w6) o) b0
      have b1' := fun o => Keep.cell (Keep.al (Keep.rf w6) o) b1
      have b2' := fun o => Keep.cell (Keep.al (Keep.rf w6) o) b2
      have c2' := fun o => Keep.cell (Keep.al (Keep.rf w6) o) c2
      go_region_law (refine step_app rfl (.tmp 129) (.tmp 132) 23 rfl B 25 _ 3 48 Try.underlying23 infoTyR rfl (by omega) _ tys.length _ (by rfl) (own_keep HM6.out.tow (by repeat (first | exact Keep.rf _ | assumption | apply Keep.al | apply Keep.dr | apply Keep.dn))) _ 1 _ (by rfl) (src3 (heap_alloc_new _ _)) (fun u hu => by simp at hu; rcases hu with rfl | rfl | rfl <;> rfl) (by simp only [maxLen]; omega) (by omega) (Nat.le_trans HBW.out (Below.size (by repeat (first | exact Keep.rf _ | assumption | apply Keep.al | apply Keep.dr | apply Keep.dn)))) ?_; intro v4 w4 ha4; obtain ⟨g4, c4, e4⟩ := own_at1 ha4.1; subst e4; have HA4 := hide ha4; obtain ⟨⟨q2, q2f⟩, ⟨y0, y0f⟩, ⟨y1, y1f⟩, ⟨y2, y2f⟩, q6, q7, -⟩ := HM6.out.push_facts (by repeat (first | exact Keep.rf _ | assumption | apply Keep.al | apply Keep.dr | apply Keep.dn)) ha4; clear ha4)
      all_goals
        first
          | (simp only [Exit.then]; go_meet)
          | (go_wp2_with fail; go_meet)
        exact ⟨_, HM6.out.pushT (by repeat (first | exact Keep.rf _ | assumption | apply Keep.al | apply Keep.dr | apply Keep.dn)) HA4.out rfl (by first | exact .inl rfl | exact .inr rfl) ⟨_, HT6.out⟩⟩
    case rest =>
      rename World => w7
      obtain ⟨tv7, hM7, hW7⟩ := hcut
      have HB7 := hide (hW7.heap HNB.out HB6.out)
      have HT7 := hide (hW7.ty HM6.out HT6.out)
      have HW7 := hide (HW6.out.tr hW7)
      have HNK7 := hide (hW7.out HL6.out HNB.out)
      have HL7 := hide (Nat.lt_of_lt_of_le HL6.out hW7.frm.size)
      have HM7 := hide hM7
      have HPU := hide (rkPut hM7 0 (by omega) (by omega))
      clear hM7 hW7 b0 b1 b2 c2 HM6 HT6 HW6 HL6 HB6
      go_wp2_with fail
      refine HPU.out.mono ?_
      rintro e w8 ⟨rfl, ov8, hM8, hW8⟩
      have HB8 := hide (hW8.heap HNK7.out HB7.out)
      have HT8 := hide (hW8.ty HM7.out HT7.out)
      have b0 := top_cells HB8.out 0
      have b1 := top_cells HB8.out 1
      have b2 := top_cells HB8.out 2
      simp only [List.getElem?_toArray, List.getElem?_cons_succ, List.getElem?_cons_zero] at b0 b1 b2
      have HM8 := hide hM8
      have HW8 := hide (HW7.out.tr hW8)
      have HL8 := hide (Nat.lt_of_lt_of_le HL7.out hW8.frm.size)
      clear hM8 hW8 HPU HM7 HT7 HW7 HL7 HB7
      have HKX := hide (refKids22 HT8.out HOK.out HP.out hns)
      have HSM := hide (smallH_ofR hrep)
      have HKS := hide (show ∀ k ∈ Em.kidsT (.mk o m ks), Em.okS k = true from Em.okS_kidsT HOK.out)
      have HKL := hide (show (Em.kidsT (.mk o m ks)).length ≤ 2 from Em.kidsT_len2 HOK.out)
      generalize hktq : Em.kidsT (.mk o m ks) = kt at *
      have HKTQ := hide hktq
      clear hktq
      go_wp2_with fail
      refine HKX.out.mono ?_
      rintro e w9 ⟨v9, dk, rfl, hs9, hi9, k9⟩
      rw [HKTQ.out] at hs9
      obtain ⟨Ax, cx, rfl, _⟩ := id hs9
      obtain ⟨Z9, hZ9⟩ : ∃ Z9 : Nat → Prop, ∀ k, Z9 k ↔ (Z k ∨ (w8.heap.size ≤ k ∧ k < w9.heap.size)) := ⟨_, fun k => Iff.rfl⟩
      have hM9 := (HM8.out.keep k9).moreZ (Z' := Z9) (fun k h => (hZ9 k).2 (.inl h)) fun k h => by
        rcases (hZ9 k).1 h with hk | ⟨g1, g2⟩
        · exact .inl hk
        · refine .inr ⟨by have := HM8.out.k0.size; omega, g2, fun e => ?_⟩
          have := (HM8.out.ltO k e).2
          omega
      have HW9 := hide (HW8.out.tr (KWent.more (p := p) (mb := mb) (tv := tv7) (ov := ov8) (Z := Z) (Z' := Z9) k9 (fun k h => (hZ9 k).2 (.inl h)) fun k h => ((hZ9 k).1 h).imp id fun h => h.1))
      have HS9 := hide (hs9.mono (K' := TyI (fun k => k < w0.heap.size ∨ Z9 k) dk) fun cs x h => h.mono fun k h => by
        rcases h with (h | h) | h
        · exact .inl h
        · exact .inr ((hZ9 k).2 (.inl h))
        · exact .inr ((hZ9 k).2 (.inr h)))
      have HI9 := hide (show InX (fun k => k < w0.heap.size ∨ Z9 k) (.slice Ax kt.length cx) from fun ad n c e hn => by
        rcases hi9 ad n c e hn with (h | h) | h
        · exact .inl h
        · exact .inr ((hZ9 _).2 (.inl h))
        · exact .inr ((hZ9 _).2 (.inr h)))
      have hsc : RkS 116 B Z9 w0 w9 p mb (.pointer (some ⟨hp, 0, none⟩)) tv7 ov8 (tys ++ [((.mk o m ks), [.string (str o), .int .i64 m, .slice A ks.length c])]) (s.come n (.mk o m ks) 0) := by
        refine ⟨hM9, ?_, ?_, ?_⟩
        · show s.ty ++ [(.mk o m ks)] = _
          rw [List.map_append, ← HTY.out]
          rfl
        · have := HLN.out
          simp only [Em.Pk.come, List.length_append, List.length_singleton]
          omega
        · have := HLN.out
          have := HLT.out
          simp only [Em.Pk.come, List.length_append, List.length_singleton]
          omega
      have HX5 := hide (show (s.come n (.mk o m ks) 0).b.length + 40040 * (2000 - (s.come n (.mk o m ks) 0).ws.length) + 40020 ≤ 100000000 + 20020 * 0 from by
        have := Em.putN_len10 (v := 0) (by omega)
        have := HLN.out
        have := HLT.out
        simp only [Em.Pk.come, List.length_append, List.length_cons, List.length_nil]
        omega)
      generalize s.come n (.mk o m ks) 0 = sc at *
      have HSC := hide hsc
      have HM9 := hide hM9
      clear hsc hM9 k9 hs9 hi9 hZ9 b0 b1 b2 HM8 HW8 HKX
      go_wp2_with fail
      go_loopw [12] (fun i W => ∃ (j : Nat) (s1 : Em.Pk) (Z1 : Nat → Prop) (tv1 ov1 : Value) (tys1 : List (Ty × List Value)), j ≤ kt.length ∧ i = .int .i64 (j : Int) ∧ Em.kidsK (Em.valK H f) H n j (kt.drop j) s1 = .ok s' ∧ RkS 116 B Z1 w0 W p mb (.pointer (some ⟨hp, 0, none⟩)) tv1 ov1 tys1 s1 ∧ KWent Z9 Z1 w9 W p mb tv7 ov8 tv1 ov1 ∧ s1.b.length + 40040 * (2000 - s1.ws.length) + 40020 ≤ 100000000 + 20020 * j) (fun i _ => kt.length - (intOf i).toNat)
      case atStart => exact ⟨0, sc, Z9, tv7, ov8, _, Nat.zero_le _, rfl, HKE.out, HSC.out, KWent.rf, HX5.out⟩
      case round =>
        obtain ⟨j, s1, Z1, tv1, ov1, tys1, hj, rfl, hka, hd1, hw1, hb1⟩ := hrel
        have HKA := hide hka
        have HD1 := hide hd1
        have HW1x := hide hw1
        have HSL := hide (HS9.out.frmI HI9.out hw1.frm (fun k hk e => HM9.out.apart hk e) fun cs x h => h.frm hw1.frm fun k hk e => HM9.out.apart hk e)
        have hkl := HKL.out
        clear hka hd1 hw1
        by_cases hlt : j < kt.length
        · have hlti : (j : Int) < (kt.length : Int) := by omega
          obtain ⟨A8', c8', e8, _, _, hr8⟩ := id HSL.out
          cases e8
          obtain ⟨ad, rfl, hcell⟩ := hr8 (by omega)
          obtain ⟨cs, hcs, hcl, hkt⟩ := hcell j hlt
          have HKT := hide (hkt.mono fun k hk => hk.imp id (HW1x.out.zs k))
          have HOKk := hide (HKS.out _ (List.getElem_mem hlt))
          have HKD := hide (kidsK_drop (Em.valK H f) H n kt j s1 hlt)
          generalize kt[j] = k at *
          cases dk with
          | zero => exact hkt.elim
          | succ dk =>
            obtain ⟨kv, rfl, kn, kS, _⟩ := hkt
            obtain ⟨kA, kc, rfl, _⟩ := kS
            have q0 := hcl 0 _ rfl
            rw [Nat.add_zero] at q0
            have q1 := cell_off (hcl 1 _ rfl)
            have q2 := cell_off (hcl 2 _ rfl)
            clear hcell hcl hr8
            have hjb : j < (Em.blk H n).2.length := by rw [HBL.out]; exact hlt
            have ca0 := top_cells HD1.out.1.top 0
            simp only [List.getElem?_toArray, List.getElem?_cons_succ, List.getElem?_cons_zero] at ca0
            have hfin := Em.field_in HSM.out n (j : Int)
            rw [field_at hjb] at hfin HKD
            obtain ⟨fad, rfl, fcell⟩ := FV3.out (by rw [List.length_map]; omega)
            have g0 := Keep.cell HD1.out.1.k0 (fcell j (by rw [List.length_map]; exact hjb))
            rw [List.getElem_map] at g0
            have hjl : (j : Int) < ((Em.blk H n).2.length : Int) := by have := HBL.out; omega
            generalize (Em.blk H n).2[j] = fv at *
            have HKE2 := hide (HKD.out ▸ HKA.out)
            generalize hy : Em.valK H f fv k s1 = y at *
            cases y with
            | err c9 =>
              have := HKE2.out
              cases this
            | ok s2 =>
              have HVAL := hide (fun W (k0 : Keep wr W) => hval _ _ _ _ _ _ fv _ _ _ s2 (HD1.out.keep k0) (HKT.out.keep k0) HOKk.out (in_wf64 hfin) (by omega) hy)
              have hrm := Em.valK_room HSM.out f _ k s1 s2 hfin HD1.out.2.2.2 HOKk.out hy
              have HB2 := hide (show s2.b.length + 40040 * (2000 - s2.ws.length) + 40020 ≤ 100000000 + 20020 * (j + 1) from by
                obtain ⟨r1, r2, r3⟩ := hrm
                have := HD1.out.2.2.2
                omega)
              clear hrm hfin hy HKD HKT
              go_wp2_with fail
              apply region_last 14 _ (by kernel_rfl) Keep Keep krg ktg krg ktg (fun _ _ h => h) [some 165, some 166, some 167, some 168, some 169, some 170, some 171, some 172, some 173, some 174, some 175, some 176, some 177, some 178, some 179] [eqG _ , eqG _ , eqG _ , eqG _ , eqG _ , eqG _ , fun us _ v => v = .slice (some fad) (Em.blk H n).2.length fc, eqG _ , eqG _ , eqG _ , eqG _ , eqG _ , eqG _ , eqG _ , fun _ _ _ => True] [⟨[], [], true, false, false⟩, ⟨[], [], true, false, false⟩, ⟨[1], [], true, false, false⟩, ⟨[2], [], true, false, false⟩, ⟨[3], [], true, false, false⟩, ⟨[], [], true, false, false⟩, ⟨[4, 5], [], true, false, false⟩, ⟨[], [], true, false, false⟩, ⟨[6, 7], [], true, false, false⟩, ⟨[8], [], true, false, false⟩, ⟨[], [], true, false, false⟩, ⟨[], [], true, false, false⟩, ⟨[10, 11], [], true, false, false⟩, ⟨[12], [], true, false, false⟩, ⟨[0, 9, 13], [], true, false, false⟩] [0, 9, 13] (by kernel_rfl) (by kernel_rfl) (by kernel_rfl) rfl (by kernel_rfl)
              · refine ⟨?_, ?_, ?_, ?_, ?_, ?_, ?_, ?_, ?_, ?_, ?_, ?_, ?_, ?_, trivial⟩ <;> (intro us W h9 hW hE hd hs K hK; obtain ⟨u0, u1, u2, u3, u4, u5, u6, u7, u8, u9, u10, u11, u12, u13, u14, rfl⟩ := rog 15 h9 rfl; clear h9; try simp only [DepG, AtG, and_true, relG, eqG, eqG1, eqG2, eqG3, gdG, gdG1, gnG, gnG1, List.getD_cons_zero, List.getD_cons_succ, List.getElem?_cons_succ, List.getElem?_cons_zero, Option.map_some, Option.getD_some, valsG, List.map_cons, List.map_nil, List.length_cons, List.length_nil] at hd)
                · ((try clear hd); clear hs; simp only [fillG, List.set_cons_zero, List.set_cons_succ]; refine want_n rfl ?_; go_wp2_with (first | fail); simp only [DoneG, fillG, List.set_cons_zero, List.set_cons_succ, relG, eqG, eqG1, eqG2, eqG3, gdG, gdG1, gnG, gnG1, List.getD_cons_zero, List.getD_cons_succ, List.getElem?_cons_succ, List.getElem?_cons_zero, Option.map_some, Option.getD_some, valsG, List.map_cons, List.map_nil, List.length_cons, List.length_nil]; exact ⟨_, rfl, (by first | with_reducible assumption | exact krg _ | exact Keep.al (krg _) _), fun _ _ => rfl⟩)
                · ((try clear hd); clear hs; simp only [fillG, List.set_cons_zero, List.set_cons_succ]; refine want_n rfl ?_; go_wp2_with (first | fail); simp only [DoneG, fillG, List.set_cons_zero, List.set_cons_succ, relG, eqG, eqG1, eqG2, eqG3, gdG, gdG1, gnG, gnG1, List.getD_cons_zero, List.getD_cons_succ, List.getElem?_cons_succ, List.getElem?_cons_zero, Option.map_some, Option.getD_some, valsG, List.map_cons, List.map_nil, List.length_cons, List.length_nil]; exact ⟨_, rfl, (by first | with_reducible assumption | exact krg _ | exact Keep.al (krg _) _), fun _ _ => rfl⟩)
                · (have d1 := hd; clear hd; subst d1; clear hs; simp only [fillG, List.set_cons_zero, List.set_cons_succ]; refine want_n rfl ?_; go_wp2_with (first | fail); simp only [DoneG, fillG, List.set_cons_zero, List.set_cons_succ, relG, eqG, eqG1, eqG2, eqG3, gdG, gdG1, gnG, gnG1, List.getD_cons_zero, List.getD_cons_succ, List.getElem?_cons_succ, List.getElem?_cons_zero, Option.map_some, Option.getD_some, valsG, List.map_cons, List.map_nil, List.length_cons, List.length_nil]; exact ⟨_, rfl, (by first | with_reducible assumption | exact krg _ | exact Keep.al (krg _) _), fun _ _ => rfl⟩)
                · (have d2 := hd; clear hd; subst d2; clear hs; simp only [fillG, List.set_cons_zero, List.set_cons_succ]; refine want_n rfl ?_; go_wp2_with (first | fail); simp only [DoneG, fillG, List.set_cons_zero, List.set_cons_succ, relG, eqG, eqG1, eqG2, eqG3, gdG, gdG1, gnG, gnG1, List.getD_cons_zero, List.getD_cons_succ, List.getElem?_cons_succ, List.getElem?_cons_zero, Option.map_some, Option.getD_some, valsG, List.map_cons, List.map_nil, List.length_cons, List.length_nil]; exact ⟨_, rfl, (by first | with_reducible assumption | exact krg _ | exact Keep.al (krg _) _), fun _ _ => rfl⟩)
                · (have d3 := hd; clear hd; subst d3; clear hs; simp only [fillG, List.set_cons_zero, List.set_cons_succ]; have hKW := Keep.tr (Keep.dr (Keep.rf _)) (hE rfl); have ca0 := Keep.cell hKW ca0; have q0 := Keep.cell hKW q0; have q1 := Keep.cell hKW q1; have q2 := Keep.cell hKW q2; have g0 := Keep.cell hKW g0; refine want_n rfl ?_; go_wp2_with (first | fail); simp only [DoneG, fillG, List.set_cons_zero, List.set_cons_succ, relG, eqG, eqG1, eqG2, eqG3, gdG, gdG1, gnG, gnG1, List.getD_cons_zero, List.getD_cons_succ, List.getElem?_cons_succ, List.getElem?_cons_zero, Option.map_some, Option.getD_some, valsG, List.map_cons, List.map_nil, List.length_cons, List.length_nil]; exact ⟨_, rfl, (by first | with_reducible assumption | exact krg _ | exact Keep.al (krg _) _), fun _ _ => rfl⟩)
                · ((try clear hd); clear hs; simp only [fillG, List.set_cons_zero, List.set_cons_succ]; refine want_n rfl ?_; go_wp2_with (first | fail); simp only [DoneG, fillG, List.set_cons_zero, List.set_cons_succ, relG, eqG, eqG1, eqG2, eqG3, gdG, gdG1, gnG, gnG1, List.getD_cons_zero, List.getD_cons_succ, List.getElem?_cons_succ, List.getElem?_cons_zero, Option.map_some, Option.getD_some, valsG, List.map_cons, List.map_nil, List.length_cons, List.length_nil]; exact ⟨_, rfl, (by first | with_reducible assumption | exact krg _ | exact Keep.al (krg _) _), fun _ _ => rfl⟩)
                · (obtain ⟨d4, d5⟩ := hd; subst d4; subst d5; clear hs; simp only [fillG, List.set_cons_zero, List.set_cons_succ]; have hKW := Keep.tr (Keep.dr (Keep.rf _)) (hE rfl); have ca0 := Keep.cell hKW ca0; have q0 := Keep.cell hKW q0; have q1 := Keep.cell hKW q1; have q2 := Keep.cell hKW q2; have g0 := Keep.cell hKW g0; refine want_n rfl ?_; go_wp2_with (first | (go_at_call 86; refine (HFLD.out _ (Keep.tr HD1.out.1.k0 hKW)).mono ?_; rintro e w9 ⟨rfl, rfl⟩) | fail); simp only [DoneG, fillG, List.set_cons_zero, List.set_cons_succ, relG, eqG, eqG1, eqG2, eqG3, gdG, gdG1, gnG, gnG1, List.getD_cons_zero, List.getD_cons_succ, List.getElem?_cons_succ, List.getElem?_cons_zero, Option.map_some, Option.getD_some, valsG, List.map_cons, List.map_nil, List.length_cons, List.length_nil]; exact ⟨_, rfl, (by first | with_reducible assumption | exact krg _ | exact Keep.al (krg _) _), fun W9 hk9 => rfl⟩)
                · ((try clear hd); clear hs; simp only [fillG, List.set_cons_zero, List.set_cons_succ]; refine want_n rfl ?_; go_wp2_with (first | fail); simp only [DoneG, fillG, List.set_cons_zero, List.set_cons_succ, relG, eqG, eqG1, eqG2, eqG3, gdG, gdG1, gnG, gnG1, List.getD_cons_zero, List.getD_cons_succ, List.getElem?_cons_succ, List.getElem?_cons_zero, Option.map_some, Option.getD_some, valsG, List.map_cons, List.map_nil, List.length_cons, List.length_nil]; exact ⟨_, rfl, (by first | with_reducible assumption | exact krg _ | exact Keep.al (krg _) _), fun _ _ => rfl⟩)
                · (obtain ⟨d6, d7⟩ := hd; subst d6; subst d7; clear hs; simp only [fillG, List.set_cons_zero, List.set_cons_succ]; refine want_n rfl ?_; go_wp2_with (first | fail); simp only [DoneG, fillG, List.set_cons_zero, List.set_cons_succ, relG, eqG, eqG1, eqG2, eqG3, gdG, gdG1, gnG, gnG1, List.getD_cons_zero, List.getD_cons_succ, List.getElem?_cons_succ, List.getElem?_cons_zero, Option.map_some, Option.getD_some, valsG, List.map_cons, List.map_nil, List.length_cons, List.length_nil]; exact ⟨_, rfl, (by first | with_reducible assumption | exact krg _ | exact Keep.al (krg _) _), fun _ _ => rfl⟩)
                · (have d8 := hd; clear hd; subst d8; clear hs; simp only [fillG, List.set_cons_zero, List.set_cons_succ]; have hKW := Keep.tr (Keep.dr (Keep.rf _)) (hE rfl); have ca0 := Keep.cell hKW ca0; have q0 := Keep.cell hKW q0; have q1 := Keep.cell hKW q1; have q2 := Keep.cell hKW q2; have g0 := Keep.cell hKW g0; refine want_n rfl ?_; go_wp2_with (first | fail); simp only [DoneG, fillG, List.set_cons_zero, List.set_cons_succ, relG, eqG, eqG1, eqG2, eqG3, gdG, gdG1, gnG, gnG1, List.getD_cons_zero, List.getD_cons_succ, List.getElem?_cons_succ, List.getElem?_cons_zero, Option.map_some, Option.getD_some, valsG, List.map_cons, List.map_nil, List.length_cons, List.length_nil]; exact ⟨_, rfl, (by first | with_reducible assumption | exact krg _ | exact Keep.al (krg _) _), fun _ _ => rfl⟩)
                · ((try clear hd); clear hs; simp only [fillG, List.set_cons_zero, List.set_cons_succ]; refine want_n rfl ?_; go_wp2_with (first | fail); simp only [DoneG, fillG, List.set_cons_zero, List.set_cons_succ, relG, eqG, eqG1, eqG2, eqG3, gdG, gdG1, gnG, gnG1, List.getD_cons_zero, List.getD_cons_succ, List.getElem?_cons_succ, List.getElem?_cons_zero, Option.map_some, Option.getD_some, valsG, List.map_cons, List.map_nil, List.length_cons, List.length_nil]; exact ⟨_, rfl, (by first | with_reducible assumption | exact krg _ | exact Keep.al (krg _) _), fun _ _ => rfl⟩)
                · ((try clear hd); clear hs; simp only [fillG, List.set_cons_zero, List.set_cons_succ]; refine want_n rfl ?_; go_wp2_with (first | fail); simp only [DoneG, fillG, List.set_cons_zero, List.set_cons_succ, relG, eqG, eqG1, eqG2, eqG3, gdG, gdG1, gnG, gnG1, List.getD_cons_zero, List.getD_cons_succ, List.getElem?_cons_succ, List.getElem?_cons_zero, Option.map_some, Option.getD_some, valsG, List.map_cons, List.map_nil, List.length_cons, List.length_nil]; exact ⟨_, rfl, (by first | with_reducible assumption | exact krg _ | exact Keep.al (krg _) _), fun _ _ => rfl⟩)
                · (obtain ⟨d10, d11⟩ := hd; subst d10; subst d11; clear hs; simp only [fillG, List.set_cons_zero, List.set_cons_succ]; refine want_n rfl ?_; go_wp2_with (first | fail); simp only [DoneG, fillG, List.set_cons_zero, List.set_cons_succ, relG, eqG, eqG1, eqG2, eqG3, gdG, gdG1, gnG, gnG1, List.getD_cons_zero, List.getD_cons_succ, List.getElem?_cons_succ, List.getElem?_cons_zero, Option.map_some, Option.getD_some, valsG, List.map_cons, List.map_nil, List.length_cons, List.length_nil]; exact ⟨_, rfl, (by first | with_reducible assumption | exact krg _ | exact Keep.al (krg _) _), fun _ _ => rfl⟩)
                · (have d12 := hd; clear hd; subst d12; clear hs; simp only [fillG, List.set_cons_zero, List.set_cons_succ]; have hKW := Keep.tr (Keep.dr (Keep.rf _)) (hE rfl); have ca0 := Keep.cell hKW ca0; have q0 := Keep.cell hKW q0; have q1 := Keep.cell hKW q1; have q2 := Keep.cell hKW q2; have g0 := Keep.cell hKW g0; refine want_n rfl ?_; go_wp2_with (first | fail); simp only [DoneG, fillG, List.set_cons_zero, List.set_cons_succ, relG, eqG, eqG1, eqG2, eqG3, gdG, gdG1, gnG, gnG1, List.getD_cons_zero, List.getD_cons_succ, List.getElem?_cons_succ, List.getElem?_cons_zero, Option.map_some, Option.getD_some, valsG, List.map_cons, List.map_nil, List.length_cons, List.length_nil]; exact ⟨_, rfl, (by first | with_reducible assumption | exact krg _ | exact Keep.al (krg _) _), fun _ _ => rfl⟩)
              (intro us W h9 hW hE hA hl9; obtain ⟨u0, u1, u2, u3, u4, u5, u6, u7, u8, u9, u10, u11, u12, u13, u14, rfl⟩ := rog 15 h9 rfl; clear h9; clear hl9; simp only [AllG, AtG, and_true, relG, eqG, eqG1, eqG2, eqG3, gdG, gdG1, gnG, gnG1, List.getD_cons_zero, List.getD_cons_succ, List.getElem?_cons_succ, List.getElem?_cons_zero, Option.map_some, Option.getD_some, valsG, List.map_cons, List.map_nil, List.length_cons, List.length_nil] at hA; obtain ⟨d0, d9, d13⟩ := hA; subst d0; subst d9; subst d13; simp only [fillG, List.set_cons_zero, List.set_cons_succ]; have hKW := Keep.tr (Keep.dr (Keep.rf _)) hW; clear hW hE; refine want_n rfl ?_)
              have HV2 := hide (HVAL.out _ hKW)
              have KX := hide hKW
              clear hKW HVAL
              go_wp2_with fail
              refine HV2.out.mono ?_
              rintro e W2 ⟨rfl, Z2, tv2, ov2, tys2, hd2, hw2⟩
              have HD2 := hide hd2
              have HWx2 := hide ((HW1x.out.tr (KWent.of_keep KX.out)).tr hw2)
              clear hd2 hw2 q0 q1 q2 HV2 HSL ca0 g0
              go_wp2_with fail
              go_roundw
              case rel => exact ⟨j + 1, s2, Z2, tv2, ov2, tys2, by omega, by go_num, HKE2.out, HD2.out, HWx2.out, HB2.out⟩
              case measure => simp [intOf]; omega
        · have hjk : j = kt.length := by omega
          have hee := HKA.out
          rw [List.drop_of_length_le (by omega)] at hee
          have HRES := hide (show s1 = s' from by injection hee)
          have hlti : ¬ (j : Int) < (kt.length : Int) := by omega
          clear hjk hee
          go_wp2_with fail
          (try simp only [Exit.inBlock, Exit.then])
          first
            | refine bodyPost_ret (results_none rfl _ _ _) rfl ?_
            | refine bodyPost_end (results_none rfl _ _ _) rfl ?_
          rw [← HRES.out]
          exact ⟨rfl, Z1, tv1, ov1, tys1, HD1.out, HW9.out.tr HW1x.out⟩
end
end Go.Proofs.Ytoehaijmkmdggaa
