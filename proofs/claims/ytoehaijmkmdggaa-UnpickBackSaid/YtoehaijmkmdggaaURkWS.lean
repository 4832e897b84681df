/- Walks: the picker of the reference 22: a block that comes the first time (a string). -/
import Derived.Test.YtoehaijmkmdggaaURkX
set_option linter.unusedSimpArgs false
set_option linter.unusedVariables false
namespace Go.Proofs.Ytoehaijmkmdggaa
open Go.RowKit Go.Maps
open Em (Ty)
set_option linter.unusedVariables false
set_option linter.unusedSimpArgs false
set_option maxRecDepth 100000
section
variable {B f : Nat} {Z : Nat → Prop} {w0 w : World} {p mb hp sz : Nat} {S : List Nat} {tv ov : Value} {fm : Int → Option Value} {tys : List (Ty × List Value)} {s : Em.Pk} {H : Em.Hp} {b : List UInt8}
set_option maxHeartbeats 8000000 in
theorem rkNode_str (n : Int) (t : Ty) (d : Nat) (cs : List Value) (h : RkS 116 B Z w0 w p mb (.pointer (some ⟨hp, 0, none⟩)) tv ov tys s) (ht : TyI (fun k => k < w0.heap.size ∨ Z k) d w cs t) (hok : Em.okS t = true) (hn : (Lit.int .i64 n).wf = true) (hl : s.b.length + 40040 * (2000 - s.ws.length) ≤ 100000000) (hrep : RRep w0 hp S sz H) (hpl : ¬ Em.isPl t.op) (hop : t.op = Em.wString) (hi : Em.posK s.ws n = none) (s' : Em.Pk) (hs : Em.blkK (Em.valK H f) H n t 0 s = .ok s') :
    Calls Try.prog 59 #[.pointer (some ⟨p, 0, none⟩), .int .i64 n, .agg cs.toArray] w (NodA 116 B Z w0 w p mb (.pointer (some ⟨hp, 0, none⟩)) tv ov (s')) := by
  cases d with
  | zero => exact ht.elim
  | succ d =>
    have HT0 := hide ht
    have HOK := hide hok
    have HP := hide hpl
    obtain ⟨tv9, e0, hn0, hs0, hin0⟩ := id ht
    subst e0
    obtain ⟨A, c, e1, _⟩ := id hs0
    subst e1
    obtain ⟨o, m, ks⟩ := t
    simp only [Em.Ty.op, Em.Ty.n, Em.Ty.kids] at *
    obtain rfl : o = [115, 116, 114, 105, 110, 103] := hop
    obtain ⟨hM, hty, hlen, hlim⟩ := h
    have ka : Keep w (w.alloc (.cells #[.string (str [115, 116, 114, 105, 110, 103]), .int .i64 m, .slice A ks.length c] 25)) := (by repeat (first | exact Keep.rf _ | assumption | apply Keep.al | apply Keep.dr | apply Keep.dn))
    have hB := heap_alloc_new w (.cells #[.string (str [115, 116, 114, 105, 110, 103]), .int .i64 m, .slice A ks.length c] 25)
    have hnb : ¬ OwnK p mb tv ov w.heap.size := fun e => by have := (hM.ltO _ e).2; omega
    have hM1 := hM.keep ka
    have HT1 := hide (HT0.out.keep ka)
    have HPL := hide (refPlain22 HT1.out.ty HOK.out)
    have b0 := top_cells hB 0
    have b1 := top_cells hB 1
    have b2 := top_cells hB 2
    have c4 := top_cells hM1.top 4
    simp only [List.getElem?_toArray, List.getElem?_cons_succ, List.getElem?_cons_zero] at b0 b1 b2 c4
    have HB := hide hB
    have HM1 := hide hM1
    have KA := hide ka
    have HNB := hide hnb
    have HSZ := hide (show (w.alloc (.cells #[.string (str [115, 116, 114, 105, 110, 103]), .int .i64 m, .slice A ks.length c] 25)).heap.size = w.heap.size + 1 from by simp)
    have HTY := hide hty
    have HLN := hide hlen
    have hO := opB [115, 116, 114, 105, 110, 103]
    clear hM hM1 ka hB ht hs0 hin0 hn0 hnb hok hpl hty hlen
    go_enter Try.func59, Try.ntmps59
    go_wp2_with fail
    generalize World.alloc w _ = w1 at *
    refine HPL.out.mono ?_
    rintro e w2 ⟨rfl, k2⟩
    clear HPL
    have hpd : decide (Em.isPl (Ty.op (.mk [115, 116, 114, 105, 110, 103] m ks))) = false := decide_eq_false HP.out
    rw [hpd]
    clear hpd
    have hM2 := HM1.out.keep k2
    have hB2 := (k2.frm fun _ => False).heap (fun h => h) HB.out
    have HT2 := hide (HT1.out.keep k2)
    have KA2 := hide (Keep.tr KA.out k2)
    have b0 := top_cells hB2 0
    have b1 := top_cells hB2 1
    have b2 := top_cells hB2 2
    have c0 := top_cells hM2.top 0
    have c1 := top_cells hM2.top 1
    have c2 := top_cells hM2.top 2
    simp only [List.getElem?_toArray, List.getElem?_cons_succ, List.getElem?_cons_zero] at b0 b1 b2 c0 c1 c2
    have HB2 := hide hB2
    have HM2 := hide hM2
    have HW2 := hide (KWent.of_keep (Z := Z) (p := p) (mb := mb) (tv := tv) (ov := ov) KA2.out)
    have HL2 := hide (show w.heap.size < w2.heap.size from by have := HSZ.out; have := k2.size; omega)
    clear hM2 hB2 k2 c4 HT1 HB KA HM1 HSZ
    have hlk := HM2.out.map.look_ok (P := Try.prog) Try.underlying114 Try.underlying36 (zeroInt _) n hn
    have hpv : posKV s.ws n = none := by unfold posKV; rw [hi]; rfl
    rw [hpv] at hlk
    simp only [Option.getD_none, Option.isSome_none] at hlk
    clear hpv
    obtain ⟨A9, c9, rfl⟩ := own_slice HM2.out.tow
    have HRP2 := hide (hrep.keep HM2.out.k0)
    obtain ⟨htag, hw2k, x, htx, rfl⟩ := blkK_str rfl hs
    have HTAG := hide htag
    have HXL := hide (Em.text_len (smallH_ofR hrep) htx)
    have HTX := hide htx
    clear hs htag htx
    go_wp2_with fail
    refine (ref18Text w2 HRP2.out n hn).mono ?_
    rintro e w3 ⟨k3, rfl⟩
    rw [HTX.out]
    simp only [Option.isSome_some, Option.getD_some]
    have hM3 := HM2.out.keep k3
    have HB3 := hide ((k3.frm fun _ => False).heap (fun h => h) HB2.out)
    have b0 := top_cells HB3.out 0
    have b1 := top_cells HB3.out 1
    have b2 := top_cells HB3.out 2
    have c0 := top_cells hM3.top 0
    have c1 := top_cells hM3.top 1
    have c2 := top_cells hM3.top 2
    simp only [List.getElem?_toArray, List.getElem?_cons_succ, List.getElem?_cons_zero] at b0 b1 b2 c0 c1 c2
    have HM3 := hide hM3
    have HT3 := hide (HT2.out.keep k3)
    have HW3 := hide (HW2.out.tr (KWent.of_keep k3))
    have HL3 := hide (Nat.lt_of_lt_of_le HL2.out k3.size)
    have HRP3 := hide (HRP2.out.keep k3)
    clear hM3 k3 HM2 HT2 HW2 HL2 HRP2 HB2 hlk
    go_wp2_with fail
    apply region_all (by kernel_rfl) Keep Keep krg ktg krg ktg (fun _ _ h => h) [some 70, some 71, some 72, some 73, some 74, some 75, some 76, some 77, some 78, some 79, some 80, some 81, some 82, some 83, some 84, some 85, some 86, some 87, some 88, some 89, some 90, some 91, some 92, some 93, some 94, some 95, some 96, some 97, some 98, some 99, some 100, some 101, some 102, some 103, some 104, some 105] [eqG _ , eqG _ , eqG _ , eqG _ , eqG _ , fun us _ v => v = .int .i64 (Em.tagT [115, 116, 114, 105, 110, 103]), eqG _ , fun us _ v => v = .int .i64 (Em.tagT [115, 116, 114, 105, 110, 103]), eqG _ , eqG _ , eqG _ , eqG _ , eqG _ , eqG _ , eqG _ , eqG _ , eqG _ , eqG _ , eqG _ , eqG _ , eqG _ , eqG _ , eqG _ , eqG undef, eqG undef, eqG undef, eqG undef, eqG undef, eqG undef, eqG undef, eqG undef, eqG undef, eqG undef, eqG undef, eqG _ , eqG _ ] [⟨[], [], true, false, false⟩, ⟨[0], [], true, false, false⟩, ⟨[1], [], true, false, false⟩, ⟨[2], [], true, false, false⟩, ⟨[], [], true, false, false⟩, ⟨[3, 4], [], true, false, false⟩, ⟨[], [], true, false, false⟩, ⟨[6], [], true, false, false⟩, ⟨[5, 7], [], true, false, false⟩, ⟨[8], [], true, false, false⟩, ⟨[9], [], true, false, false⟩, ⟨[9, 10], [], true, false, false⟩, ⟨[9, 11], [], true, false, false⟩, ⟨[9, 12], [], true, false, false⟩, ⟨[13], [], true, false, false⟩, ⟨[13, 14], [], true, false, false⟩, ⟨[9, 13, 15], [], true, false, false⟩, ⟨[9, 16], [], true, false, false⟩, ⟨[17], [], true, false, false⟩, ⟨[18], [], true, false, false⟩, ⟨[18, 19], [], true, false, false⟩, ⟨[18, 20], [], true, false, false⟩, ⟨[18, 21], [], true, false, false⟩, ⟨[22], [], true, false, false⟩, ⟨[22, 23], [], true, false, false⟩, ⟨[22, 24], [], true, false, false⟩, ⟨[22, 25], [], true, false, false⟩, ⟨[22], [], true, false, false⟩, ⟨[22, 26, 27], [], true, false, false⟩, ⟨[22, 28], [], true, false, false⟩, ⟨[22], [], true, false, false⟩, ⟨[22, 30], [], true, false, false⟩, ⟨[22, 31], [], true, false, false⟩, ⟨[22, 29, 32], [], true, false, false⟩, ⟨[18, 22, 33], [], true, false, false⟩, ⟨[18, 34], [], true, false, false⟩] [35] (by kernel_rfl) (by kernel_rfl) 
    · refine ⟨?_, ?_, ?_, ?_, ?_, ?_, ?_, ?_, ?_, ?_, ?_, ?_, ?_, ?_, ?_, ?_, ?_, ?_, ?_, ?_, ?_, ?_, ?_, ?_, ?_, ?_, ?_, ?_, ?_, ?_, ?_, ?_, ?_, ?_, ?_, ?_, trivial⟩ <;> (intro us W h9 hW hE hd hs K hK; obtain ⟨u0, u1, u2, u3, u4, u5, u6, u7, u8, u9, u10, u11, u12, u13, u14, u15, u16, u17, u18, u19, u20, u21, u22, u23, u24, u25, u26, u27, u28, u29, u30, u31, u32, u33, u34, u35, rfl⟩ := rog 36 h9 rfl; clear h9; try simp only [DepG, AtG, and_true, relG, eqG, eqG1, eqG2, eqG3, gdG, gdG1, gnG, gnG1, List.getD_cons_zero, List.getD_cons_succ, List.getElem?_cons_succ, List.getElem?_cons_zero, Option.map_some, Option.getD_some, valsG, List.map_cons, List.map_nil, List.length_cons, List.length_nil] at hd)
      · ((try clear hd); clear hs; simp only [fillG, List.set_cons_zero, List.set_cons_succ]; refine want_n rfl ?_; go_wp2_with (first | fail); simp only [DoneG, fillG, List.set_cons_zero, List.set_cons_succ, relG, eqG, eqG1, eqG2, eqG3, gdG, gdG1, gnG, gnG1, List.getD_cons_zero, List.getD_cons_succ, List.getElem?_cons_succ, List.getElem?_cons_zero, Option.map_some, Option.getD_some, valsG, List.map_cons, List.map_nil, List.length_cons, List.length_nil]; exact ⟨_, rfl, (by first | with_reducible assumption | exact krg _ | exact Keep.al (krg _) _), fun _ _ => rfl⟩)
      · (have d0 := hd; clear hd; subst d0; clear hs; simp only [fillG, List.set_cons_zero, List.set_cons_succ]; refine want_n rfl ?_; go_wp2_with (first | fail); simp only [DoneG, fillG, List.set_cons_zero, List.set_cons_succ, relG, eqG, eqG1, eqG2, eqG3, gdG, gdG1, gnG, gnG1, List.getD_cons_zero, List.getD_cons_succ, List.getElem?_cons_succ, List.getElem?_cons_zero, Option.map_some, Option.getD_some, valsG, List.map_cons, List.map_nil, List.length_cons, List.length_nil]; exact ⟨_, rfl, (by first | with_reducible assumption | exact krg _ | exact Keep.al (krg _) _), fun _ _ => rfl⟩)
      · (have d1 := hd; clear hd; subst d1; clear hs; simp only [fillG, List.set_cons_zero, List.set_cons_succ]; refine want_n rfl ?_; go_wp2_with (first | fail); simp only [DoneG, fillG, List.set_cons_zero, List.set_cons_succ, relG, eqG, eqG1, eqG2, eqG3, gdG, gdG1, gnG, gnG1, List.getD_cons_zero, List.getD_cons_succ, List.getElem?_cons_succ, List.getElem?_cons_zero, Option.map_some, Option.getD_some, valsG, List.map_cons, List.map_nil, List.length_cons, List.length_nil]; exact ⟨_, rfl, (by first | with_reducible assumption | exact krg _ | exact Keep.al (krg _) _), fun _ _ => rfl⟩)
      · (have d2 := hd; clear hd; subst d2; clear hs; simp only [fillG, List.set_cons_zero, List.set_cons_succ]; have hKW := Keep.tr (Keep.dr (Keep.rf _)) (hE rfl); have c0 := Keep.cell hKW c0; have b0 := Keep.cell hKW b0; have b1 := Keep.cell hKW b1; have b2 := Keep.cell hKW b2; refine want_n rfl ?_; go_wp2_with (first | fail); simp only [DoneG, fillG, List.set_cons_zero, List.set_cons_succ, relG, eqG, eqG1, eqG2, eqG3, gdG, gdG1, gnG, gnG1, List.getD_cons_zero, List.getD_cons_succ, List.getElem?_cons_succ, List.getElem?_cons_zero, Option.map_some, Option.getD_some, valsG, List.map_cons, List.map_nil, List.length_cons, List.length_nil]; exact ⟨_, rfl, (by first | with_reducible assumption | exact krg _ | exact Keep.al (krg _) _), fun _ _ => rfl⟩)
      · ((try clear hd); clear hs; simp only [fillG, List.set_cons_zero, List.set_cons_succ]; refine want_n rfl ?_; go_wp2_with (first | fail); simp only [DoneG, fillG, List.set_cons_zero, List.set_cons_succ, relG, eqG, eqG1, eqG2, eqG3, gdG, gdG1, gnG, gnG1, List.getD_cons_zero, List.getD_cons_succ, List.getElem?_cons_succ, List.getElem?_cons_zero, Option.map_some, Option.getD_some, valsG, List.map_cons, List.map_nil, List.length_cons, List.length_nil]; exact ⟨_, rfl, (by first | with_reducible assumption | exact krg _ | exact Keep.al (krg _) _), fun _ _ => rfl⟩)
      · (obtain ⟨d3, d4⟩ := hd; subst d3; subst d4; clear hs; simp only [fillG, List.set_cons_zero, List.set_cons_succ]; have hKW := Keep.tr (Keep.dr (Keep.rf _)) (hE rfl); have c0 := Keep.cell hKW c0; have b0 := Keep.cell hKW b0; have b1 := Keep.cell hKW b1; have b2 := Keep.cell hKW b2; refine want_n rfl ?_; go_wp2_with (first | (go_at_call 90; refine (refTag _ (HRP3.out.keep hKW) n hn).mono ?_; rintro e w9 ⟨rfl, rfl⟩; rw [HTAG.out]) | fail); simp only [DoneG, fillG, List.set_cons_zero, List.set_cons_succ, relG, eqG, eqG1, eqG2, eqG3, gdG, gdG1, gnG, gnG1, List.getD_cons_zero, List.getD_cons_succ, List.getElem?_cons_succ, List.getElem?_cons_zero, Option.map_some, Option.getD_some, valsG, List.map_cons, List.map_nil, List.length_cons, List.length_nil]; exact ⟨_, rfl, (by first | with_reducible assumption | exact krg _ | exact Keep.al (krg _) _), fun W9 hk9 => rfl⟩)
      · ((try clear hd); clear hs; simp only [fillG, List.set_cons_zero, List.set_cons_succ]; have hKW := Keep.tr (Keep.dr (Keep.rf _)) (hE rfl); have c0 := Keep.cell hKW c0; have b0 := Keep.cell hKW b0; have b1 := Keep.cell hKW b1; have b2 := Keep.cell hKW b2; refine want_n rfl ?_; go_wp2_with (first | fail); simp only [DoneG, fillG, List.set_cons_zero, List.set_cons_succ, relG, eqG, eqG1, eqG2, eqG3, gdG, gdG1, gnG, gnG1, List.getD_cons_zero, List.getD_cons_succ, List.getElem?_cons_succ, List.getElem?_cons_zero, Option.map_some, Option.getD_some, valsG, List.map_cons, List.map_nil, List.length_cons, List.length_nil]; exact ⟨_, rfl, (by first | with_reducible assumption | exact krg _ | exact Keep.al (krg _) _), fun _ _ => rfl⟩)
      · (have d6 := hd; clear hd; subst d6; clear hs; simp only [fillG, List.set_cons_zero, List.set_cons_succ]; have hKW := Keep.tr (Keep.dr (Keep.rf _)) (hE rfl); have c0 := Keep.cell hKW c0; have b0 := Keep.cell hKW b0; have b1 := Keep.cell hKW b1; have b2 := Keep.cell hKW b2; refine want_n rfl ?_; go_wp2_with (first | (go_at_call 67; refine (refTag22 (HT3.out.ty.keep hKW) HOK.out HP.out).mono ?_; rintro e w9 ⟨rfl, k9⟩) | fail); simp only [DoneG, fillG, List.set_cons_zero, List.set_cons_succ, relG, eqG, eqG1, eqG2, eqG3, gdG, gdG1, gnG, gnG1, List.getD_cons_zero, List.getD_cons_succ, List.getElem?_cons_succ, List.getElem?_cons_zero, Option.map_some, Option.getD_some, valsG, List.map_cons, List.map_nil, List.length_cons, List.length_nil]; exact ⟨_, rfl, (by first | with_reducible assumption | exact krg _ | exact Keep.al (krg _) _), fun W9 hk9 => rfl⟩)
      · (obtain ⟨d5, d7⟩ := hd; subst d5; subst d7; clear hs; simp only [fillG, List.set_cons_zero, List.set_cons_succ]; refine want_n rfl ?_; go_wp2_with (first | fail); simp only [DoneG, fillG, List.set_cons_zero, List.set_cons_succ, relG, eqG, eqG1, eqG2, eqG3, gdG, gdG1, gnG, gnG1, List.getD_cons_zero, List.getD_cons_succ, List.getElem?_cons_succ, List.getElem?_cons_zero, Option.map_some, Option.getD_some, valsG, List.map_cons, List.map_nil, List.length_cons, List.length_nil]; exact ⟨_, rfl, (by first | with_reducible assumption | exact krg _ | exact Keep.al (krg _) _), fun _ _ => rfl⟩)
      · (have d8 := hd; clear hd; subst d8; clear hs; simp only [fillG, List.set_cons_zero, List.set_cons_succ]; refine want_n rfl ?_; go_wp2_with (first | fail); simp only [DoneG, fillG, List.set_cons_zero, List.set_cons_succ, relG, eqG, eqG1, eqG2, eqG3, gdG, gdG1, gnG, gnG1, List.getD_cons_zero, List.getD_cons_succ, List.getElem?_cons_succ, List.getElem?_cons_zero, Option.map_some, Option.getD_some, valsG, List.map_cons, List.map_nil, List.length_cons, List.length_nil]; exact ⟨_, rfl, (by first | with_reducible assumption | exact krg _ | exact Keep.al (krg _) _), fun _ _ => rfl⟩)
      · (have d9 := hd; clear hd; subst d9; clear hs; simp only [fillG, List.set_cons_zero, List.set_cons_succ]; refine want_y rfl ?_; go_wp2_with (first | fail); simp only [DoneG, fillG, List.set_cons_zero, List.set_cons_succ, relG, eqG, eqG1, eqG2, eqG3, gdG, gdG1, gnG, gnG1, List.getD_cons_zero, List.getD_cons_succ, List.getElem?_cons_succ, List.getElem?_cons_zero, Option.map_some, Option.getD_some, valsG, List.map_cons, List.map_nil, List.length_cons, List.length_nil]; exact ⟨_, rfl, (by first | with_reducible assumption | exact krg _ | exact Keep.al (krg _) _), fun _ _ => rfl⟩)
      · (obtain ⟨d9, d10⟩ := hd; subst d9; subst d10; clear hs; simp only [fillG, List.set_cons_zero, List.set_cons_succ]; have hKW := Keep.tr (Keep.dr (Keep.rf _)) (hE rfl); have c0 := Keep.cell hKW c0; have b0 := Keep.cell hKW b0; have b1 := Keep.cell hKW b1; have b2 := Keep.cell hKW b2; refine want_y rfl ?_; go_wp2_with (first | fail); simp only [DoneG, fillG, List.set_cons_zero, List.set_cons_succ, relG, eqG, eqG1, eqG2, eqG3, gdG, gdG1, gnG, gnG1, List.getD_cons_zero, List.getD_cons_succ, List.getElem?_cons_succ, List.getElem?_cons_zero, Option.map_some, Option.getD_some, valsG, List.map_cons, List.map_nil, List.length_cons, List.length_nil]; exact ⟨_, rfl, (by first | with_reducible assumption | exact krg _ | exact Keep.al (krg _) _), fun _ _ => rfl⟩)
      · (obtain ⟨d9, d11⟩ := hd; subst d9; subst d11; clear hs; simp only [fillG, List.set_cons_zero, List.set_cons_succ]; refine want_y rfl ?_; go_wp2_with (first | fail); simp only [DoneG, fillG, List.set_cons_zero, List.set_cons_succ, relG, eqG, eqG1, eqG2, eqG3, gdG, gdG1, gnG, gnG1, List.getD_cons_zero, List.getD_cons_succ, List.getElem?_cons_succ, List.getElem?_cons_zero, Option.map_some, Option.getD_some, valsG, List.map_cons, List.map_nil, List.length_cons, List.length_nil]; exact ⟨_, rfl, (by first | with_reducible assumption | exact krg _ | exact Keep.al (krg _) _), fun _ _ => rfl⟩)
      · (obtain ⟨d9, d12⟩ := hd; subst d9; subst d12; clear hs; simp only [fillG, List.set_cons_zero, List.set_cons_succ]; refine want_y rfl ?_; go_wp2_with (first | fail); simp only [DoneG, fillG, List.set_cons_zero, List.set_cons_succ, relG, eqG, eqG1, eqG2, eqG3, gdG, gdG1, gnG, gnG1, List.getD_cons_zero, List.getD_cons_succ, List.getElem?_cons_succ, List.getElem?_cons_zero, Option.map_some, Option.getD_some, valsG, List.map_cons, List.map_nil, List.length_cons, List.length_nil]; exact ⟨_, rfl, (by first | with_reducible assumption | exact krg _ | exact Keep.al (krg _) _), fun _ _ => rfl⟩)
      · (have d13 := hd; clear hd; subst d13; clear hs; simp only [fillG, List.set_cons_zero, List.set_cons_succ]; refine want_y rfl ?_; go_wp2_with (first | fail); simp only [DoneG, fillG, List.set_cons_zero, List.set_cons_succ, relG, eqG, eqG1, eqG2, eqG3, gdG, gdG1, gnG, gnG1, List.getD_cons_zero, List.getD_cons_succ, List.getElem?_cons_succ, List.getElem?_cons_zero, Option.map_some, Option.getD_some, valsG, List.map_cons, List.map_nil, List.length_cons, List.length_nil]; exact ⟨_, rfl, (by first | with_reducible assumption | exact krg _ | exact Keep.al (krg _) _), fun _ _ => rfl⟩)
      · (obtain ⟨d13, d14⟩ := hd; subst d13; subst d14; clear hs; simp only [fillG, List.set_cons_zero, List.set_cons_succ]; refine want_y rfl ?_; go_wp2_with (first | fail); simp only [DoneG, fillG, List.set_cons_zero, List.set_cons_succ, relG, eqG, eqG1, eqG2, eqG3, gdG, gdG1, gnG, gnG1, List.getD_cons_zero, List.getD_cons_succ, List.getElem?_cons_succ, List.getElem?_cons_zero, Option.map_some, Option.getD_some, valsG, List.map_cons, List.map_nil, List.length_cons, List.length_nil]; exact ⟨_, rfl, (by first | with_reducible assumption | exact krg _ | exact Keep.al (krg _) _), fun _ _ => rfl⟩)
      · (obtain ⟨d9, d13, d15⟩ := hd; subst d9; subst d13; subst d15; clear hs; simp only [fillG, List.set_cons_zero, List.set_cons_succ]; refine want_y rfl ?_; go_wp2_with (first | fail); simp only [DoneG, fillG, List.set_cons_zero, List.set_cons_succ, relG, eqG, eqG1, eqG2, eqG3, gdG, gdG1, gnG, gnG1, List.getD_cons_zero, List.getD_cons_succ, List.getElem?_cons_succ, List.getElem?_cons_zero, Option.map_some, Option.getD_some, valsG, List.map_cons, List.map_nil, List.length_cons, List.length_nil]; exact ⟨_, rfl, (by first | with_reducible assumption | exact krg _ | exact Keep.al (krg _) _), fun _ _ => rfl⟩)
      · (obtain ⟨d9, d16⟩ := hd; subst d9; subst d16; clear hs; simp only [fillG, List.set_cons_zero, List.set_cons_succ]; refine want_n rfl ?_; go_wp2_with (first | fail); simp only [DoneG, fillG, List.set_cons_zero, List.set_cons_succ, relG, eqG, eqG1, eqG2, eqG3, gdG, gdG1, gnG, gnG1, List.getD_cons_zero, List.getD_cons_succ, List.getElem?_cons_succ, List.getElem?_cons_zero, Option.map_some, Option.getD_some, valsG, List.map_cons, List.map_nil, List.length_cons, List.length_nil]; exact ⟨_, rfl, (by first | with_reducible assumption | exact krg _ | exact Keep.al (krg _) _), fun _ _ => rfl⟩)
      · (have d17 := hd; clear hd; subst d17; clear hs; simp only [fillG, List.set_cons_zero, List.set_cons_succ]; refine want_n rfl ?_; go_wp2_with (first | fail); simp only [DoneG, fillG, List.set_cons_zero, List.set_cons_succ, relG, eqG, eqG1, eqG2, eqG3, gdG, gdG1, gnG, gnG1, List.getD_cons_zero, List.getD_cons_succ, List.getElem?_cons_succ, List.getElem?_cons_zero, Option.map_some, Option.getD_some, valsG, List.map_cons, List.map_nil, List.length_cons, List.length_nil]; exact ⟨_, rfl, (by first | with_reducible assumption | exact krg _ | exact Keep.al (krg _) _), fun _ _ => rfl⟩)
      · (have d18 := hd; clear hd; subst d18; clear hs; simp only [fillG, List.set_cons_zero, List.set_cons_succ]; refine want_y rfl ?_; go_wp2_with (first | fail); simp only [DoneG, fillG, List.set_cons_zero, List.set_cons_succ, relG, eqG, eqG1, eqG2, eqG3, gdG, gdG1, gnG, gnG1, List.getD_cons_zero, List.getD_cons_succ, List.getElem?_cons_succ, List.getElem?_cons_zero, Option.map_some, Option.getD_some, valsG, List.map_cons, List.map_nil, List.length_cons, List.length_nil]; exact ⟨_, rfl, (by first | with_reducible assumption | exact krg _ | exact Keep.al (krg _) _), fun _ _ => rfl⟩)
      · (obtain ⟨d18, d19⟩ := hd; subst d18; subst d19; clear hs; simp only [fillG, List.set_cons_zero, List.set_cons_succ]; have hKW := Keep.tr (Keep.dr (Keep.rf _)) (hE rfl); have c0 := Keep.cell hKW c0; have b0 := Keep.cell hKW b0; have b1 := Keep.cell hKW b1; have b2 := Keep.cell hKW b2; refine want_y rfl ?_; go_wp2_with (first | fail); simp only [DoneG, fillG, List.set_cons_zero, List.set_cons_succ, relG, eqG, eqG1, eqG2, eqG3, gdG, gdG1, gnG, gnG1, List.getD_cons_zero, List.getD_cons_succ, List.getElem?_cons_succ, List.getElem?_cons_zero, Option.map_some, Option.getD_some, valsG, List.map_cons, List.map_nil, List.length_cons, List.length_nil]; exact ⟨_, rfl, (by first | with_reducible assumption | exact krg _ | exact Keep.al (krg _) _), fun _ _ => rfl⟩)
      · (obtain ⟨d18, d20⟩ := hd; subst d18; subst d20; clear hs; simp only [fillG, List.set_cons_zero, List.set_cons_succ]; refine want_y rfl ?_; go_wp2_with (first | fail); simp only [DoneG, fillG, List.set_cons_zero, List.set_cons_succ, relG, eqG, eqG1, eqG2, eqG3, gdG, gdG1, gnG, gnG1, List.getD_cons_zero, List.getD_cons_succ, List.getElem?_cons_succ, List.getElem?_cons_zero, Option.map_some, Option.getD_some, valsG, List.map_cons, List.map_nil, List.length_cons, List.length_nil]; exact ⟨_, rfl, (by first | with_reducible assumption | exact krg _ | exact Keep.al (krg _) _), fun _ _ => rfl⟩)
      · (obtain ⟨d18, d21⟩ := hd; subst d18; subst d21; clear hs; simp only [fillG, List.set_cons_zero, List.set_cons_succ]; refine want_y rfl ?_; go_wp2_with (first | fail); simp only [DoneG, fillG, List.set_cons_zero, List.set_cons_succ, relG, eqG, eqG1, eqG2, eqG3, gdG, gdG1, gnG, gnG1, List.getD_cons_zero, List.getD_cons_succ, List.getElem?_cons_succ, List.getElem?_cons_zero, Option.map_some, Option.getD_some, valsG, List.map_cons, List.map_nil, List.length_cons, List.length_nil]; exact ⟨_, rfl, (by first | with_reducible assumption | exact krg _ | exact Keep.al (krg _) _), fun _ _ => rfl⟩)
      · (have d22 := hd; clear hd; subst d22; clear hs; simp only [fillG, List.set_cons_zero, List.set_cons_succ]; refine want_f rfl ?_; refine hK _ _ ?_; simp only [DoneG, fillG, List.set_cons_zero, List.set_cons_succ, relG, eqG, eqG1, eqG2, eqG3, gdG, gdG1, gnG, gnG1, List.getD_cons_zero, List.getD_cons_succ, List.getElem?_cons_succ, List.getElem?_cons_zero, Option.map_some, Option.getD_some, valsG, List.map_cons, List.map_nil, List.length_cons, List.length_nil]; exact ⟨undef, rfl, krg _, fun _ _ => rfl⟩)
      · (obtain ⟨d22, d23⟩ := hd; subst d22; subst d23; clear hs; simp only [fillG, List.set_cons_zero, List.set_cons_succ]; refine want_f rfl ?_; refine hK _ _ ?_; simp only [DoneG, fillG, List.set_cons_zero, List.set_cons_succ, relG, eqG, eqG1, eqG2, eqG3, gdG, gdG1, gnG, gnG1, List.getD_cons_zero, List.getD_cons_succ, List.getElem?_cons_succ, List.getElem?_cons_zero, Option.map_some, Option.getD_some, valsG, List.map_cons, List.map_nil, List.length_cons, List.length_nil]; exact ⟨undef, rfl, krg _, fun _ _ => rfl⟩)
      · (obtain ⟨d22, d24⟩ := hd; subst d22; subst d24; clear hs; simp only [fillG, List.set_cons_zero, List.set_cons_succ]; refine want_f rfl ?_; refine hK _ _ ?_; simp only [DoneG, fillG, List.set_cons_zero, List.set_cons_succ, relG, eqG, eqG1, eqG2, eqG3, gdG, gdG1, gnG, gnG1, List.getD_cons_zero, List.getD_cons_succ, List.getElem?_cons_succ, List.getElem?_cons_zero, Option.map_some, Option.getD_some, valsG, List.map_cons, List.map_nil, List.length_cons, List.length_nil]; exact ⟨undef, rfl, krg _, fun _ _ => rfl⟩)
      · (obtain ⟨d22, d25⟩ := hd; subst d22; subst d25; clear hs; simp only [fillG, List.set_cons_zero, List.set_cons_succ]; have hKW := Keep.tr (Keep.dr (Keep.rf _)) (hE rfl); have c0 := Keep.cell hKW c0; have b0 := Keep.cell hKW b0; have b1 := Keep.cell hKW b1; have b2 := Keep.cell hKW b2; refine want_f rfl ?_; refine hK _ _ ?_; simp only [DoneG, fillG, List.set_cons_zero, List.set_cons_succ, relG, eqG, eqG1, eqG2, eqG3, gdG, gdG1, gnG, gnG1, List.getD_cons_zero, List.getD_cons_succ, List.getElem?_cons_succ, List.getElem?_cons_zero, Option.map_some, Option.getD_some, valsG, List.map_cons, List.map_nil, List.length_cons, List.length_nil]; exact ⟨undef, rfl, krg _, fun _ _ => rfl⟩)
      · (have d22 := hd; clear hd; subst d22; clear hs; simp only [fillG, List.set_cons_zero, List.set_cons_succ]; refine want_f rfl ?_; refine hK _ _ ?_; simp only [DoneG, fillG, List.set_cons_zero, List.set_cons_succ, relG, eqG, eqG1, eqG2, eqG3, gdG, gdG1, gnG, gnG1, List.getD_cons_zero, List.getD_cons_succ, List.getElem?_cons_succ, List.getElem?_cons_zero, Option.map_some, Option.getD_some, valsG, List.map_cons, List.map_nil, List.length_cons, List.length_nil]; exact ⟨undef, rfl, krg _, fun _ _ => rfl⟩)
      · (obtain ⟨d22, d26, d27⟩ := hd; subst d22; subst d26; subst d27; clear hs; simp only [fillG, List.set_cons_zero, List.set_cons_succ]; have hKW := Keep.tr (Keep.dr (Keep.rf _)) (hE rfl); have c0 := Keep.cell hKW c0; have b0 := Keep.cell hKW b0; have b1 := Keep.cell hKW b1; have b2 := Keep.cell hKW b2; refine want_f rfl ?_; refine hK _ _ ?_; simp only [DoneG, fillG, List.set_cons_zero, List.set_cons_succ, relG, eqG, eqG1, eqG2, eqG3, gdG, gdG1, gnG, gnG1, List.getD_cons_zero, List.getD_cons_succ, List.getElem?_cons_succ, List.getElem?_cons_zero, Option.map_some, Option.getD_some, valsG, List.map_cons, List.map_nil, List.length_cons, List.length_nil]; exact ⟨undef, rfl, krg _, fun _ _ => rfl⟩)
      · (obtain ⟨d22, d28⟩ := hd; subst d22; subst d28; clear hs; simp only [fillG, List.set_cons_zero, List.set_cons_succ]; have hKW := Keep.tr (Keep.dr (Keep.rf _)) (hE rfl); have c0 := Keep.cell hKW c0; have b0 := Keep.cell hKW b0; have b1 := Keep.cell hKW b1; have b2 := Keep.cell hKW b2; refine want_f rfl ?_; refine hK _ _ ?_; simp only [DoneG, fillG, List.set_cons_zero, List.set_cons_succ, relG, eqG, eqG1, eqG2, eqG3, gdG, gdG1, gnG, gnG1, List.getD_cons_zero, List.getD_cons_succ, List.getElem?_cons_succ, List.getElem?_cons_zero, Option.map_some, Option.getD_some, valsG, List.map_cons, List.map_nil, List.length_cons, List.length_nil]; exact ⟨undef, rfl, krg _, fun _ _ => rfl⟩)
      · (have d22 := hd; clear hd; subst d22; clear hs; simp only [fillG, List.set_cons_zero, List.set_cons_succ]; have hKW := Keep.tr (Keep.dr (Keep.rf _)) (hE rfl); have c0 := Keep.cell hKW c0; have b0 := Keep.cell hKW b0; have b1 := Keep.cell hKW b1; have b2 := Keep.cell hKW b2; refine want_f rfl ?_; refine hK _ _ ?_; simp only [DoneG, fillG, List.set_cons_zero, List.set_cons_succ, relG, eqG, eqG1, eqG2, eqG3, gdG, gdG1, gnG, gnG1, List.getD_cons_zero, List.getD_cons_succ, List.getElem?_cons_succ, List.getElem?_cons_zero, Option.map_some, Option.getD_some, valsG, List.map_cons, List.map_nil, List.length_cons, List.length_nil]; exact ⟨undef, rfl, krg _, fun _ _ => rfl⟩)
      · (obtain ⟨d22, d30⟩ := hd; subst d22; subst d30; clear hs; simp only [fillG, List.set_cons_zero, List.set_cons_succ]; have hKW := Keep.tr (Keep.dr (Keep.rf _)) (hE rfl); have c0 := Keep.cell hKW c0; have b0 := Keep.cell hKW b0; have b1 := Keep.cell hKW b1; have b2 := Keep.cell hKW b2; refine want_f rfl ?_; refine hK _ _ ?_; simp only [DoneG, fillG, List.set_cons_zero, List.set_cons_succ, relG, eqG, eqG1, eqG2, eqG3, gdG, gdG1, gnG, gnG1, List.getD_cons_zero, List.getD_cons_succ, List.getElem?_cons_succ, List.getElem?_cons_zero, Option.map_some, Option.getD_some, valsG, List.map_cons, List.map_nil, List.length_cons, List.length_nil]; exact ⟨undef, rfl, krg _, fun _ _ => rfl⟩)
      · (obtain ⟨d22, d31⟩ := hd; subst d22; subst d31; clear hs; simp only [fillG, List.set_cons_zero, List.set_cons_succ]; have hKW := Keep.tr (Keep.dr (Keep.rf _)) (hE rfl); have c0 := Keep.cell hKW c0; have b0 := Keep.cell hKW b0; have b1 := Keep.cell hKW b1; have b2 := Keep.cell hKW b2; refine want_f rfl ?_; refine hK _ _ ?_; simp only [DoneG, fillG, List.set_cons_zero, List.set_cons_succ, relG, eqG, eqG1, eqG2, eqG3, gdG, gdG1, gnG, gnG1, List.getD_cons_zero, List.getD_cons_succ, List.getElem?_cons_succ, List.getElem?_cons_zero, Option.map_some, Option.getD_some, valsG, List.map_cons, List.map_nil, List.length_cons, List.length_nil]; exact ⟨undef, rfl, krg _, fun _ _ => rfl⟩)
      · (obtain ⟨d22, d29, d32⟩ := hd; subst d22; subst d29; subst d32; clear hs; simp only [fillG, List.set_cons_zero, List.set_cons_succ]; refine want_f rfl ?_; refine hK _ _ ?_; simp only [DoneG, fillG, List.set_cons_zero, List.set_cons_succ, relG, eqG, eqG1, eqG2, eqG3, gdG, gdG1, gnG, gnG1, List.getD_cons_zero, List.getD_cons_succ, List.getElem?_cons_succ, List.getElem?_cons_zero, Option.map_some, Option.getD_some, valsG, List.map_cons, List.map_nil, List.length_cons, List.length_nil]; exact ⟨undef, rfl, krg _, fun _ _ => rfl⟩)
      · (obtain ⟨d18, d22, d33⟩ := hd; subst d18; subst d22; subst d33; clear hs; simp only [fillG, List.set_cons_zero, List.set_cons_succ]; refine want_y rfl ?_; go_wp2_with (first | fail); simp only [DoneG, fillG, List.set_cons_zero, List.set_cons_succ, relG, eqG, eqG1, eqG2, eqG3, gdG, gdG1, gnG, gnG1, List.getD_cons_zero, List.getD_cons_succ, List.getElem?_cons_succ, List.getElem?_cons_zero, Option.map_some, Option.getD_some, valsG, List.map_cons, List.map_nil, List.length_cons, List.length_nil]; exact ⟨_, rfl, (by first | with_reducible assumption | exact krg _ | exact Keep.al (krg _) _), fun _ _ => rfl⟩)
      · (obtain ⟨d18, d34⟩ := hd; subst d18; subst d34; clear hs; simp only [fillG, List.set_cons_zero, List.set_cons_succ]; refine want_n rfl ?_; go_wp2_with (first | fail); simp only [DoneG, fillG, List.set_cons_zero, List.set_cons_succ, relG, eqG, eqG1, eqG2, eqG3, gdG, gdG1, gnG, gnG1, List.getD_cons_zero, List.getD_cons_succ, List.getElem?_cons_succ, List.getElem?_cons_zero, Option.map_some, Option.getD_some, valsG, List.map_cons, List.map_nil, List.length_cons, List.length_nil]; exact ⟨_, rfl, (by first | with_reducible assumption | exact krg _ | exact Keep.al (krg _) _), fun _ _ => rfl⟩)
    (intro us W4 h9 hW hE hA; obtain ⟨u0, u1, u2, u3, u4, u5, u6, u7, u8, u9, u10, u11, u12, u13, u14, u15, u16, u17, u18, u19, u20, u21, u22, u23, u24, u25, u26, u27, u28, u29, u30, u31, u32, u33, u34, u35, rfl⟩ := rog 36 h9 rfl; clear h9; simp only [AllG, AtG, and_true, relG, eqG, eqG1, eqG2, eqG3, gdG, gdG1, gnG, gnG1, List.getD_cons_zero, List.getD_cons_succ, List.getElem?_cons_succ, List.getElem?_cons_zero, Option.map_some, Option.getD_some, valsG, List.map_cons, List.map_nil, List.length_cons, List.length_nil] at hA; have d35 := hA; clear hA; subst d35; simp only [fillG, List.set_cons_zero, List.set_cons_succ]; have k4 := Keep.tr (Keep.dr (Keep.rf _)) hW; clear hW hE)
    have hlenI : ¬ (tys.length : Int) ≥ 2000 := by have := HLN.out; omega
    have hM4 := HM3.out.keep k4
    have HB4 := hide ((k4.frm fun _ => False).heap (fun h => h) HB3.out)
    have b0 := top_cells HB4.out 0
    have b1 := top_cells HB4.out 1
    have b2 := top_cells HB4.out 2
    have c0 := top_cells hM4.top 0
    have c1 := top_cells hM4.top 1
    have c2 := top_cells hM4.top 2
    simp only [List.getElem?_toArray, List.getElem?_cons_succ, List.getElem?_cons_zero] at b0 b1 b2 c0 c1 c2
    have HM4 := hide hM4
    have HT4 := hide (HT3.out.keep k4)
    have HW4 := hide (HW3.out.tr (KWent.of_keep k4))
    have HL4 := hide (Nat.lt_of_lt_of_le HL3.out k4.size)
    clear hM4 k4 HM3 HT3 HW3 HL3 HB3 HRP3
    go_wp2_with fail
    apply region_last 10 _ (by kernel_rfl) Keep Keep krg ktg krg ktg (fun _ _ h => h) [some 116, some 117, some 118, some 119, some 120, some 121, some 122, some 123, some 124, some 125, none] [eqG _ , eqG _ , eqG _ , eqG _ , eqG _ , eqG _ , eqG _ , eqG _ , eqG _ , eqG _ , fun _ _ _ => True] [⟨[], [], true, false, false⟩, ⟨[0], [], true, false, false⟩, ⟨[1], [], true, false, false⟩, ⟨[2], [], true, false, false⟩, ⟨[], [], true, false, false⟩, ⟨[], [], true, false, false⟩, ⟨[5], [], true, false, false⟩, ⟨[6], [], true, false, false⟩, ⟨[7], [], true, false, false⟩, ⟨[8], [], true, false, false⟩, ⟨[3, 4, 9], [], true, false, false⟩] [3, 4, 9] (by kernel_rfl) (by kernel_rfl) (by kernel_rfl) rfl (by kernel_rfl)
    · refine ⟨?_, ?_, ?_, ?_, ?_, ?_, ?_, ?_, ?_, ?_, trivial⟩ <;> (intro us W h9 hW hE hd hs K hK; obtain ⟨u0, u1, u2, u3, u4, u5, u6, u7, u8, u9, u10, rfl⟩ := rog 11 h9 rfl; clear h9; try simp only [DepG, AtG, and_true, relG, eqG, eqG1, eqG2, eqG3, gdG, gdG1, gnG, gnG1, List.getD_cons_zero, List.getD_cons_succ, List.getElem?_cons_succ, List.getElem?_cons_zero, Option.map_some, Option.getD_some, valsG, List.map_cons, List.map_nil, List.length_cons, List.length_nil] at hd)
      · ((try clear hd); clear hs; simp only [fillG, List.set_cons_zero, List.set_cons_succ]; refine want_n rfl ?_; go_wp2_with (first | fail); simp only [DoneG, fillG, List.set_cons_zero, List.set_cons_succ, relG, eqG, eqG1, eqG2, eqG3, gdG, gdG1, gnG, gnG1, List.getD_cons_zero, List.getD_cons_succ, List.getElem?_cons_succ, List.getElem?_cons_zero, Option.map_some, Option.getD_some, valsG, List.map_cons, List.map_nil, List.length_cons, List.length_nil]; exact ⟨_, rfl, (by first | with_reducible assumption | exact krg _ | exact Keep.al (krg _) _), fun _ _ => rfl⟩)
      · (have d0 := hd; clear hd; subst d0; clear hs; simp only [fillG, List.set_cons_zero, List.set_cons_succ]; refine want_n rfl ?_; go_wp2_with (first | fail); simp only [DoneG, fillG, List.set_cons_zero, List.set_cons_succ, relG, eqG, eqG1, eqG2, eqG3, gdG, gdG1, gnG, gnG1, List.getD_cons_zero, List.getD_cons_succ, List.getElem?_cons_succ, List.getElem?_cons_zero, Option.map_some, Option.getD_some, valsG, List.map_cons, List.map_nil, List.length_cons, List.length_nil]; exact ⟨_, rfl, (by first | with_reducible assumption | exact krg _ | exact Keep.al (krg _) _), fun _ _ => rfl⟩)
      · (have d1 := hd; clear hd; subst d1; clear hs; simp only [fillG, List.set_cons_zero, List.set_cons_succ]; refine want_n rfl ?_; go_wp2_with (first | fail); simp only [DoneG, fillG, List.set_cons_zero, List.set_cons_succ, relG, eqG, eqG1, eqG2, eqG3, gdG, gdG1, gnG, gnG1, List.getD_cons_zero, List.getD_cons_succ, List.getElem?_cons_succ, List.getElem?_cons_zero, Option.map_some, Option.getD_some, valsG, List.map_cons, List.map_nil, List.length_cons, List.length_nil]; exact ⟨_, rfl, (by first | with_reducible assumption | exact krg _ | exact Keep.al (krg _) _), fun _ _ => rfl⟩)
      · (have d2 := hd; clear hd; subst d2; clear hs; simp only [fillG, List.set_cons_zero, List.set_cons_succ]; have hKW := Keep.tr (Keep.dr (Keep.rf _)) (hE rfl); have c1 := Keep.cell hKW c1; have c2 := Keep.cell hKW c2; refine want_n rfl ?_; go_wp2_with (first | fail); simp only [DoneG, fillG, List.set_cons_zero, List.set_cons_succ, relG, eqG, eqG1, eqG2, eqG3, gdG, gdG1, gnG, gnG1, List.getD_cons_zero, List.getD_cons_succ, List.getElem?_cons_succ, List.getElem?_cons_zero, Option.map_some, Option.getD_some, valsG, List.map_cons, List.map_nil, List.length_cons, List.length_nil]; exact ⟨_, rfl, (by first | with_reducible assumption | exact krg _ | exact Keep.al (krg _) _), fun _ _ => rfl⟩)
      · ((try clear hd); clear hs; simp only [fillG, List.set_cons_zero, List.set_cons_succ]; refine want_n rfl ?_; go_wp2_with (first | fail); simp only [DoneG, fillG, List.set_cons_zero, List.set_cons_succ, relG, eqG, eqG1, eqG2, eqG3, gdG, gdG1, gnG, gnG1, List.getD_cons_zero, List.getD_cons_succ, List.getElem?_cons_succ, List.getElem?_cons_zero, Option.map_some, Option.getD_some, valsG, List.map_cons, List.map_nil, List.length_cons, List.length_nil]; exact ⟨_, rfl, (by first | with_reducible assumption | exact krg _ | exact Keep.al (krg _) _), fun _ _ => rfl⟩)
      · ((try clear hd); clear hs; simp only [fillG, List.set_cons_zero, List.set_cons_succ]; refine want_n rfl ?_; go_wp2_with (first | fail); simp only [DoneG, fillG, List.set_cons_zero, List.set_cons_succ, relG, eqG, eqG1, eqG2, eqG3, gdG, gdG1, gnG, gnG1, List.getD_cons_zero, List.getD_cons_succ, List.getElem?_cons_succ, List.getElem?_cons_zero, Option.map_some, Option.getD_some, valsG, List.map_cons, List.map_nil, List.length_cons, List.length_nil]; exact ⟨_, rfl, (by first | with_reducible assumption | exact krg _ | exact Keep.al (krg _) _), fun _ _ => rfl⟩)
      · (have d5 := hd; clear hd; subst d5; clear hs; simp only [fillG, List.set_cons_zero, List.set_cons_succ]; refine want_n rfl ?_; go_wp2_with (first | fail); simp only [DoneG, fillG, List.set_cons_zero, List.set_cons_succ, relG, eqG, eqG1, eqG2, eqG3, gdG, gdG1, gnG, gnG1, List.getD_cons_zero, List.getD_cons_succ, List.getElem?_cons_succ, List.getElem?_cons_zero, Option.map_some, Option.getD_some, valsG, List.map_cons, List.map_nil, List.length_cons, List.length_nil]; exact ⟨_, rfl, (by first | with_reducible assumption | exact krg _ | exact Keep.al (krg _) _), fun _ _ => rfl⟩)
      · (have d6 := hd; clear hd; subst d6; clear hs; simp only [fillG, List.set_cons_zero, List.set_cons_succ]; refine want_n rfl ?_; go_wp2_with (first | fail); simp only [DoneG, fillG, List.set_cons_zero, List.set_cons_succ, relG, eqG, eqG1, eqG2, eqG3, gdG, gdG1, gnG, gnG1, List.getD_cons_zero, List.getD_cons_succ, List.getElem?_cons_succ, List.getElem?_cons_zero, Option.map_some, Option.getD_some, valsG, List.map_cons, List.map_nil, List.length_cons, List.length_nil]; exact ⟨_, rfl, (by first | with_reducible assumption | exact krg _ | exact Keep.al (krg _) _), fun _ _ => rfl⟩)
      · (have d7 := hd; clear hd; subst d7; clear hs; simp only [fillG, List.set_cons_zero, List.set_cons_succ]; have hKW := Keep.tr (Keep.dr (Keep.rf _)) (hE rfl); have c1 := Keep.cell hKW c1; have c2 := Keep.cell hKW c2; refine want_n rfl ?_; go_wp2_with (first | fail); simp only [DoneG, fillG, List.set_cons_zero, List.set_cons_succ, relG, eqG, eqG1, eqG2, eqG3, gdG, gdG1, gnG, gnG1, List.getD_cons_zero, List.getD_cons_succ, List.getElem?_cons_succ, List.getElem?_cons_zero, Option.map_some, Option.getD_some, valsG, List.map_cons, List.map_nil, List.length_cons, List.length_nil]; exact ⟨_, rfl, (by first | with_reducible assumption | exact krg _ | exact Keep.al (krg _) _), fun _ _ => rfl⟩)
      · (have d8 := hd; clear hd; subst d8; clear hs; simp only [fillG, List.set_cons_zero, List.set_cons_succ]; have hKW := Keep.tr (Keep.dr (Keep.rf _)) (hE rfl); have c1 := Keep.cell hKW c1; have c2 := Keep.cell hKW c2; refine want_n rfl ?_; go_wp2_with (first | fail); simp only [DoneG, fillG, List.set_cons_zero, List.set_cons_succ, relG, eqG, eqG1, eqG2, eqG3, gdG, gdG1, gnG, gnG1, List.getD_cons_zero, List.getD_cons_succ, List.getElem?_cons_succ, List.getElem?_cons_zero, Option.map_some, Option.getD_some, valsG, List.map_cons, List.map_nil, List.length_cons, List.length_nil]; exact ⟨_, rfl, (by first | with_reducible assumption | exact krg _ | exact Keep.al (krg _) _), fun _ _ => rfl⟩)
    (intro us W5 h9 hW hE hA hl9; obtain ⟨u0, u1, u2, u3, u4, u5, u6, u7, u8, u9, u10, rfl⟩ := rog 11 h9 rfl; clear h9; clear hl9; simp only [AllG, AtG, and_true, relG, eqG, eqG1, eqG2, eqG3, gdG, gdG1, gnG, gnG1, List.getD_cons_zero, List.getD_cons_succ, List.getElem?_cons_succ, List.getElem?_cons_zero, Option.map_some, Option.getD_some, valsG, List.map_cons, List.map_nil, List.length_cons, List.length_nil] at hA; obtain ⟨d3, d4, d9⟩ := hA; subst d3; subst d4; subst d9; simp only [fillG, List.set_cons_zero, List.set_cons_succ]; have k5 := Keep.tr (Keep.dr (Keep.rf _)) hW; clear hW hE; refine want_n rfl ?_)
    have hM5 := HM4.out.keep k5
    obtain ⟨w6, hup, hm6, F6⟩ := hM5.map.put (P := Try.prog) Try.underlying114 Try.underlying36 n hn (by unfold posKV; rw [hi]; rfl) (.int .i64 (tys.length : Int))
    have hmp : (fun m => if m = n then some (Value.int .i64 (tys.length : Int)) else posKV s.ws m) = posKV (s.ws ++ [n]) := by rw [posKV_snoc hi, HLN.out]
    rw [hmp] at hm6
    clear hmp
    obtain ⟨hM6, hW6⟩ := hM5.mapped F6 hm6
    have HB6 := hide (hW6.heap HNB.out ((k5.frm fun _ => False).heap (fun h => h) HB4.out))
    have HT6 := hide (hW6.ty hM5 (HT4.out.keep k5))
    have b0 := top_cells HB6.out 0
    have b1 := top_cells HB6.out 1
    have b2 := top_cells HB6.out 2
    have c2 := top_cells hM6.top 2
    simp only [List.getElem?_toArray, List.getElem?_cons_succ, List.getElem?_cons_zero] at b0 b1 b2 c2
    have HM6 := hide hM6
    have HW6 := hide ((HW4.out.tr (KWent.of_keep k5)).tr hW6)
    have HL6 := hide (Nat.lt_of_lt_of_le HL4.out (Nat.le_trans k5.size hW6.frm.size))
    clear hM5 hM6 hW6 F6 hm6 c0 c1 k5 HM4 HT4 HW4 HL4 HB4
    go_wp2_with fail
    clear hup
    have HLT := hide (show tys.length < 2000 from by omega)
    have HBW := hide (show B ≤ w6.heap.size from by have := HM6.out.ltO p (.inl rfl); omega)
    go_cut [] (fun W => ∃ tv7, RkM 116 B Z w0 W p mb (.pointer (some ⟨hp, 0, none⟩)) tv7 ov (posKV (s.ws ++ [n])) (tys ++ [((.mk [115, 116, 114, 105, 110, 103] m ks), [.string (str [115, 116, 114, 105, 110, 103]), .int .i64 m, .slice A ks.length c])]) s.b ∧ KWent Z Z w6 W p mb (.slice A9 tys.length c9) ov tv7 ov)
    case first =>
      have hlt2 := HLT.out
      have hi1 : (tys.length : Int) < (tys.length : Int) + 1 := by omega
      have b0' := fun o => Keep.cell (Keep.al (Keep.rf w6) o) b0
      have b1' := fun o => Keep.cell (Keep.al (Keep.rf w6) o) b1
      have b2' := fun o => Keep.cell (Keep.al (Keep.rf w6) o) b2
      have c2' := fun o => Keep.cell (Keep.al (Keep.rf w6) o) c2
      go_region_law (refine step_app rfl (.tmp 129) (.tmp 132) 23 rfl B 25 _ 3 48 Try.underlying23 infoTyR rfl (by omega) _ tys.length _ (by rfl) (own_keep HM6.out.tow (by repeat (first | exact Keep.rf _ | assumption | apply Keep.al | apply Keep.dr | apply Keep.dn))) _ 1 _ (by rfl) (src3 (heap_alloc_new _ _)) (fun u hu => by simp at hu; rcases hu with rfl | rfl | rfl <;> rfl) (by simp only [maxLen]; omega) (by omega) (Nat.le_trans HBW.out (Below.size (by repeat (first | exact Keep.rf _ | assumption | apply Keep.al | apply Keep.dr | apply Keep.dn)))) ?_; intro v4 w4 ha4; obtain ⟨g4, c4, e4⟩ := own_at1 ha4.1; subst e4; have HA4 := hide ha4; obtain ⟨⟨q2, q2f⟩, ⟨y0, y0f⟩, ⟨y1, y1f⟩, ⟨y2, y2f⟩, q6, q7, -⟩ := HM6.out.push_facts (by repeat (first | exact Keep.rf _ | assumption | apply Keep.al | apply Keep.dr | apply Keep.dn)) ha4; clear ha4)
      all_goals
        first
          | (simp only [Exit.then]; go_meet)
          | (go_wp2_with fail; go_meet)
        exact ⟨_, HM6.out.pushT (by repeat (first | exact Keep.rf _ | assumption | apply Keep.al | apply Keep.dr | apply Keep.dn)) HA4.out rfl (by first | exact .inl rfl | exact .inr rfl) ⟨_, HT6.out⟩⟩
    case rest =>
      rename World => w7
      obtain ⟨tv7, hM7, hW7⟩ := hcut
      have HB7 := hide (hW7.heap HNB.out HB6.out)
      have HT7 := hide (hW7.ty HM6.out HT6.out)
      have HW7 := hide (HW6.out.tr hW7)
      have HNK7 := hide (hW7.out HL6.out HNB.out)
      have HL7 := hide (Nat.lt_of_lt_of_le HL6.out hW7.frm.size)
      have HM7 := hide hM7
      have HPU := hide (rkPut hM7 0 (by omega) (by omega))
      clear hM7 hW7 b0 b1 b2 c2 HM6 HT6 HW6 HL6 HB6
      go_wp2_with fail
      refine HPU.out.mono ?_
      rintro e w8 ⟨rfl, ov8, hM8, hW8⟩
      have HB8 := hide (hW8.heap HNK7.out HB7.out)
      have HT8 := hide (hW8.ty HM7.out HT7.out)
      have b0 := top_cells HB8.out 0
      have b1 := top_cells HB8.out 1
      have b2 := top_cells HB8.out 2
      simp only [List.getElem?_toArray, List.getElem?_cons_succ, List.getElem?_cons_zero] at b0 b1 b2
      have HM8 := hide hM8
      have HW8 := hide (HW7.out.tr hW8)
      have HL8 := hide (Nat.lt_of_lt_of_le HL7.out hW8.frm.size)
      clear hM8 hW8 HPU HM7 HT7 HW7 HL7 HB7
      go_wp2_with fail
      have hwr : IntKind.u64.wrap ((str x).size : Int) = (x.length : Int) := by rw [str_size, IntKind.wrap_u64]; have := HXL.out; omega
      have HPU8 := hide (rkPut HM8.out x.length (by have hx0 := HXL.out; omega) (by have hp0 := Em.putN_len10 (v := 0) (by omega); rw [List.length_append]; omega))
      have HWR := hide hwr
      clear hwr
      go_wp2_with fail
      rw [HWR.out]
      refine HPU8.out.mono ?_
      rintro e w9 ⟨rfl, ov9, hM9, hW9⟩
      generalize hbb : s.b ++ Em.putN 0 ++ Em.putN x.length = bb at *
      have HBB := hide hbb
      have HLB := hide (show bb.length + x.length ≤ 1000000000 from by rw [← hbb]; have hx0 := HXL.out; have hp0 := Em.putN_len10 (v := 0) (by omega); have h2 := Em.putN_len10 (v := x.length) (by omega); simp only [List.length_append]; omega)
      clear hbb
      have c3 := top_cells hM9.top 3
      simp only [List.getElem?_toArray, List.getElem?_cons_succ, List.getElem?_cons_zero] at c3
      obtain ⟨A8, c8, e8⟩ := hM9.own.slice
      subst e8
      have HM9 := hide hM9
      have HW9 := hide (HW8.out.tr hW9)
      have HBW9 := hide (show B ≤ w9.heap.size from by have := HM9.out.ltO p (.inl rfl); omega)
      clear hM9 hW9 HPU8 b0 b1 b2
      go_wp2_with (first
        | (at_builtin; go_loud (refine wpList_appS rfl (.tmp 152) (.tmp 153) rfl B HBW9.out _ _ rfl HM9.out.own x rfl HLB.out ?_); intro v9 w10 hg9; have htop9 := HM9.out.topG hg9; have tpc := top_cells htop9 3; have tpf := top_free htop9 3; simp only [List.getElem?_toArray, List.getElem?_cons_succ, List.getElem?_cons_zero] at tpc; obtain ⟨hMA, hWA⟩ := HM9.out.grew hg9; obtain ⟨A10, c10, e10⟩ := hMA.own.slice; subst e10; have HMA := hide hMA; have HWA := hide hWA; clear hMA hWA hg9 htop9)
        | fail)
      (try simp only [Exit.inBlock, Exit.then])
      first
        | refine bodyPost_ret (results_none rfl _ _ _) rfl ?_
        | refine bodyPost_end (results_none rfl _ _ _) rfl ?_
      have hm := HMA.out
      have hw := HWA.out
      rw [show (bb ++ x).length = bb.length + x.length from List.length_append] at hm hw
      refine ⟨rfl, Z, _, _, _, ⟨hm, ?_, ?_, ?_⟩, HW9.out.tr hw⟩
      · rw [List.map_append, ← HTY.out]
        rfl
      · have := HLN.out
        simp only [List.length_append, List.length_singleton]
        omega
      · have := HLN.out
        have := HLT.out
        simp only [List.length_append, List.length_singleton]
        omega
end
end Go.Proofs.Ytoehaijmkmdggaa
