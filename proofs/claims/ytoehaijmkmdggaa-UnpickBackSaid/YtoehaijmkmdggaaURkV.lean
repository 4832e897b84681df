/- Walks: the picker of the reference 22: a value: all but a block that comes the first time. -/
import Derived.Test.YtoehaijmkmdggaaURkN
import Derived.Test.YtoehaijmkmdggaaUDrawT
set_option linter.unusedSimpArgs false
set_option linter.unusedVariables false
namespace Go.Proofs.Ytoehaijmkmdggaa
open Go.RowKit Go.Maps
open Em (Ty)
set_option linter.unusedVariables false
set_option linter.unusedSimpArgs false
set_option maxRecDepth 100000
/-- What a value comes to, to a depth. -/
def NodC (B : Nat) (w0 : World) (p mb : Nat) (hv : Value) (H : Em.Hp) (f : Nat) : Prop := ∀ (Z : Nat → Prop) (w : World) (tv ov : Value) (tys : List (Ty × List Value)) (s : Em.Pk) (n : Int) (t : Ty) (d : Nat) (cs : List Value) (s' : Em.Pk), RkS 116 B Z w0 w p mb hv tv ov tys s → TyI (fun k => k < w0.heap.size ∨ Z k) d w cs t → Em.okS t = true → (Lit.int .i64 n).wf = true → s.b.length + 40040 * (2000 - s.ws.length) ≤ 100000000 → Em.valK H f n t s = .ok s' →
  Calls Try.prog 59 #[.pointer (some ⟨p, 0, none⟩), .int .i64 n, .agg cs.toArray] w (NodA 116 B Z w0 w p mb hv tv ov s')
section
variable {B f : Nat} {Z : Nat → Prop} {w0 w : World} {p mb hp sz : Nat} {S : List Nat} {hv tv ov : Value} {fm : Int → Option Value} {tys : List (Ty × List Value)} {s : Em.Pk} {H : Em.Hp} {b : List UInt8}
set_option maxHeartbeats 8000000 in
theorem rkNode_plain (n : Int) (t : Ty) (d : Nat) (cs : List Value) (h : RkS 116 B Z w0 w p mb hv tv ov tys s) (ht : TyI (fun k => k < w0.heap.size ∨ Z k) d w cs t) (hok : Em.okS t = true) (hn : (Lit.int .i64 n).wf = true) (hl : s.b.length + 40040 * (2000 - s.ws.length) ≤ 100000000) (hp : Em.isPl t.op) (s' : Em.Pk) (hs : Em.numK (Em.manyOf t.op) n s = .ok s') :
    Calls Try.prog 59 #[.pointer (some ⟨p, 0, none⟩), .int .i64 n, .agg cs.toArray] w (NodA 116 B Z w0 w p mb hv tv ov (s')) := by
  cases d with
  | zero => exact ht.elim
  | succ d =>
    have HT0 := hide ht
    have HOK := hide hok
    have HP := hide hp
    obtain ⟨tv9, e0, hn0, hs0, hin0⟩ := id ht
    subst e0
    obtain ⟨A, c, e1, _⟩ := id hs0
    subst e1
    obtain ⟨o, m, ks⟩ := t
    simp only [Em.Ty.op, Em.Ty.n, Em.Ty.kids] at *
    obtain ⟨hM, hty, hlen, hlim⟩ := h
    have ka : Keep w (w.alloc (.cells #[.string (str o), .int .i64 m, .slice A ks.length c] 25)) := (by repeat (first | exact Keep.rf _ | assumption | apply Keep.al | apply Keep.dr | apply Keep.dn))
    have hB := heap_alloc_new w (.cells #[.string (str o), .int .i64 m, .slice A ks.length c] 25)
    have hnb : ¬ OwnK p mb tv ov w.heap.size := fun e => by have := (hM.ltO _ e).2; omega
    have hM1 := hM.keep ka
    have HT1 := hide (HT0.out.keep ka)
    have HPL := hide (refPlain22 HT1.out.ty HOK.out)
    have b0 := top_cells hB 0
    have b1 := top_cells hB 1
    have b2 := top_cells hB 2
    have c4 := top_cells hM1.top 4
    simp only [List.getElem?_toArray, List.getElem?_cons_succ, List.getElem?_cons_zero] at b0 b1 b2 c4
    have HB := hide hB
    have HM1 := hide hM1
    have KA := hide ka
    have HNB := hide hnb
    have HSZ := hide (show (w.alloc (.cells #[.string (str o), .int .i64 m, .slice A ks.length c] 25)).heap.size = w.heap.size + 1 from by simp)
    have HTY := hide hty
    have HLN := hide hlen
    have hO := opB o
    clear hM hM1 ka hB ht hs0 hin0 hn0 hnb hok hp hty hlen
    go_enter Try.func59, Try.ntmps59
    go_wp2_with fail
    generalize World.alloc w _ = w1 at *
    refine HPL.out.mono ?_
    rintro e w2 ⟨rfl, k2⟩
    clear HPL
    have hpd : decide (Em.isPl (Ty.op (.mk o m ks))) = true := decide_eq_true HP.out
    rw [hpd]
    clear hpd
    have hM2 := HM1.out.keep k2
    have hB2 := (k2.frm fun _ => False).heap (fun h => h) HB.out
    have HT2 := hide (HT1.out.keep k2)
    have KA2 := hide (Keep.tr KA.out k2)
    have b0 := top_cells hB2 0
    have b1 := top_cells hB2 1
    have b2 := top_cells hB2 2
    have c0 := top_cells hM2.top 0
    have c1 := top_cells hM2.top 1
    have c2 := top_cells hM2.top 2
    simp only [List.getElem?_toArray, List.getElem?_cons_succ, List.getElem?_cons_zero] at b0 b1 b2 c0 c1 c2
    have HB2 := hide hB2
    have HM2 := hide hM2
    have HW2 := hide (KWent.of_keep (Z := Z) (p := p) (mb := mb) (tv := tv) (ov := ov) KA2.out)
    have HL2 := hide (show w.heap.size < w2.heap.size from by have := HSZ.out; have := k2.size; omega)
    have HN := hide (rkPlain n _ _ _ ⟨HM2.out, HTY.out, HLN.out, hlim⟩ HT2.out hn (by omega) HP.out s' hs)
    clear hM2 hB2 k2 c4 HT1 HB KA HM1 HSZ
    go_wp2_with fail
    refine HN.out.mono ?_
    intro e w3 hA
    obtain ⟨rfl, hA2⟩ := id hA
    have HA := hide hA
    clear hA hA2 b0 b1 b2
    go_wp2_with fail
    (try simp only [Exit.inBlock, Exit.then])
    first
      | refine bodyPost_ret (results_none rfl _ _ _) rfl ?_
      | refine bodyPost_end (results_none rfl _ _ _) rfl ?_
    exact HA.out.pre HW2.out
set_option maxHeartbeats 8000000 in
theorem rkNode_nil (n : Int) (t : Ty) (d : Nat) (cs : List Value) (h : RkS 116 B Z w0 w p mb hv tv ov tys s) (ht : TyI (fun k => k < w0.heap.size ∨ Z k) d w cs t) (hok : Em.okS t = true) (hn : (Lit.int .i64 n).wf = true) (hl : s.b.length + 40040 * (2000 - s.ws.length) ≤ 100000000) (hp : ¬ Em.isPl t.op) (hop : t.op = Em.wList) (h1 : n = 1) :
    Calls Try.prog 59 #[.pointer (some ⟨p, 0, none⟩), .int .i64 n, .agg cs.toArray] w (NodA 116 B Z w0 w p mb hv tv ov (s.put 0)) := by
  cases d with
  | zero => exact ht.elim
  | succ d =>
    have HT0 := hide ht
    have HOK := hide hok
    have HP := hide hp
    obtain ⟨tv9, e0, hn0, hs0, hin0⟩ := id ht
    subst e0
    obtain ⟨A, c, e1, _⟩ := id hs0
    subst e1
    obtain ⟨o, m, ks⟩ := t
    simp only [Em.Ty.op, Em.Ty.n, Em.Ty.kids] at *
    obtain rfl : o = [108, 105, 115, 116] := hop
    obtain ⟨hM, hty, hlen, hlim⟩ := h
    have ka : Keep w (w.alloc (.cells #[.string (str [108, 105, 115, 116]), .int .i64 m, .slice A ks.length c] 25)) := (by repeat (first | exact Keep.rf _ | assumption | apply Keep.al | apply Keep.dr | apply Keep.dn))
    have hB := heap_alloc_new w (.cells #[.string (str [108, 105, 115, 116]), .int .i64 m, .slice A ks.length c] 25)
    have hnb : ¬ OwnK p mb tv ov w.heap.size := fun e => by have := (hM.ltO _ e).2; omega
    have hM1 := hM.keep ka
    have HT1 := hide (HT0.out.keep ka)
    have HPL := hide (refPlain22 HT1.out.ty HOK.out)
    have b0 := top_cells hB 0
    have b1 := top_cells hB 1
    have b2 := top_cells hB 2
    have c4 := top_cells hM1.top 4
    simp only [List.getElem?_toArray, List.getElem?_cons_succ, List.getElem?_cons_zero] at b0 b1 b2 c4
    have HB := hide hB
    have HM1 := hide hM1
    have KA := hide ka
    have HNB := hide hnb
    have HSZ := hide (show (w.alloc (.cells #[.string (str [108, 105, 115, 116]), .int .i64 m, .slice A ks.length c] 25)).heap.size = w.heap.size + 1 from by simp)
    have HTY := hide hty
    have HLN := hide hlen
    have hO := opB [108, 105, 115, 116]
    clear hM hM1 ka hB ht hs0 hin0 hn0 hnb hok hp hty hlen
    go_enter Try.func59, Try.ntmps59
    go_wp2_with fail
    generalize World.alloc w _ = w1 at *
    refine HPL.out.mono ?_
    rintro e w2 ⟨rfl, k2⟩
    clear HPL
    have hpd : decide (Em.isPl (Ty.op (.mk [108, 105, 115, 116] m ks))) = false := decide_eq_false HP.out
    rw [hpd]
    clear hpd
    have hM2 := HM1.out.keep k2
    have hB2 := (k2.frm fun _ => False).heap (fun h => h) HB.out
    have HT2 := hide (HT1.out.keep k2)
    have KA2 := hide (Keep.tr KA.out k2)
    have b0 := top_cells hB2 0
    have b1 := top_cells hB2 1
    have b2 := top_cells hB2 2
    have c0 := top_cells hM2.top 0
    have c1 := top_cells hM2.top 1
    have c2 := top_cells hM2.top 2
    simp only [List.getElem?_toArray, List.getElem?_cons_succ, List.getElem?_cons_zero] at b0 b1 b2 c0 c1 c2
    have HB2 := hide hB2
    have HM2 := hide hM2
    have HW2 := hide (KWent.of_keep (Z := Z) (p := p) (mb := mb) (tv := tv) (ov := ov) KA2.out)
    have HL2 := hide (show w.heap.size < w2.heap.size from by have := HSZ.out; have := k2.size; omega)
    clear hM2 hB2 k2 c4 HT1 HB KA HM1 HSZ
    subst h1
    have HPU := hide (rkPutS (s := s) ⟨HM2.out, HTY.out, HLN.out, hlim⟩ 0 (by omega) (by omega))
    go_wp2_with fail
    refine (refInt 0 _).mono ?_
    rintro e w' ⟨rfl, rfl⟩
    rw [intW_0]
    go_wp2_with fail
    refine HPU.out.mono ?_
    intro e w3 hA
    obtain ⟨rfl, hA2⟩ := id hA
    have HA := hide hA
    clear hA hA2 b0 b1 b2 c0 c1 c2
    go_wp2_with fail
    (try simp only [Exit.inBlock, Exit.then])
    first
      | refine bodyPost_ret (results_none rfl _ _ _) rfl ?_
      | refine bodyPost_end (results_none rfl _ _ _) rfl ?_
    exact HA.out.pre HW2.out
set_option maxHeartbeats 8000000 in
theorem rkNode_seenL (n : Int) (t : Ty) (d : Nat) (cs : List Value) (h : RkS 116 B Z w0 w p mb hv tv ov tys s) (ht : TyI (fun k => k < w0.heap.size ∨ Z k) d w cs t) (hok : Em.okS t = true) (hn : (Lit.int .i64 n).wf = true) (hl : s.b.length + 40040 * (2000 - s.ws.length) ≤ 100000000) (hp : ¬ Em.isPl t.op) (hop : t.op = Em.wList) (h1 : ¬ n = 1) (i : Nat) (hi : Em.posK s.ws n = some i) (t' : Ty) (ht' : s.ty[i]? = some t') (he : Em.eqT t' t = true) :
    Calls Try.prog 59 #[.pointer (some ⟨p, 0, none⟩), .int .i64 n, .agg cs.toArray] w (NodA 116 B Z w0 w p mb hv tv ov (s.put (i + 1 + 1))) := by
  cases d with
  | zero => exact ht.elim
  | succ d =>
    have HT0 := hide ht
    have HOK := hide hok
    have HP := hide hp
    obtain ⟨tv9, e0, hn0, hs0, hin0⟩ := id ht
    subst e0
    obtain ⟨A, c, e1, _⟩ := id hs0
    subst e1
    obtain ⟨o, m, ks⟩ := t
    simp only [Em.Ty.op, Em.Ty.n, Em.Ty.kids] at *
    obtain rfl : o = [108, 105, 115, 116] := hop
    obtain ⟨hM, hty, hlen, hlim⟩ := h
    have ka : Keep w (w.alloc (.cells #[.string (str [108, 105, 115, 116]), .int .i64 m, .slice A ks.length c] 25)) := (by repeat (first | exact Keep.rf _ | assumption | apply Keep.al | apply Keep.dr | apply Keep.dn))
    have hB := heap_alloc_new w (.cells #[.string (str [108, 105, 115, 116]), .int .i64 m, .slice A ks.length c] 25)
    have hnb : ¬ OwnK p mb tv ov w.heap.size := fun e => by have := (hM.ltO _ e).2; omega
    have hM1 := hM.keep ka
    have HT1 := hide (HT0.out.keep ka)
    have HPL := hide (refPlain22 HT1.out.ty HOK.out)
    have b0 := top_cells hB 0
    have b1 := top_cells hB 1
    have b2 := top_cells hB 2
    have c4 := top_cells hM1.top 4
    simp only [List.getElem?_toArray, List.getElem?_cons_succ, List.getElem?_cons_zero] at b0 b1 b2 c4
    have HB := hide hB
    have HM1 := hide hM1
    have KA := hide ka
    have HNB := hide hnb
    have HSZ := hide (show (w.alloc (.cells #[.string (str [108, 105, 115, 116]), .int .i64 m, .slice A ks.length c] 25)).heap.size = w.heap.size + 1 from by simp)
    have HTY := hide hty
    have HLN := hide hlen
    have hO := opB [108, 105, 115, 116]
    clear hM hM1 ka hB ht hs0 hin0 hn0 hnb hok hp hty hlen
    go_enter Try.func59, Try.ntmps59
    go_wp2_with fail
    generalize World.alloc w _ = w1 at *
    refine HPL.out.mono ?_
    rintro e w2 ⟨rfl, k2⟩
    clear HPL
    have hpd : decide (Em.isPl (Ty.op (.mk [108, 105, 115, 116] m ks))) = false := decide_eq_false HP.out
    rw [hpd]
    clear hpd
    have hM2 := HM1.out.keep k2
    have hB2 := (k2.frm fun _ => False).heap (fun h => h) HB.out
    have HT2 := hide (HT1.out.keep k2)
    have KA2 := hide (Keep.tr KA.out k2)
    have b0 := top_cells hB2 0
    have b1 := top_cells hB2 1
    have b2 := top_cells hB2 2
    have c0 := top_cells hM2.top 0
    have c1 := top_cells hM2.top 1
    have c2 := top_cells hM2.top 2
    simp only [List.getElem?_toArray, List.getElem?_cons_succ, List.getElem?_cons_zero] at b0 b1 b2 c0 c1 c2
    have HB2 := hide hB2
    have HM2 := hide hM2
    have HW2 := hide (KWent.of_keep (Z := Z) (p := p) (mb := mb) (tv := tv) (ov := ov) KA2.out)
    have HL2 := hide (show w.heap.size < w2.heap.size from by have := HSZ.out; have := k2.size; omega)
    clear hM2 hB2 k2 c4 HT1 HB KA HM1 HSZ
    have hlk := HM2.out.map.look_ok (P := Try.prog) Try.underlying114 Try.underlying36 (zeroInt _) n hn
    have hpv : posKV s.ws n = some (.int .i64 (i : Int)) := by unfold posKV; rw [hi]; rfl
    rw [hpv] at hlk
    simp only [Option.getD_some, Option.isSome_some] at hlk
    rw [HTY.out] at ht'
    obtain ⟨hil, g, c', d', o', n', A', m', c2', etv, hty, x0, x1, x2⟩ := HM2.out.ty_at ht'
    subst etv
    have hil2 : (i : Int) < (tys.length : Int) := by omega
    have hlt2 := HLN.out
    have hib : (i : Int) < 2000 := by omega
    have HTYP := hide hty
    have HE := hide he
    clear hpv hty he ht'
    have h1b : (n == 1) = false := by simpa using h1
    go_wp2_with fail
    refine (refInt 0 _).mono ?_
    rintro e w' ⟨rfl, rfl⟩
    rw [intW_0]
    go_wp2_with fail
    apply region_all (by kernel_rfl) Keep Keep krg ktg krg ktg (fun _ _ h => h) [some 42, some 43, some 44, some 45, some 46, some 47, some 48, some 49, some 50, some 51] [eqG _ , eqG _ , eqG _ , eqG _ , eqG _ , eqG _ , eqG _ , eqG _ , fun us _ v => v = .bool true, eqG _ ] [⟨[], [], true, false, false⟩, ⟨[0], [], true, false, false⟩, ⟨[1], [], true, false, false⟩, ⟨[2], [], true, false, false⟩, ⟨[], [], true, false, false⟩, ⟨[3, 4], [], true, false, false⟩, ⟨[5], [], true, false, false⟩, ⟨[], [], true, false, false⟩, ⟨[6, 7], [], true, false, false⟩, ⟨[8], [], true, false, false⟩] [9] (by kernel_rfl) (by kernel_rfl) 
    · refine ⟨?_, ?_, ?_, ?_, ?_, ?_, ?_, ?_, ?_, ?_, trivial⟩ <;> (intro us W h9 hW hE hd hs K hK; obtain ⟨u0, u1, u2, u3, u4, u5, u6, u7, u8, u9, rfl⟩ := rog 10 h9 rfl; clear h9; try simp only [DepG, AtG, and_true, relG, eqG, eqG1, eqG2, eqG3, gdG, gdG1, gnG, gnG1, List.getD_cons_zero, List.getD_cons_succ, List.getElem?_cons_succ, List.getElem?_cons_zero, Option.map_some, Option.getD_some, valsG, List.map_cons, List.map_nil, List.length_cons, List.length_nil] at hd)
      · ((try clear hd); clear hs; simp only [fillG, List.set_cons_zero, List.set_cons_succ]; refine want_n rfl ?_; go_wp2_with (first | fail); simp only [DoneG, fillG, List.set_cons_zero, List.set_cons_succ, relG, eqG, eqG1, eqG2, eqG3, gdG, gdG1, gnG, gnG1, List.getD_cons_zero, List.getD_cons_succ, List.getElem?_cons_succ, List.getElem?_cons_zero, Option.map_some, Option.getD_some, valsG, List.map_cons, List.map_nil, List.length_cons, List.length_nil]; exact ⟨_, rfl, (by first | with_reducible assumption | exact krg _ | exact Keep.al (krg _) _), fun _ _ => rfl⟩)
      · (have d0 := hd; clear hd; subst d0; clear hs; simp only [fillG, List.set_cons_zero, List.set_cons_succ]; refine want_n rfl ?_; go_wp2_with (first | fail); simp only [DoneG, fillG, List.set_cons_zero, List.set_cons_succ, relG, eqG, eqG1, eqG2, eqG3, gdG, gdG1, gnG, gnG1, List.getD_cons_zero, List.getD_cons_succ, List.getElem?_cons_succ, List.getElem?_cons_zero, Option.map_some, Option.getD_some, valsG, List.map_cons, List.map_nil, List.length_cons, List.length_nil]; exact ⟨_, rfl, (by first | with_reducible assumption | exact krg _ | exact Keep.al (krg _) _), fun _ _ => rfl⟩)
      · (have d1 := hd; clear hd; subst d1; clear hs; simp only [fillG, List.set_cons_zero, List.set_cons_succ]; refine want_n rfl ?_; go_wp2_with (first | fail); simp only [DoneG, fillG, List.set_cons_zero, List.set_cons_succ, relG, eqG, eqG1, eqG2, eqG3, gdG, gdG1, gnG, gnG1, List.getD_cons_zero, List.getD_cons_succ, List.getElem?_cons_succ, List.getElem?_cons_zero, Option.map_some, Option.getD_some, valsG, List.map_cons, List.map_nil, List.length_cons, List.length_nil]; exact ⟨_, rfl, (by first | with_reducible assumption | exact krg _ | exact Keep.al (krg _) _), fun _ _ => rfl⟩)
      · (have d2 := hd; clear hd; subst d2; clear hs; simp only [fillG, List.set_cons_zero, List.set_cons_succ]; have hKW := Keep.tr (Keep.dr (Keep.rf _)) (hE rfl); have c2 := Keep.cell hKW c2; have x0 := Keep.cell hKW x0; have x1 := Keep.cell hKW x1; have x2 := Keep.cell hKW x2; have b0 := Keep.cell hKW b0; have b1 := Keep.cell hKW b1; have b2 := Keep.cell hKW b2; refine want_n rfl ?_; go_wp2_with (first | fail); simp only [DoneG, fillG, List.set_cons_zero, List.set_cons_succ, relG, eqG, eqG1, eqG2, eqG3, gdG, gdG1, gnG, gnG1, List.getD_cons_zero, List.getD_cons_succ, List.getElem?_cons_succ, List.getElem?_cons_zero, Option.map_some, Option.getD_some, valsG, List.map_cons, List.map_nil, List.length_cons, List.length_nil]; exact ⟨_, rfl, (by first | with_reducible assumption | exact krg _ | exact Keep.al (krg _) _), fun _ _ => rfl⟩)
      · ((try clear hd); clear hs; simp only [fillG, List.set_cons_zero, List.set_cons_succ]; refine want_n rfl ?_; go_wp2_with (first | fail); simp only [DoneG, fillG, List.set_cons_zero, List.set_cons_succ, relG, eqG, eqG1, eqG2, eqG3, gdG, gdG1, gnG, gnG1, List.getD_cons_zero, List.getD_cons_succ, List.getElem?_cons_succ, List.getElem?_cons_zero, Option.map_some, Option.getD_some, valsG, List.map_cons, List.map_nil, List.length_cons, List.length_nil]; exact ⟨_, rfl, (by first | with_reducible assumption | exact krg _ | exact Keep.al (krg _) _), fun _ _ => rfl⟩)
      · (obtain ⟨d3, d4⟩ := hd; subst d3; subst d4; clear hs; simp only [fillG, List.set_cons_zero, List.set_cons_succ]; refine want_n rfl ?_; go_wp2_with (first | fail); simp only [DoneG, fillG, List.set_cons_zero, List.set_cons_succ, relG, eqG, eqG1, eqG2, eqG3, gdG, gdG1, gnG, gnG1, List.getD_cons_zero, List.getD_cons_succ, List.getElem?_cons_succ, List.getElem?_cons_zero, Option.map_some, Option.getD_some, valsG, List.map_cons, List.map_nil, List.length_cons, List.length_nil]; exact ⟨_, rfl, (by first | with_reducible assumption | exact krg _ | exact Keep.al (krg _) _), fun _ _ => rfl⟩)
      · (have d5 := hd; clear hd; subst d5; clear hs; simp only [fillG, List.set_cons_zero, List.set_cons_succ]; have hKW := Keep.tr (Keep.dr (Keep.rf _)) (hE rfl); have c2 := Keep.cell hKW c2; have x0 := Keep.cell hKW x0; have x1 := Keep.cell hKW x1; have x2 := Keep.cell hKW x2; have b0 := Keep.cell hKW b0; have b1 := Keep.cell hKW b1; have b2 := Keep.cell hKW b2; refine want_n rfl ?_; go_wp2_with (first | fail); simp only [DoneG, fillG, List.set_cons_zero, List.set_cons_succ, relG, eqG, eqG1, eqG2, eqG3, gdG, gdG1, gnG, gnG1, List.getD_cons_zero, List.getD_cons_succ, List.getElem?_cons_succ, List.getElem?_cons_zero, Option.map_some, Option.getD_some, valsG, List.map_cons, List.map_nil, List.length_cons, List.length_nil]; exact ⟨_, rfl, (by first | with_reducible assumption | exact krg _ | exact Keep.al (krg _) _), fun _ _ => rfl⟩)
      · ((try clear hd); clear hs; simp only [fillG, List.set_cons_zero, List.set_cons_succ]; have hKW := Keep.tr (Keep.dr (Keep.rf _)) (hE rfl); have c2 := Keep.cell hKW c2; have x0 := Keep.cell hKW x0; have x1 := Keep.cell hKW x1; have x2 := Keep.cell hKW x2; have b0 := Keep.cell hKW b0; have b1 := Keep.cell hKW b1; have b2 := Keep.cell hKW b2; refine want_n rfl ?_; go_wp2_with (first | fail); simp only [DoneG, fillG, List.set_cons_zero, List.set_cons_succ, relG, eqG, eqG1, eqG2, eqG3, gdG, gdG1, gnG, gnG1, List.getD_cons_zero, List.getD_cons_succ, List.getElem?_cons_succ, List.getElem?_cons_zero, Option.map_some, Option.getD_some, valsG, List.map_cons, List.map_nil, List.length_cons, List.length_nil]; exact ⟨_, rfl, (by first | with_reducible assumption | exact krg _ | exact Keep.al (krg _) _), fun _ _ => rfl⟩)
      · (obtain ⟨d6, d7⟩ := hd; subst d6; subst d7; clear hs; simp only [fillG, List.set_cons_zero, List.set_cons_succ]; have hKW := Keep.tr (Keep.dr (Keep.rf _)) (hE rfl); have c2 := Keep.cell hKW c2; have x0 := Keep.cell hKW x0; have x1 := Keep.cell hKW x1; have x2 := Keep.cell hKW x2; have b0 := Keep.cell hKW b0; have b1 := Keep.cell hKW b1; have b2 := Keep.cell hKW b2; refine want_n rfl ?_; go_wp2_with (first | (go_at_call 66; refine (refSameT _ _ _ _ _ ⟨_, _, rfl, HTYP.out.keep hKW⟩ ⟨_, _, rfl, HT2.out.ty.keep hKW⟩).mono ?_; rintro e w9 ⟨rfl, k9⟩; rw [HE.out]) | fail); simp only [DoneG, fillG, List.set_cons_zero, List.set_cons_succ, relG, eqG, eqG1, eqG2, eqG3, gdG, gdG1, gnG, gnG1, List.getD_cons_zero, List.getD_cons_succ, List.getElem?_cons_succ, List.getElem?_cons_zero, Option.map_some, Option.getD_some, valsG, List.map_cons, List.map_nil, List.length_cons, List.length_nil]; exact ⟨_, rfl, (by first | with_reducible assumption | exact krg _ | exact Keep.al (krg _) _), fun W9 hk9 => rfl⟩)
      · (have d8 := hd; clear hd; subst d8; clear hs; simp only [fillG, List.set_cons_zero, List.set_cons_succ]; refine want_n rfl ?_; go_wp2_with (first | fail); simp only [DoneG, fillG, List.set_cons_zero, List.set_cons_succ, relG, eqG, eqG1, eqG2, eqG3, gdG, gdG1, gnG, gnG1, List.getD_cons_zero, List.getD_cons_succ, List.getElem?_cons_succ, List.getElem?_cons_zero, Option.map_some, Option.getD_some, valsG, List.map_cons, List.map_nil, List.length_cons, List.length_nil]; exact ⟨_, rfl, (by first | with_reducible assumption | exact krg _ | exact Keep.al (krg _) _), fun _ _ => rfl⟩)
    (intro us W h9 hW hE hA; obtain ⟨u0, u1, u2, u3, u4, u5, u6, u7, u8, u9, rfl⟩ := rog 10 h9 rfl; clear h9; simp only [AllG, AtG, and_true, relG, eqG, eqG1, eqG2, eqG3, gdG, gdG1, gnG, gnG1, List.getD_cons_zero, List.getD_cons_succ, List.getElem?_cons_succ, List.getElem?_cons_zero, Option.map_some, Option.getD_some, valsG, List.map_cons, List.map_nil, List.length_cons, List.length_nil] at hA; have d9 := hA; clear hA; subst d9; simp only [fillG, List.set_cons_zero, List.set_cons_succ]; have hKW := Keep.tr (Keep.dr (Keep.rf _)) hW; clear hW hE)
    have HPU := hide (rkPutS (s := s) ⟨HM2.out.keep hKW, HTY.out, HLN.out, hlim⟩ (i + 1 + 1) (by omega) (by omega))
    have hq : ((i + 1 + 1 : Nat) : Int) = (i : Int) + 1 + 1 := by omega
    rw [hq] at HPU
    have KX := hide hKW
    clear hKW hlk c0 c1 c2 b0 b1 b2 x0 x1 x2 hq
    go_wp2_with fail
    refine HPU.out.mono ?_
    intro e w3 hA
    obtain ⟨rfl, hA2⟩ := id hA
    have HA := hide hA
    clear hA hA2
    go_wp2_with fail
    (try simp only [Exit.inBlock, Exit.then])
    first
      | refine bodyPost_ret (results_none rfl _ _ _) rfl ?_
      | refine bodyPost_end (results_none rfl _ _ _) rfl ?_
    exact HA.out.pre (HW2.out.tr (KWent.of_keep KX.out))
set_option maxHeartbeats 8000000 in
theorem rkNode_seenN (n : Int) (t : Ty) (d : Nat) (cs : List Value) (h : RkS 116 B Z w0 w p mb hv tv ov tys s) (ht : TyI (fun k => k < w0.heap.size ∨ Z k) d w cs t) (hok : Em.okS t = true) (hn : (Lit.int .i64 n).wf = true) (hl : s.b.length + 40040 * (2000 - s.ws.length) ≤ 100000000) (hp : ¬ Em.isPl t.op) (hop : ¬ t.op = Em.wList) (i : Nat) (hi : Em.posK s.ws n = some i) (t' : Ty) (ht' : s.ty[i]? = some t') (he : Em.eqT t' t = true) :
    Calls Try.prog 59 #[.pointer (some ⟨p, 0, none⟩), .int .i64 n, .agg cs.toArray] w (NodA 116 B Z w0 w p mb hv tv ov (s.put (i + 1))) := by
  cases d with
  | zero => exact ht.elim
  | succ d =>
    have HT0 := hide ht
    have HOK := hide hok
    have HP := hide hp
    obtain ⟨tv9, e0, hn0, hs0, hin0⟩ := id ht
    subst e0
    obtain ⟨A, c, e1, _⟩ := id hs0
    subst e1
    obtain ⟨o, m, ks⟩ := t
    simp only [Em.Ty.op, Em.Ty.n, Em.Ty.kids] at *
    have hnl : ¬ o = [108, 105, 115, 116] := hop
    obtain ⟨hM, hty, hlen, hlim⟩ := h
    have ka : Keep w (w.alloc (.cells #[.string (str o), .int .i64 m, .slice A ks.length c] 25)) := (by repeat (first | exact Keep.rf _ | assumption | apply Keep.al | apply Keep.dr | apply Keep.dn))
    have hB := heap_alloc_new w (.cells #[.string (str o), .int .i64 m, .slice A ks.length c] 25)
    have hnb : ¬ OwnK p mb tv ov w.heap.size := fun e => by have := (hM.ltO _ e).2; omega
    have hM1 := hM.keep ka
    have HT1 := hide (HT0.out.keep ka)
    have HPL := hide (refPlain22 HT1.out.ty HOK.out)
    have b0 := top_cells hB 0
    have b1 := top_cells hB 1
    have b2 := top_cells hB 2
    have c4 := top_cells hM1.top 4
    simp only [List.getElem?_toArray, List.getElem?_cons_succ, List.getElem?_cons_zero] at b0 b1 b2 c4
    have HB := hide hB
    have HM1 := hide hM1
    have KA := hide ka
    have HNB := hide hnb
    have HSZ := hide (show (w.alloc (.cells #[.string (str o), .int .i64 m, .slice A ks.length c] 25)).heap.size = w.heap.size + 1 from by simp)
    have HTY := hide hty
    have HLN := hide hlen
    have hO := opB o
    clear hM hM1 ka hB ht hs0 hin0 hn0 hnb hok hp hty hlen
    go_enter Try.func59, Try.ntmps59
    go_wp2_with fail
    generalize World.alloc w _ = w1 at *
    refine HPL.out.mono ?_
    rintro e w2 ⟨rfl, k2⟩
    clear HPL
    have hpd : decide (Em.isPl (Ty.op (.mk o m ks))) = false := decide_eq_false HP.out
    rw [hpd]
    clear hpd
    have hM2 := HM1.out.keep k2
    have hB2 := (k2.frm fun _ => False).heap (fun h => h) HB.out
    have HT2 := hide (HT1.out.keep k2)
    have KA2 := hide (Keep.tr KA.out k2)
    have b0 := top_cells hB2 0
    have b1 := top_cells hB2 1
    have b2 := top_cells hB2 2
    have c0 := top_cells hM2.top 0
    have c1 := top_cells hM2.top 1
    have c2 := top_cells hM2.top 2
    simp only [List.getElem?_toArray, List.getElem?_cons_succ, List.getElem?_cons_zero] at b0 b1 b2 c0 c1 c2
    have HB2 := hide hB2
    have HM2 := hide hM2
    have HW2 := hide (KWent.of_keep (Z := Z) (p := p) (mb := mb) (tv := tv) (ov := ov) KA2.out)
    have HL2 := hide (show w.heap.size < w2.heap.size from by have := HSZ.out; have := k2.size; omega)
    clear hM2 hB2 k2 c4 HT1 HB KA HM1 HSZ
    have hlk := HM2.out.map.look_ok (P := Try.prog) Try.underlying114 Try.underlying36 (zeroInt _) n hn
    have hpv : posKV s.ws n = some (.int .i64 (i : Int)) := by unfold posKV; rw [hi]; rfl
    rw [hpv] at hlk
    simp only [Option.getD_some, Option.isSome_some] at hlk
    rw [HTY.out] at ht'
    obtain ⟨hil, g, c', d', o', n', A', m', c2', etv, hty, x0, x1, x2⟩ := HM2.out.ty_at ht'
    subst etv
    have hil2 : (i : Int) < (tys.length : Int) := by omega
    have hlt2 := HLN.out
    have hib : (i : Int) < 2000 := by omega
    have HTYP := hide hty
    have HE := hide he
    clear hpv hty he ht'
    go_wp2_with fail
    apply region_all (by kernel_rfl) Keep Keep krg ktg krg ktg (fun _ _ h => h) [some 42, some 43, some 44, some 45, some 46, some 47, some 48, some 49, some 50, some 51] [eqG _ , eqG _ , eqG _ , eqG _ , eqG _ , eqG _ , eqG _ , eqG _ , fun us _ v => v = .bool true, eqG _ ] [⟨[], [], true, false, false⟩, ⟨[0], [], true, false, false⟩, ⟨[1], [], true, false, false⟩, ⟨[2], [], true, false, false⟩, ⟨[], [], true, false, false⟩, ⟨[3, 4], [], true, false, false⟩, ⟨[5], [], true, false, false⟩, ⟨[], [], true, false, false⟩, ⟨[6, 7], [], true, false, false⟩, ⟨[8], [], true, false, false⟩] [9] (by kernel_rfl) (by kernel_rfl) 
    · refine ⟨?_, ?_, ?_, ?_, ?_, ?_, ?_, ?_, ?_, ?_, trivial⟩ <;> (intro us W h9 hW hE hd hs K hK; obtain ⟨u0, u1, u2, u3, u4, u5, u6, u7, u8, u9, rfl⟩ := rog 10 h9 rfl; clear h9; try simp only [DepG, AtG, and_true, relG, eqG, eqG1, eqG2, eqG3, gdG, gdG1, gnG, gnG1, List.getD_cons_zero, List.getD_cons_succ, List.getElem?_cons_succ, List.getElem?_cons_zero, Option.map_some, Option.getD_some, valsG, List.map_cons, List.map_nil, List.length_cons, List.length_nil] at hd)
      · ((try clear hd); clear hs; simp only [fillG, List.set_cons_zero, List.set_cons_succ]; refine want_n rfl ?_; go_wp2_with (first | fail); simp only [DoneG, fillG, List.set_cons_zero, List.set_cons_succ, relG, eqG, eqG1, eqG2, eqG3, gdG, gdG1, gnG, gnG1, List.getD_cons_zero, List.getD_cons_succ, List.getElem?_cons_succ, List.getElem?_cons_zero, Option.map_some, Option.getD_some, valsG, List.map_cons, List.map_nil, List.length_cons, List.length_nil]; exact ⟨_, rfl, (by first | with_reducible assumption | exact krg _ | exact Keep.al (krg _) _), fun _ _ => rfl⟩)
      · (have d0 := hd; clear hd; subst d0; clear hs; simp only [fillG, List.set_cons_zero, List.set_cons_succ]; refine want_n rfl ?_; go_wp2_with (first | fail); simp only [DoneG, fillG, List.set_cons_zero, List.set_cons_succ, relG, eqG, eqG1, eqG2, eqG3, gdG, gdG1, gnG, gnG1, List.getD_cons_zero, List.getD_cons_succ, List.getElem?_cons_succ, List.getElem?_cons_zero, Option.map_some, Option.getD_some, valsG, List.map_cons, List.map_nil, List.length_cons, List.length_nil]; exact ⟨_, rfl, (by first | with_reducible assumption | exact krg _ | exact Keep.al (krg _) _), fun _ _ => rfl⟩)
      · (have d1 := hd; clear hd; subst d1; clear hs; simp only [fillG, List.set_cons_zero, List.set_cons_succ]; refine want_n rfl ?_; go_wp2_with (first | fail); simp only [DoneG, fillG, List.set_cons_zero, List.set_cons_succ, relG, eqG, eqG1, eqG2, eqG3, gdG, gdG1, gnG, gnG1, List.getD_cons_zero, List.getD_cons_succ, List.getElem?_cons_succ, List.getElem?_cons_zero, Option.map_some, Option.getD_some, valsG, List.map_cons, List.map_nil, List.length_cons, List.length_nil]; exact ⟨_, rfl, (by first | with_reducible assumption | exact krg _ | exact Keep.al (krg _) _), fun _ _ => rfl⟩)
      · (have d2 := hd; clear hd; subst d2; clear hs; simp only [fillG, List.set_cons_zero, List.set_cons_succ]; have hKW := Keep.tr (Keep.dr (Keep.rf _)) (hE rfl); have c2 := Keep.cell hKW c2; have x0 := Keep.cell hKW x0; have x1 := Keep.cell hKW x1; have x2 := Keep.cell hKW x2; have b0 := Keep.cell hKW b0; have b1 := Keep.cell hKW b1; have b2 := Keep.cell hKW b2; refine want_n rfl ?_; go_wp2_with (first | fail); simp only [DoneG, fillG, List.set_cons_zero, List.set_cons_succ, relG, eqG, eqG1, eqG2, eqG3, gdG, gdG1, gnG, gnG1, List.getD_cons_zero, List.getD_cons_succ, List.getElem?_cons_succ, List.getElem?_cons_zero, Option.map_some, Option.getD_some, valsG, List.map_cons, List.map_nil, List.length_cons, List.length_nil]; exact ⟨_, rfl, (by first | with_reducible assumption | exact krg _ | exact Keep.al (krg _) _), fun _ _ => rfl⟩)
      · ((try clear hd); clear hs; simp only [fillG, List.set_cons_zero, List.set_cons_succ]; refine want_n rfl ?_; go_wp2_with (first | fail); simp only [DoneG, fillG, List.set_cons_zero, List.set_cons_succ, relG, eqG, eqG1, eqG2, eqG3, gdG, gdG1, gnG, gnG1, List.getD_cons_zero, List.getD_cons_succ, List.getElem?_cons_succ, List.getElem?_cons_zero, Option.map_some, Option.getD_some, valsG, List.map_cons, List.map_nil, List.length_cons, List.length_nil]; exact ⟨_, rfl, (by first | with_reducible assumption | exact krg _ | exact Keep.al (krg _) _), fun _ _ => rfl⟩)
      · (obtain ⟨d3, d4⟩ := hd; subst d3; subst d4; clear hs; simp only [fillG, List.set_cons_zero, List.set_cons_succ]; refine want_n rfl ?_; go_wp2_with (first | fail); simp only [DoneG, fillG, List.set_cons_zero, List.set_cons_succ, relG, eqG, eqG1, eqG2, eqG3, gdG, gdG1, gnG, gnG1, List.getD_cons_zero, List.getD_cons_succ, List.getElem?_cons_succ, List.getElem?_cons_zero, Option.map_some, Option.getD_some, valsG, List.map_cons, List.map_nil, List.length_cons, List.length_nil]; exact ⟨_, rfl, (by first | with_reducible assumption | exact krg _ | exact Keep.al (krg _) _), fun _ _ => rfl⟩)
      · (have d5 := hd; clear hd; subst d5; clear hs; simp only [fillG, List.set_cons_zero, List.set_cons_succ]; have hKW := Keep.tr (Keep.dr (Keep.rf _)) (hE rfl); have c2 := Keep.cell hKW c2; have x0 := Keep.cell hKW x0; have x1 := Keep.cell hKW x1; have x2 := Keep.cell hKW x2; have b0 := Keep.cell hKW b0; have b1 := Keep.cell hKW b1; have b2 := Keep.cell hKW b2; refine want_n rfl ?_; go_wp2_with (first | fail); simp only [DoneG, fillG, List.set_cons_zero, List.set_cons_succ, relG, eqG, eqG1, eqG2, eqG3, gdG, gdG1, gnG, gnG1, List.getD_cons_zero, List.getD_cons_succ, List.getElem?_cons_succ, List.getElem?_cons_zero, Option.map_some, Option.getD_some, valsG, List.map_cons, List.map_nil, List.length_cons, List.length_nil]; exact ⟨_, rfl, (by first | with_reducible assumption | exact krg _ | exact Keep.al (krg _) _), fun _ _ => rfl⟩)
      · ((try clear hd); clear hs; simp only [fillG, List.set_cons_zero, List.set_cons_succ]; have hKW := Keep.tr (Keep.dr (Keep.rf _)) (hE rfl); have c2 := Keep.cell hKW c2; have x0 := Keep.cell hKW x0; have x1 := Keep.cell hKW x1; have x2 := Keep.cell hKW x2; have b0 := Keep.cell hKW b0; have b1 := Keep.cell hKW b1; have b2 := Keep.cell hKW b2; refine want_n rfl ?_; go_wp2_with (first | fail); simp only [DoneG, fillG, List.set_cons_zero, List.set_cons_succ, relG, eqG, eqG1, eqG2, eqG3, gdG, gdG1, gnG, gnG1, List.getD_cons_zero, List.getD_cons_succ, List.getElem?_cons_succ, List.getElem?_cons_zero, Option.map_some, Option.getD_some, valsG, List.map_cons, List.map_nil, List.length_cons, List.length_nil]; exact ⟨_, rfl, (by first | with_reducible assumption | exact krg _ | exact Keep.al (krg _) _), fun _ _ => rfl⟩)
      · (obtain ⟨d6, d7⟩ := hd; subst d6; subst d7; clear hs; simp only [fillG, List.set_cons_zero, List.set_cons_succ]; have hKW := Keep.tr (Keep.dr (Keep.rf _)) (hE rfl); have c2 := Keep.cell hKW c2; have x0 := Keep.cell hKW x0; have x1 := Keep.cell hKW x1; have x2 := Keep.cell hKW x2; have b0 := Keep.cell hKW b0; have b1 := Keep.cell hKW b1; have b2 := Keep.cell hKW b2; refine want_n rfl ?_; go_wp2_with (first | (go_at_call 66; refine (refSameT _ _ _ _ _ ⟨_, _, rfl, HTYP.out.keep hKW⟩ ⟨_, _, rfl, HT2.out.ty.keep hKW⟩).mono ?_; rintro e w9 ⟨rfl, k9⟩; rw [HE.out]) | fail); simp only [DoneG, fillG, List.set_cons_zero, List.set_cons_succ, relG, eqG, eqG1, eqG2, eqG3, gdG, gdG1, gnG, gnG1, List.getD_cons_zero, List.getD_cons_succ, List.getElem?_cons_succ, List.getElem?_cons_zero, Option.map_some, Option.getD_some, valsG, List.map_cons, List.map_nil, List.length_cons, List.length_nil]; exact ⟨_, rfl, (by first | with_reducible assumption | exact krg _ | exact Keep.al (krg _) _), fun W9 hk9 => rfl⟩)
      · (have d8 := hd; clear hd; subst d8; clear hs; simp only [fillG, List.set_cons_zero, List.set_cons_succ]; refine want_n rfl ?_; go_wp2_with (first | fail); simp only [DoneG, fillG, List.set_cons_zero, List.set_cons_succ, relG, eqG, eqG1, eqG2, eqG3, gdG, gdG1, gnG, gnG1, List.getD_cons_zero, List.getD_cons_succ, List.getElem?_cons_succ, List.getElem?_cons_zero, Option.map_some, Option.getD_some, valsG, List.map_cons, List.map_nil, List.length_cons, List.length_nil]; exact ⟨_, rfl, (by first | with_reducible assumption | exact krg _ | exact Keep.al (krg _) _), fun _ _ => rfl⟩)
    (intro us W h9 hW hE hA; obtain ⟨u0, u1, u2, u3, u4, u5, u6, u7, u8, u9, rfl⟩ := rog 10 h9 rfl; clear h9; simp only [AllG, AtG, and_true, relG, eqG, eqG1, eqG2, eqG3, gdG, gdG1, gnG, gnG1, List.getD_cons_zero, List.getD_cons_succ, List.getElem?_cons_succ, List.getElem?_cons_zero, Option.map_some, Option.getD_some, valsG, List.map_cons, List.map_nil, List.length_cons, List.length_nil] at hA; have d9 := hA; clear hA; subst d9; simp only [fillG, List.set_cons_zero, List.set_cons_succ]; have hKW := Keep.tr (Keep.dr (Keep.rf _)) hW; clear hW hE)
    have HPU := hide (rkPutS (s := s) ⟨HM2.out.keep hKW, HTY.out, HLN.out, hlim⟩ (i + 1) (by omega) (by omega))
    have hq : ((i + 1 : Nat) : Int) = (i : Int) + 1 := by omega
    rw [hq] at HPU
    have KX := hide hKW
    clear hKW hlk c0 c1 c2 b0 b1 b2 x0 x1 x2 hq
    go_wp2_with fail
    refine HPU.out.mono ?_
    intro e w3 hA
    obtain ⟨rfl, hA2⟩ := id hA
    have HA := hide hA
    clear hA hA2
    go_wp2_with fail
    (try simp only [Exit.inBlock, Exit.then])
    first
      | refine bodyPost_ret (results_none rfl _ _ _) rfl ?_
      | refine bodyPost_end (results_none rfl _ _ _) rfl ?_
    exact HA.out.pre (HW2.out.tr (KWent.of_keep KX.out))
end
end Go.Proofs.Ytoehaijmkmdggaa
