/- Walk: a block of a graph that comes the first time (counter.ref, the reference of shape). Walk: may a graph be built? (Is, the reference of shape) -/
import Derived.Test.YtoehaijmkmdggaaGreatGBldP
import Derived.Shelf.Abstract
import Derived.Deep.DeepCutAuto
import Derived.Deep.CutBlock
import Derived.Deep.Cut
import Derived.Deep.RegionWith
import Derived.Deep.QuietTactic
import Derived.BigQuiet
set_option linter.unusedSimpArgs false
set_option linter.unusedVariables false
namespace Go.Proofs.YtoehaijmkmdggaaGreat
open Go.RowKit Go.Maps
set_option linter.unusedVariables false
set_option linter.unusedSimpArgs false
set_option maxRecDepth 100000
/-- A counter at p. -/
def CntD (w : World) (p : Nat) (r1 r2 u : Value) (n : Nat) (ok : Bool) : Prop := w.heap[p]? = some (.cells #[r1, r2, u, .int .i64 (n : Int), .bool ok] 118)
theorem CntD.keep {w w' : World} {p n : Nat} {r1 r2 u : Value} {ok : Bool} (h : CntD w p r1 r2 u n ok) (k : Keep w w') : CntD w' p r1 r2 u n ok := (k.frm fun _ => False).heap (fun h => h) h
/-- What was counted; none: it is no graph. -/
def CntO (w : World) (p : Nat) (r1 r2 u : Value) (len : Nat) (o : Option Nat) : Prop := ∃ n, CntD w p r1 r2 u n o.isSome ∧ n ≤ len ∧ ∀ m, o = some m → n = m
theorem CntO.keep {w w' : World} {p len : Nat} {r1 r2 u : Value} {o : Option Nat} (h : CntO w p r1 r2 u len o) (k : Keep w w') : CntO w' p r1 r2 u len o := by
  obtain ⟨n, h1, h2⟩ := h
  exact ⟨n, h1.keep k, h2⟩
def CntA (p : Nat) (r1 r2 u : Value) (len : Nat) (o : Option Nat) (w : World) (e : Ending) (w' : World) : Prop := e = .returned (.tuple #[]) ∧ CntO w' p r1 r2 u len o ∧ Frm (· = p) w w'
def CntC (w0 : World) (p : Nat) (r1 r2 u : Value) (bs : List Em.Blk) (f : Nat) : Prop :=
  ∀ (w : World) (o : Option Nat) (x : Bool × Int), Keep w0 w → CntO w p r1 r2 u bs.length o → (∀ n, o = some n → bs.length - n < f) → (Lit.int .i64 x.2).wf = true →
    Calls Tryz.prog 64 #[.pointer (some ⟨p, 0, none⟩), .agg #[.bool x.1, .int .i64 x.2]] w (CntA p r1 r2 u bs.length (o.bind (Em.chkP bs f x)) w)
theorem refKids18 (t : Int) (w : World) : Calls Tryz.prog 81 #[.int .i64 t] w fun e w' => e = .returned (.int .i64 (Em.kidsN t)) ∧ w = w' := by
  by_cases c1 : t = 1
  · subst c1
    go_enter Tryz.func81, Tryz.ntmps81
    go_wp2
    go_ret
    exact ⟨rfl, rfl⟩
  by_cases c2 : t = 2
  · subst c2
    go_enter Tryz.func81, Tryz.ntmps81
    go_wp2
    go_ret
    exact ⟨rfl, rfl⟩
  by_cases c3 : t = 3
  · subst c3
    go_enter Tryz.func81, Tryz.ntmps81
    go_wp2
    go_ret
    exact ⟨rfl, rfl⟩
  by_cases c5 : t = 5
  · subst c5
    go_enter Tryz.func81, Tryz.ntmps81
    go_wp2
    go_ret
    exact ⟨rfl, rfl⟩
  by_cases c4 : t = 4
  · subst c4
    go_enter Tryz.func81, Tryz.ntmps81
    go_wp2
    go_ret
    exact ⟨rfl, rfl⟩
  · have h : Em.kidsN t = -1 := by
      unfold Em.kidsN
      rw [if_neg c1, if_neg (by omega), if_neg c4]
    have HH := hide h
    have e1 : (t == 1) = false := by simp [c1]
    have e2 : (t == 2) = false := by simp [c2]
    have e3 : (t == 3) = false := by simp [c3]
    have e4 : (t == 4) = false := by simp [c4]
    have e5 : (t == 5) = false := by simp [c5]
    clear h
    go_enter Tryz.func81, Tryz.ntmps81
    go_wp2
    go_ret
    rw [HH.out]
    exact ⟨rfl, rfl⟩
theorem refWrap (n : Int) (w : World) : Calls Tryz.prog 79 #[.int .i64 n] w fun e w' => e = .returned (.int .i64 (intW n / 2)) ∧ w = w' := by
  go_enter Tryz.func79, Tryz.ntmps79
  go_wp2_with fail
  refine (refInt n _).mono ?_
  rintro e w' ⟨rfl, rfl⟩
  generalize hm : intW n = m
  have HM := hide hm
  clear hm
  go_wp2_with fail
  refine (refNum m _).mono ?_
  rintro e w' ⟨rfl, rfl⟩
  go_wp2_with fail
  go_ret
  rw [HM.out]
  exact ⟨rfl, rfl⟩
theorem wrap_fits (n : Int) : (intW n / 2 == n) = Em.fitsN n := by
  have h : -4611686018427387904 ≤ intW n / 2 ∧ intW n / 2 < 4611686018427387904 := by
    unfold intW
    rw [IntKind.wrap_i64]
    omega
  unfold Em.fitsN
  rw [Bool.eq_iff_iff, beq_iff_eq, Bool.and_eq_true, decide_eq_true_iff, decide_eq_true_iff]
  refine ⟨fun e => by omega, fun ⟨e1, e2⟩ => intW_back n e1 e2⟩
theorem blkOk_form2 (b : Em.Blk) : ((Em.kidsN b.tag != (b.kids.length : Int)) || (!(str b.str).toList.isEmpty && (b.tag != 1))) = !Em.blkOk b := by
  unfold Em.blkOk
  rw [str_list]
  generalize b.kids.length = k
  generalize Em.kidsN b.tag = m
  generalize b.tag = t
  generalize b.str = s
  by_cases h : m = (k : Int)
  · by_cases h2 : t = 1 <;> cases s <;> simp [h, h2]
  · have h' : ¬ (k : Int) = m := fun e => h e.symm
    by_cases h2 : t = 1 <;> cases s <;> simp [h, h', h2]
set_option maxHeartbeats 16000000 in
theorem cntRef_new {w0 : World} {p f : Nat} {r1 r2 u : Value} {bs : List Em.Blk} (hu : Sl 3 KBk w0 u bs) (hp : w0.heap.size ≤ p) (ih : CntC w0 p r1 r2 u bs f) (w : World) (n : Nat) (x2 : Int) (k0 : Keep w0 w) (hd : CntD w p r1 r2 u n true) (hf : bs.length - n < f + 1) (hx : (Lit.int .i64 x2).wf = true) (g0 : x2 = (n : Int)) (g1 : n < bs.length) :
    Calls Tryz.prog 64 #[.pointer (some ⟨p, 0, none⟩), .agg #[.bool false, .int .i64 x2]] w (CntA p r1 r2 u bs.length (Em.chkP bs (f + 1) (false, x2) n) w) := by
  have hxb := in_i64 hx
  obtain ⟨uA, uc, rfl, hlc, hcm, hr⟩ := hu
  have hpw : p < w.heap.size := (Array.getElem?_eq_some_iff.1 hd).1
  have K2 : Keep w (w.alloc (.cells #[.bool false, .int .i64 x2] 59)) := (by repeat (first | exact Keep.rf _ | assumption | apply Keep.al | apply Keep.dr | apply Keep.dn))
  have hC := heap_alloc_new w (.cells #[.bool false, .int .i64 x2] 59)
  have hd2 := hd.keep K2
  have c0 := top_cells hC 0
  have c1 := top_cells hC 1
  have d0 := top_cells hd2 0
  have d1 := top_cells hd2 1
  have d2 := top_cells hd2 2
  have d3 := top_cells hd2 3
  have d4 := top_cells hd2 4
  simp only [List.getElem?_toArray, List.getElem?_cons_succ, List.getElem?_cons_zero] at c0 c1 d0 d1 d2 d3 d4
  have HD2 := hide hd2
  have HK2 := hide K2
  have HC2 := hide hC
  clear hd hd2 hC K2
  have h1 : ¬ (n : Int) < 0 := by omega
  have h2 : ¬ (n : Int) > (n : Int) := by omega
  have h3 : ¬ (n : Int) ≥ (bs.length : Int) := by omega
  have h4 : ¬ (n : Int) < (n : Int) := by omega
  have e1 : decide ((n : Int) < 0) = false := decide_eq_false h1
  have e2 : decide ((n : Int) > (n : Int)) = false := decide_eq_false h2
  have e3 : decide ((n : Int) ≥ (bs.length : Int)) = false := decide_eq_false h3
  have e4 : decide ((n : Int) < (n : Int)) = false := decide_eq_false h4
  have hbn : (n : Int) ≤ 9223372036854775807 := by omega
  obtain ⟨ad, rfl, hcell⟩ := hr (by omega)
  obtain ⟨cs, hcs, hcl, hkt⟩ := hcell n g1
  have hbn' : bs[n]? = some bs[n] := List.getElem?_eq_getElem g1
  generalize bs[n] = b at *
  obtain ⟨kv, rfl, hbw, hks⟩ := hkt
  obtain ⟨kA, kc, rfl, hkl⟩ := id hks
  have q0 := Keep.cell (Keep.tr k0 HK2.out) (hcl 0 _ rfl)
  rw [Nat.add_zero] at q0
  have q1 := cell_off (Keep.cell (Keep.tr k0 HK2.out) (hcl 1 _ rfl))
  have q2 := cell_off (Keep.cell (Keep.tr k0 HK2.out) (hcl 2 _ rfl))
  have Q0 := hide (hcl 0 _ rfl)
  have Q1 := hide (hcl 1 _ rfl)
  have Q2 := hide (hcl 2 _ rfl)
  have HR := hide hr
  have HKS := hide hks
  have HXE := hide (show Em.chkP bs (f + 1) (false, x2) n = if Em.blkOk b = true then Em.kidsC (Em.chkP bs f) b.kids (n + 1) else none from by simp [Em.chkP, g0, hbn'])
  subst g0
  clear hcell hcl hr hks hbn' hcs hkl h1 h2 h3 h4
  generalize Em.chkP bs (f + 1) (false, (n : Int)) n = oo at *
  have IH := hide ih
  clear ih
  go_enter Tryz.func64, Tryz.ntmps64
  go_wp2_with fail
  generalize World.alloc w _ = w1 at *
  go_quiet (fail)
  have kd : Keep w1 (w1.drewN nq) := (by repeat (first | exact Keep.rf _ | assumption | apply Keep.al | apply Keep.dr | apply Keep.dn))
  generalize World.drewN w1 nq = W1 at *
  replace d2 := Keep.cell kd d2
  replace d3 := Keep.cell kd d3
  replace c1 := Keep.cell kd c1
  replace q0 := Keep.cell kd q0
  replace q1 := Keep.cell kd q1
  replace q2 := Keep.cell kd q2
  have HK1 := hide (Keep.tr HK2.out kd)
  have HD1 := hide (HD2.out.keep kd)
  clear kd HD2 HK2 HC2 c0 d0 d1 d4
  go_wp2_with fail
  go_quiet (fail)
  have kd : Keep W1 (W1.drewN nq) := (by repeat (first | exact Keep.rf _ | assumption | apply Keep.al | apply Keep.dr | apply Keep.dn))
  generalize World.drewN W1 nq = W2 at *
  replace d2 := Keep.cell kd d2
  replace d3 := Keep.cell kd d3
  replace c1 := Keep.cell kd c1
  replace q0 := Keep.cell kd q0
  replace q1 := Keep.cell kd q1
  replace q2 := Keep.cell kd q2
  have HK2 := hide (Keep.tr HK1.out kd)
  have HD2 := hide (HD1.out.keep kd)
  have f3 := top_free HD2.out 3
  have F : Frm (· = p) W2 (W2.setCell ⟨p, 3, none⟩ (.int .i64 ((n : Int) + 1))) := (Frm.rf (· = p) _).st (p := ⟨p, 3, none⟩) (.inl rfl) _
  have hd4 : CntD (W2.setCell ⟨p, 3, none⟩ (.int .i64 ((n : Int) + 1))) p r1 r2 (.slice (some ad) bs.length uc) (n + 1) true := heap_setT (j := 3) HD2.out _
  have HF := hide ((HK2.out.frm (· = p)).tr F)
  have HD4 := hide hd4
  have kw4 := hide (Frm.keep k0 HF.out (fun i e => by have e : i = p := e; omega))
  have c1' := F.cell (a := ⟨w.heap.size, 1, none⟩) (fun e => by have e : w.heap.size = p := e; omega) c1
  have d2' := top_cells HD4.out 2
  simp only [List.getElem?_toArray, List.getElem?_cons_succ, List.getElem?_cons_zero] at d2'
  have q0' := Keep.cell kw4.out Q0.out
  rw [Nat.add_zero] at q0'
  have q1' := cell_off (Keep.cell kw4.out Q1.out)
  have q2' := cell_off (Keep.cell kw4.out Q2.out)
  clear kd HD1 HK1 hd4 d2 c1 q0 q1 q2
  go_wp2_with fail
  clear d3 f3 F HD2 HK2
  generalize World.setCell W2 _ _ = w3 at *
  have kx : ∀ o, Keep w3 (w3.alloc o) := fun o => (Keep.rf w3).al o
  have c1x := fun o => Keep.cell (kx o) c1'
  have d2x := fun o => Keep.cell (kx o) d2'
  have q0x := fun o => Keep.cell (kx o) q0'
  have q1x := fun o => Keep.cell (kx o) q1'
  have q2x := fun o => Keep.cell (kx o) q2'
  clear kx
  go_cut [4] (fun p4 W => ∃ g : Nat, p4 = .pointer (some ⟨g, 0, none⟩) ∧ W.heap[g]? = some (.cells #[.int .i64 b.tag, .string (str b.str), .slice kA b.kids.length kc] 72) ∧ w3.heap.size ≤ g ∧ Keep w3 W)
  case first =>
    go_region
    go_wp2_with fail
    go_meet
    exact ⟨_, rfl, (((Keep.rf _).dr).frm fun _ => False).heap (fun h => h) (heap_alloc_new w3 _), Nat.le_refl _, (by repeat (first | exact Keep.rf _ | assumption | apply Keep.al | apply Keep.dr | apply Keep.dn))⟩
  case rest =>
    obtain ⟨g, rfl, hg, hgs, kc2⟩ := hcut
    have p0 := top_cells hg 0
    have p1 := top_cells hg 1
    have p2 := top_cells hg 2
    simp only [List.getElem?_toArray, List.getElem?_cons_succ, List.getElem?_cons_zero] at p0 p1 p2
    have HG := hide hg
    have HD5 := hide (HD4.out.keep kc2)
    have HF5 := hide (HF.out.tr (kc2.frm _))
    have hwg : w.heap.size ≤ g := Nat.le_trans HF.out.size hgs
    clear c1' c1x d2x d2' q0x q1x q2x q0' q1' q2' hg kc2 HD4 HF
    go_wp2_with fail
    apply region_all (by kernel_rfl) Keep Keep krg ktg krg ktg (fun _ _ h => h) [some 79, some 80, some 81, some 82, some 83, some 84, some 85, some 86, some 87, some 88, some 89, some 90, some 91, some 92, some 93, some 94, some 95] [eqG _ , eqG _ , eqG _ , eqG _ , eqG _ , eqG _ , eqG _ , eqG _ , gnG _ _ , gnG _ _ , gnG _ _ , gnG _ _ , gdG _ _ , gdG _ _ , gdG _ _ , gnG _ _ , eqG _ ] [⟨[], [], true, false, false⟩, ⟨[0], [], true, false, false⟩, ⟨[1], [], true, false, false⟩, ⟨[], [], true, false, false⟩, ⟨[3], [], true, false, false⟩, ⟨[4], [], true, false, false⟩, ⟨[2, 5], [], true, false, false⟩, ⟨[6], [], true, false, false⟩, ⟨[7], [], true, false, false⟩, ⟨[7, 8], [], true, false, false⟩, ⟨[7, 9], [], true, false, false⟩, ⟨[7, 10], [], true, false, false⟩, ⟨[11], [], true, false, false⟩, ⟨[11, 12], [], true, false, false⟩, ⟨[11, 13], [], true, false, false⟩, ⟨[7, 11, 14], [], true, false, false⟩, ⟨[7, 15], [], true, false, false⟩] [16] (by kernel_rfl) (by kernel_rfl) 
    · refine ⟨?_, ?_, ?_, ?_, ?_, ?_, ?_, ?_, ?_, ?_, ?_, ?_, ?_, ?_, ?_, ?_, ?_, trivial⟩ <;> (intro us W h9 hW hE hd hs K hK; obtain ⟨u0, u1, u2, u3, u4, u5, u6, u7, u8, u9, u10, u11, u12, u13, u14, u15, u16, rfl⟩ := rog 17 h9 rfl; clear h9; try simp only [DepG, AtG, and_true, relG, eqG, eqG1, eqG2, eqG3, gdG, gdG1, gnG, gnG1, List.getD_cons_zero, List.getD_cons_succ, List.getElem?_cons_succ, List.getElem?_cons_zero, Option.map_some, Option.getD_some, valsG, List.map_cons, List.map_nil, List.length_cons, List.length_nil] at hd)
      · ((try clear hd); clear hs; simp only [fillG, List.set_cons_zero, List.set_cons_succ]; refine want_n rfl ?_; go_wp2_with (first | fail); simp only [DoneG, fillG, List.set_cons_zero, List.set_cons_succ, relG, eqG, eqG1, eqG2, eqG3, gdG, gdG1, gnG, gnG1, List.getD_cons_zero, List.getD_cons_succ, List.getElem?_cons_succ, List.getElem?_cons_zero, Option.map_some, Option.getD_some, valsG, List.map_cons, List.map_nil, List.length_cons, List.length_nil]; exact ⟨_, rfl, (by first | with_reducible assumption | exact krg _ | exact Keep.al (krg _) _), fun _ _ => rfl⟩)
      · (have d0 := hd; clear hd; subst d0; clear hs; simp only [fillG, List.set_cons_zero, List.set_cons_succ]; have hKW := Keep.tr (Keep.dr (Keep.rf _)) (hE rfl); have p0 := Keep.cell hKW p0; have p1 := Keep.cell hKW p1; have p2 := Keep.cell hKW p2; refine want_n rfl ?_; go_wp2_with (first | fail); simp only [DoneG, fillG, List.set_cons_zero, List.set_cons_succ, relG, eqG, eqG1, eqG2, eqG3, gdG, gdG1, gnG, gnG1, List.getD_cons_zero, List.getD_cons_succ, List.getElem?_cons_succ, List.getElem?_cons_zero, Option.map_some, Option.getD_some, valsG, List.map_cons, List.map_nil, List.length_cons, List.length_nil]; exact ⟨_, rfl, (by first | with_reducible assumption | exact krg _ | exact Keep.al (krg _) _), fun _ _ => rfl⟩)
      · (have d1 := hd; clear hd; subst d1; clear hs; simp only [fillG, List.set_cons_zero, List.set_cons_succ]; have hKW := Keep.tr (Keep.dr (Keep.rf _)) (hE rfl); have p0 := Keep.cell hKW p0; have p1 := Keep.cell hKW p1; have p2 := Keep.cell hKW p2; refine want_n rfl ?_; go_wp2_with (first | (go_at_call 81; refine (refKids18 _ _).mono ?_; rintro e w' ⟨rfl, rfl⟩) | fail); simp only [DoneG, fillG, List.set_cons_zero, List.set_cons_succ, relG, eqG, eqG1, eqG2, eqG3, gdG, gdG1, gnG, gnG1, List.getD_cons_zero, List.getD_cons_succ, List.getElem?_cons_succ, List.getElem?_cons_zero, Option.map_some, Option.getD_some, valsG, List.map_cons, List.map_nil, List.length_cons, List.length_nil]; exact ⟨_, rfl, (by first | with_reducible assumption | exact krg _ | exact Keep.al (krg _) _), fun _ _ => rfl⟩)
      · ((try clear hd); clear hs; simp only [fillG, List.set_cons_zero, List.set_cons_succ]; refine want_n rfl ?_; go_wp2_with (first | fail); simp only [DoneG, fillG, List.set_cons_zero, List.set_cons_succ, relG, eqG, eqG1, eqG2, eqG3, gdG, gdG1, gnG, gnG1, List.getD_cons_zero, List.getD_cons_succ, List.getElem?_cons_succ, List.getElem?_cons_zero, Option.map_some, Option.getD_some, valsG, List.map_cons, List.map_nil, List.length_cons, List.length_nil]; exact ⟨_, rfl, (by first | with_reducible assumption | exact krg _ | exact Keep.al (krg _) _), fun _ _ => rfl⟩)
      · (have d3 := hd; clear hd; subst d3; clear hs; simp only [fillG, List.set_cons_zero, List.set_cons_succ]; have hKW := Keep.tr (Keep.dr (Keep.rf _)) (hE rfl); have p0 := Keep.cell hKW p0; have p1 := Keep.cell hKW p1; have p2 := Keep.cell hKW p2; refine want_n rfl ?_; go_wp2_with (first | fail); simp only [DoneG, fillG, List.set_cons_zero, List.set_cons_succ, relG, eqG, eqG1, eqG2, eqG3, gdG, gdG1, gnG, gnG1, List.getD_cons_zero, List.getD_cons_succ, List.getElem?_cons_succ, List.getElem?_cons_zero, Option.map_some, Option.getD_some, valsG, List.map_cons, List.map_nil, List.length_cons, List.length_nil]; exact ⟨_, rfl, (by first | with_reducible assumption | exact krg _ | exact Keep.al (krg _) _), fun _ _ => rfl⟩)
      · (have d4 := hd; clear hd; subst d4; clear hs; simp only [fillG, List.set_cons_zero, List.set_cons_succ]; have hKW := Keep.tr (Keep.dr (Keep.rf _)) (hE rfl); have p0 := Keep.cell hKW p0; have p1 := Keep.cell hKW p1; have p2 := Keep.cell hKW p2; refine want_n rfl ?_; go_wp2_with (first | fail); simp only [DoneG, fillG, List.set_cons_zero, List.set_cons_succ, relG, eqG, eqG1, eqG2, eqG3, gdG, gdG1, gnG, gnG1, List.getD_cons_zero, List.getD_cons_succ, List.getElem?_cons_succ, List.getElem?_cons_zero, Option.map_some, Option.getD_some, valsG, List.map_cons, List.map_nil, List.length_cons, List.length_nil]; exact ⟨_, rfl, (by first | with_reducible assumption | exact krg _ | exact Keep.al (krg _) _), fun _ _ => rfl⟩)
      · (obtain ⟨d2, d5⟩ := hd; subst d2; subst d5; clear hs; simp only [fillG, List.set_cons_zero, List.set_cons_succ]; refine want_n rfl ?_; go_wp2_with (first | fail); simp only [DoneG, fillG, List.set_cons_zero, List.set_cons_succ, relG, eqG, eqG1, eqG2, eqG3, gdG, gdG1, gnG, gnG1, List.getD_cons_zero, List.getD_cons_succ, List.getElem?_cons_succ, List.getElem?_cons_zero, Option.map_some, Option.getD_some, valsG, List.map_cons, List.map_nil, List.length_cons, List.length_nil]; exact ⟨_, rfl, (by first | with_reducible assumption | exact krg _ | exact Keep.al (krg _) _), fun _ _ => rfl⟩)
      · (have d6 := hd; clear hd; subst d6; clear hs; simp only [fillG, List.set_cons_zero, List.set_cons_succ]; refine want_n rfl ?_; go_wp2_with (first | fail); simp only [DoneG, fillG, List.set_cons_zero, List.set_cons_succ, relG, eqG, eqG1, eqG2, eqG3, gdG, gdG1, gnG, gnG1, List.getD_cons_zero, List.getD_cons_succ, List.getElem?_cons_succ, List.getElem?_cons_zero, Option.map_some, Option.getD_some, valsG, List.map_cons, List.map_nil, List.length_cons, List.length_nil]; exact ⟨_, rfl, (by first | with_reducible assumption | exact krg _ | exact Keep.al (krg _) _), fun _ _ => rfl⟩)
      · (have d7 := hd; clear hd; subst d7; clear hs; simp only [fillG, List.set_cons_zero, List.set_cons_succ]; refine want_b rfl (by rfl) (fun hg => ?_) (fun hg => ?_); (focus (have hG := hide hg; (try simp only [gd, hg, cond_true, Bool.and_self, Bool.true_and, Bool.and_true, cond_false, Bool.not_true, Bool.not_false]); go_wp2_with (first | fail); simp only [DoneG, fillG, List.set_cons_zero, List.set_cons_succ, relG, eqG, eqG1, eqG2, eqG3, gdG, gdG1, gnG, gnG1, List.getD_cons_zero, List.getD_cons_succ, List.getElem?_cons_succ, List.getElem?_cons_zero, Option.map_some, Option.getD_some, valsG, List.map_cons, List.map_nil, List.length_cons, List.length_nil]; exact ⟨_, rfl, (by first | with_reducible assumption | exact krg _ | exact Keep.al (krg _) _), fun _ _ => gd_f hG.out _⟩)); (focus (refine hK _ _ ?_; simp only [DoneG, fillG, List.set_cons_zero, List.set_cons_succ, relG, eqG, eqG1, eqG2, eqG3, gdG, gdG1, gnG, gnG1, List.getD_cons_zero, List.getD_cons_succ, List.getElem?_cons_succ, List.getElem?_cons_zero, Option.map_some, Option.getD_some, valsG, List.map_cons, List.map_nil, List.length_cons, List.length_nil]; exact ⟨undef, rfl, krg _, fun _ _ => gd_fn hg _⟩)))
      · (obtain ⟨d7, d8⟩ := hd; subst d7; subst d8; clear hs; simp only [fillG, List.set_cons_zero, List.set_cons_succ]; have hKW := Keep.tr (Keep.dr (Keep.rf _)) (hE rfl); have p0 := Keep.cell hKW p0; have p1 := Keep.cell hKW p1; have p2 := Keep.cell hKW p2; refine want_b rfl (by rfl) (fun hg => ?_) (fun hg => ?_); (focus (have hG := hide hg; (try simp only [gd, hg, cond_true, Bool.and_self, Bool.true_and, Bool.and_true, cond_false, Bool.not_true, Bool.not_false]); go_wp2_with (first | fail); simp only [DoneG, fillG, List.set_cons_zero, List.set_cons_succ, relG, eqG, eqG1, eqG2, eqG3, gdG, gdG1, gnG, gnG1, List.getD_cons_zero, List.getD_cons_succ, List.getElem?_cons_succ, List.getElem?_cons_zero, Option.map_some, Option.getD_some, valsG, List.map_cons, List.map_nil, List.length_cons, List.length_nil]; exact ⟨_, rfl, (by first | with_reducible assumption | exact krg _ | exact Keep.al (krg _) _), fun _ _ => gd_f hG.out _⟩)); (focus (refine hK _ _ ?_; simp only [DoneG, fillG, List.set_cons_zero, List.set_cons_succ, relG, eqG, eqG1, eqG2, eqG3, gdG, gdG1, gnG, gnG1, List.getD_cons_zero, List.getD_cons_succ, List.getElem?_cons_succ, List.getElem?_cons_zero, Option.map_some, Option.getD_some, valsG, List.map_cons, List.map_nil, List.length_cons, List.length_nil]; exact ⟨undef, rfl, krg _, fun _ _ => gd_fn hg _⟩)))
      · (obtain ⟨d7, d9⟩ := hd; subst d7; subst d9; clear hs; simp only [fillG, List.set_cons_zero, List.set_cons_succ]; refine want_b rfl (by rfl) (fun hg => ?_) (fun hg => ?_); (focus (have hG := hide hg; (try simp only [gd, hg, cond_true, Bool.and_self, Bool.true_and, Bool.and_true, cond_false, Bool.not_true, Bool.not_false]); go_wp2_with (first | fail); simp only [DoneG, fillG, List.set_cons_zero, List.set_cons_succ, relG, eqG, eqG1, eqG2, eqG3, gdG, gdG1, gnG, gnG1, List.getD_cons_zero, List.getD_cons_succ, List.getElem?_cons_succ, List.getElem?_cons_zero, Option.map_some, Option.getD_some, valsG, List.map_cons, List.map_nil, List.length_cons, List.length_nil]; exact ⟨_, rfl, (by first | with_reducible assumption | exact krg _ | exact Keep.al (krg _) _), fun _ _ => gd_f hG.out _⟩)); (focus (refine hK _ _ ?_; simp only [DoneG, fillG, List.set_cons_zero, List.set_cons_succ, relG, eqG, eqG1, eqG2, eqG3, gdG, gdG1, gnG, gnG1, List.getD_cons_zero, List.getD_cons_succ, List.getElem?_cons_succ, List.getElem?_cons_zero, Option.map_some, Option.getD_some, valsG, List.map_cons, List.map_nil, List.length_cons, List.length_nil]; exact ⟨undef, rfl, krg _, fun _ _ => gd_fn hg _⟩)))
      · (obtain ⟨d7, d10⟩ := hd; subst d7; subst d10; clear hs; simp only [fillG, List.set_cons_zero, List.set_cons_succ]; refine want_b rfl (by rfl) (fun hg => ?_) (fun hg => ?_); (focus (have hG := hide hg; (try simp only [gd, hg, cond_true, Bool.and_self, Bool.true_and, Bool.and_true, cond_false, Bool.not_true, Bool.not_false]); go_wp2_with (first | fail); simp only [DoneG, fillG, List.set_cons_zero, List.set_cons_succ, relG, eqG, eqG1, eqG2, eqG3, gdG, gdG1, gnG, gnG1, List.getD_cons_zero, List.getD_cons_succ, List.getElem?_cons_succ, List.getElem?_cons_zero, Option.map_some, Option.getD_some, valsG, List.map_cons, List.map_nil, List.length_cons, List.length_nil]; exact ⟨_, rfl, (by first | with_reducible assumption | exact krg _ | exact Keep.al (krg _) _), fun _ _ => gd_f hG.out _⟩)); (focus (refine hK _ _ ?_; simp only [DoneG, fillG, List.set_cons_zero, List.set_cons_succ, relG, eqG, eqG1, eqG2, eqG3, gdG, gdG1, gnG, gnG1, List.getD_cons_zero, List.getD_cons_succ, List.getElem?_cons_succ, List.getElem?_cons_zero, Option.map_some, Option.getD_some, valsG, List.map_cons, List.map_nil, List.length_cons, List.length_nil]; exact ⟨undef, rfl, krg _, fun _ _ => gd_fn hg _⟩)))
      · (have d11 := hd; clear hd; subst d11; clear hs; simp only [fillG, List.set_cons_zero, List.set_cons_succ]; refine want_ct (d := 90) rfl rfl (by rfl) (fun hg0 hg => ?_) (fun hg => ?_); (focus (have hG := hide hg; have hG0 := hide hg0; (try simp only [gd, hg, hg0, cond_true, Bool.and_self, Bool.true_and, Bool.and_true, cond_false, Bool.not_true, Bool.not_false]); go_wp2_with (first | fail); simp only [DoneG, fillG, List.set_cons_zero, List.set_cons_succ, relG, eqG, eqG1, eqG2, eqG3, gdG, gdG1, gnG, gnG1, List.getD_cons_zero, List.getD_cons_succ, List.getElem?_cons_succ, List.getElem?_cons_zero, Option.map_some, Option.getD_some, valsG, List.map_cons, List.map_nil, List.length_cons, List.length_nil]; exact ⟨_, rfl, (by first | with_reducible assumption | exact krg _ | exact Keep.al (krg _) _), fun _ _ => gd_t (and_tt hG0.out hG.out) _⟩)); (focus (refine hK _ _ ?_; simp only [DoneG, fillG, List.set_cons_zero, List.set_cons_succ, relG, eqG, eqG1, eqG2, eqG3, gdG, gdG1, gnG, gnG1, List.getD_cons_zero, List.getD_cons_succ, List.getElem?_cons_succ, List.getElem?_cons_zero, Option.map_some, Option.getD_some, valsG, List.map_cons, List.map_nil, List.length_cons, List.length_nil]; exact ⟨undef, rfl, krg _, fun _ _ => gd_tn hg _⟩)))
      · (obtain ⟨d11, d12⟩ := hd; subst d11; subst d12; clear hs; simp only [fillG, List.set_cons_zero, List.set_cons_succ]; have hKW := Keep.tr (Keep.dr (Keep.rf _)) (hE rfl); have p0 := Keep.cell hKW p0; have p1 := Keep.cell hKW p1; have p2 := Keep.cell hKW p2; refine want_ct (d := 90) rfl rfl (by rfl) (fun hg0 hg => ?_) (fun hg => ?_); (focus (have hG := hide hg; have hG0 := hide hg0; (try simp only [gd, hg, hg0, cond_true, Bool.and_self, Bool.true_and, Bool.and_true, cond_false, Bool.not_true, Bool.not_false]); go_wp2_with (first | fail); simp only [DoneG, fillG, List.set_cons_zero, List.set_cons_succ, relG, eqG, eqG1, eqG2, eqG3, gdG, gdG1, gnG, gnG1, List.getD_cons_zero, List.getD_cons_succ, List.getElem?_cons_succ, List.getElem?_cons_zero, Option.map_some, Option.getD_some, valsG, List.map_cons, List.map_nil, List.length_cons, List.length_nil]; exact ⟨_, rfl, (by first | with_reducible assumption | exact krg _ | exact Keep.al (krg _) _), fun _ _ => gd_t (and_tt hG0.out hG.out) _⟩)); (focus (refine hK _ _ ?_; simp only [DoneG, fillG, List.set_cons_zero, List.set_cons_succ, relG, eqG, eqG1, eqG2, eqG3, gdG, gdG1, gnG, gnG1, List.getD_cons_zero, List.getD_cons_succ, List.getElem?_cons_succ, List.getElem?_cons_zero, Option.map_some, Option.getD_some, valsG, List.map_cons, List.map_nil, List.length_cons, List.length_nil]; exact ⟨undef, rfl, krg _, fun _ _ => gd_tn hg _⟩)))
      · (obtain ⟨d11, d13⟩ := hd; subst d11; subst d13; clear hs; simp only [fillG, List.set_cons_zero, List.set_cons_succ]; refine want_ct (d := 90) rfl rfl (by rfl) (fun hg0 hg => ?_) (fun hg => ?_); (focus (have hG := hide hg; have hG0 := hide hg0; (try simp only [gd, hg, hg0, cond_true, Bool.and_self, Bool.true_and, Bool.and_true, cond_false, Bool.not_true, Bool.not_false]); go_wp2_with (first | fail); simp only [DoneG, fillG, List.set_cons_zero, List.set_cons_succ, relG, eqG, eqG1, eqG2, eqG3, gdG, gdG1, gnG, gnG1, List.getD_cons_zero, List.getD_cons_succ, List.getElem?_cons_succ, List.getElem?_cons_zero, Option.map_some, Option.getD_some, valsG, List.map_cons, List.map_nil, List.length_cons, List.length_nil]; exact ⟨_, rfl, (by first | with_reducible assumption | exact krg _ | exact Keep.al (krg _) _), fun _ _ => gd_t (and_tt hG0.out hG.out) _⟩)); (focus (refine hK _ _ ?_; simp only [DoneG, fillG, List.set_cons_zero, List.set_cons_succ, relG, eqG, eqG1, eqG2, eqG3, gdG, gdG1, gnG, gnG1, List.getD_cons_zero, List.getD_cons_succ, List.getElem?_cons_succ, List.getElem?_cons_zero, Option.map_some, Option.getD_some, valsG, List.map_cons, List.map_nil, List.length_cons, List.length_nil]; exact ⟨undef, rfl, krg _, fun _ _ => gd_tn hg _⟩)))
      · (obtain ⟨d7, d11, d14⟩ := hd; subst d7; subst d11; subst d14; clear hs; simp only [fillG, List.set_cons_zero, List.set_cons_succ]; refine want_b rfl (by rfl) (fun hg => ?_) (fun hg => ?_); (focus (have hG := hide hg; (try simp only [gd, hg, cond_true, Bool.and_self, Bool.true_and, Bool.and_true, cond_false, Bool.not_true, Bool.not_false]); refine wp_pick_and rfl rfl rfl ?_; refine hK _ _ ?_; simp only [DoneG, fillG, List.set_cons_zero, List.set_cons_succ, gd, hG.out, cond_true, cond_false, Bool.not_true, Bool.not_false, relG, eqG, eqG1, eqG2, eqG3, gdG, gdG1, gnG, gnG1, List.getD_cons_zero, List.getD_cons_succ, List.getElem?_cons_succ, List.getElem?_cons_zero, Option.map_some, Option.getD_some, valsG, List.map_cons, List.map_nil, List.length_cons, List.length_nil]; exact ⟨_, rfl, (by first | with_reducible assumption | exact krg _ | exact Keep.al (krg _) _), fun _ _ => gd_f hG.out _⟩)); (focus (refine hK _ _ ?_; simp only [DoneG, fillG, List.set_cons_zero, List.set_cons_succ, relG, eqG, eqG1, eqG2, eqG3, gdG, gdG1, gnG, gnG1, List.getD_cons_zero, List.getD_cons_succ, List.getElem?_cons_succ, List.getElem?_cons_zero, Option.map_some, Option.getD_some, valsG, List.map_cons, List.map_nil, List.length_cons, List.length_nil]; exact ⟨undef, rfl, krg _, fun _ _ => gd_fn hg _⟩)))
      · (obtain ⟨d7, d15⟩ := hd; subst d7; subst d15; clear hs; simp only [fillG, List.set_cons_zero, List.set_cons_succ]; refine want_n rfl ?_; refine wp_pick_or rfl rfl rfl ?_; refine hK _ _ ?_; simp only [DoneG, fillG, List.set_cons_zero, List.set_cons_succ, relG, eqG, eqG1, eqG2, eqG3, gdG, gdG1, gnG, gnG1, List.getD_cons_zero, List.getD_cons_succ, List.getElem?_cons_succ, List.getElem?_cons_zero, Option.map_some, Option.getD_some, valsG, List.map_cons, List.map_nil, List.length_cons, List.length_nil]; exact ⟨_, rfl, (by first | with_reducible assumption | exact krg _ | exact Keep.al (krg _) _), fun _ _ => rfl⟩)
    (intro us W4 h9 hW hE hA; obtain ⟨u0, u1, u2, u3, u4, u5, u6, u7, u8, u9, u10, u11, u12, u13, u14, u15, u16, rfl⟩ := rog 17 h9 rfl; clear h9; simp only [AllG, AtG, and_true, relG, eqG, eqG1, eqG2, eqG3, gdG, gdG1, gnG, gnG1, List.getD_cons_zero, List.getD_cons_succ, List.getElem?_cons_succ, List.getElem?_cons_zero, Option.map_some, Option.getD_some, valsG, List.map_cons, List.map_nil, List.length_cons, List.length_nil] at hA; have d16 := hA; clear hA; subst d16; simp only [fillG, List.set_cons_zero, List.set_cons_succ]; have k4 := Keep.tr (Keep.dr (Keep.rf _)) hW; clear hW hE)
    rw [blkOk_form2 b]
    have HK4 := hide k4
    have hd6 := HD5.out.keep k4
    have d4 := top_cells hd6 4
    have f4 := top_free hd6 4
    simp only [List.getElem?_toArray, List.getElem?_cons_succ, List.getElem?_cons_zero] at d4
    have HF6 := hide (HF5.out.tr (k4.frm _))
    have hw4 := hide (Frm.keep k0 HF6.out (fun i e => by have e : i = p := e; omega))
    have hg4 := (k4.frm fun _ => False).heap (fun h => h) HG.out
    have HG4 := hide hg4
    have p2' := Keep.cell k4 p2
    have HD6 := hide hd6
    clear hd6 hg4 p0 p1 p2 k4
    cases hbo : Em.blkOk b with
    | false =>
      have HO := hide (show oo = none from by rw [HXE.out, hbo]; rfl)
      clear hbo
      simp only [Bool.not_false]
      go_wp2_with fail
      (try simp only [Exit.inBlock, Exit.then]); refine bodyPost_end (results_none rfl _ _ _) rfl ?_
      rw [HO.out]
      exact ⟨rfl, ⟨n + 1, heap_setT (j := 4) HD6.out _, by omega, fun m hm => (by cases hm)⟩, HF6.out.tr ((Frm.rf (· = p) _).st (p := ⟨p, 4, none⟩) (.inl rfl) _)⟩
    | true =>
      have HO := hide (show oo = Em.kidsC (Em.chkP bs f) b.kids (n + 1) from by rw [HXE.out, hbo]; rfl)
      clear hbo d4 f4
      simp only [Bool.not_true]
      obtain ⟨_, _, ek, hkl, hkm, hkr⟩ := HKS.out
      cases ek
      go_wp2_with fail
      go_loopw [5] (fun i W => ∃ (j : Nat) (o : Option Nat), j ≤ b.kids.length ∧ i = .int .i64 (j : Int) ∧ oo = o.bind (Em.kidsC (Em.chkP bs f) (b.kids.drop j)) ∧ CntO W p r1 r2 (.slice (some ad) bs.length uc) bs.length o ∧ (∀ m, o = some m → n + 1 ≤ m) ∧ Frm (· = p) W4 W) (fun i _ => b.kids.length - (intOf i).toNat)
      case atStart => exact ⟨0, some (n + 1), by omega, rfl, HO.out, ⟨n + 1, HD6.out, by omega, fun m hm => (by cases hm; rfl)⟩, fun m hm => (by cases hm; exact Nat.le_refl _), Frm.rf _ _⟩
      case round =>
        obtain ⟨j, o, hj, rfl, hx, hco, hno, hF⟩ := hrel
        have HX := hide hx
        have HCO := hide hco
        have HFW := hide hF
        have HNO := hide hno
        have kw : Keep w0 wr := Frm.keep hw4.out hF (fun i e => by have e : i = p := e; omega)
        have hgr := hF.heap (fun e => by have e : g = p := e; omega) HG4.out
        have p2 := top_cells hgr 2
        simp only [List.getElem?_toArray, List.getElem?_cons_succ, List.getElem?_cons_zero] at p2
        clear hx hco hF hgr hno
        by_cases hlt : j < b.kids.length
        · have hlti : (j : Int) < (b.kids.length : Int) := by omega
          obtain ⟨ak, rfl, hkc⟩ := hkr (by omega)
          obtain ⟨ks, hks1, hks2, hkt, hkw⟩ := hkc j hlt
          have hdr := hide (List.drop_eq_getElem_cons hlt)
          generalize b.kids[j] = x at *
          obtain ⟨x1, x2⟩ := x
          simp only at hkt hkw
          subst hkt
          have v0 := Keep.cell kw (hks2 0 _ rfl)
          rw [Nat.add_zero] at v0
          have v1 := cell_off (Keep.cell kw (hks2 1 _ rfl))
          have HC := hide (IH.out wr o (x1, x2) kw HCO.out (fun m hm => by have := HNO.out m hm; omega) hkw)
          have HKR := hide hkr
          have HST := hide (show oo = (o.bind (Em.chkP bs f (x1, x2))).bind (Em.kidsC (Em.chkP bs f) (b.kids.drop (j + 1))) from by rw [HX.out, hdr.out, Em.kidsC_bind])
          have HGE := hide (show ∀ m, o.bind (Em.chkP bs f (x1, x2)) = some m → n + 1 ≤ m from fun m hm => by
            cases o with
            | none => cases hm
            | some m0 =>
              have h1 := HNO.out m0 rfl
              obtain ⟨n2, _, h3, h4⟩ := HCO.out
              have h5 := h4 m0 rfl
              have := (Em.chkP_all bs f (x1, x2) m0 m hm (by omega)).1
              omega)
          clear hkc hks2 hkr
          generalize o.bind (Em.chkP bs f (x1, x2)) = o2 at *
          go_wp2_with fail
          refine HC.out.mono ?_
          rintro e w' ⟨rfl, h1, h2⟩
          have HA := hide (And.intro h1 h2)
          clear h1 h2
          go_wp2_with fail
          go_roundw
          case rel => exact ⟨j + 1, o2, by omega, by go_num, HST.out, HA.out.1, HGE.out, HFW.out.tr HA.out.2⟩
          case measure => simp [intOf]; omega
        · have hlti : ¬ (j : Int) < (b.kids.length : Int) := by omega
          go_wp2_with fail
          (try simp only [Exit.inBlock, Exit.then]); refine bodyPost_end (results_none rfl _ _ _) rfl ?_
          have ho : oo = o := by
            rw [HX.out, List.drop_of_length_le (by omega)]
            cases o <;> rfl
          rw [ho]
          exact ⟨rfl, HCO.out, HF6.out.tr HFW.out⟩
end Go.Proofs.YtoehaijmkmdggaaGreat
namespace Go.Proofs.YtoehaijmkmdggaaGreat
open Go.RowKit Go.Maps
set_option linter.unusedVariables false
set_option linter.unusedSimpArgs false
set_option maxRecDepth 100000
theorem cnt_off {w : World} {p len n : Nat} {r1 r2 u : Value} {ok : Bool} (h : CntD w p r1 r2 u n ok) (hn : n ≤ len) : CntO (w.setCell ⟨p, 4, none⟩ (.bool false)) p r1 r2 u len none ∧ Frm (· = p) w (w.setCell ⟨p, 4, none⟩ (.bool false)) :=
  ⟨⟨n, heap_setT (j := 4) h _, hn, fun m hm => (by cases hm)⟩, (Frm.rf (· = p) _).st (p := ⟨p, 4, none⟩) (.inl rfl) _⟩
theorem cnt_set {w : World} {p len n : Nat} {r1 r2 u : Value} {ok : Bool} (h : CntD w p r1 r2 u n ok) (hn : n ≤ len) (b : Bool) : CntO (w.setCell ⟨p, 4, none⟩ (.bool b)) p r1 r2 u len (if b = true then some n else none) ∧ Frm (· = p) w (w.setCell ⟨p, 4, none⟩ (.bool b)) := by
  refine ⟨⟨n, ?_, hn, fun m hm => ?_⟩, (Frm.rf (· = p) _).st (p := ⟨p, 4, none⟩) (.inl rfl) _⟩
  · have := heap_setT (j := 4) h (.bool b)
    cases b <;> exact this
  · cases b <;> cases hm
    rfl
set_option maxHeartbeats 16000000 in
theorem cntRef_step {w0 : World} {p f : Nat} {r1 r2 u : Value} {bs : List Em.Blk} (hu : Sl 3 KBk w0 u bs) (hp : w0.heap.size ≤ p) (w : World) (o : Option Nat) (ih : o = none ∨ CntC w0 p r1 r2 u bs f) (x : Bool × Int) (k0 : Keep w0 w) (hd : CntO w p r1 r2 u bs.length o) (hf : ∀ n, o = some n → bs.length - n < f + 1) (hx : (Lit.int .i64 x.2).wf = true) :
    Calls Tryz.prog 64 #[.pointer (some ⟨p, 0, none⟩), .agg #[.bool x.1, .int .i64 x.2]] w (CntA p r1 r2 u bs.length (o.bind (Em.chkP bs (f + 1) x)) w) := by
  obtain ⟨x1, x2⟩ := x
  obtain ⟨n, hd, hn, hno⟩ := hd
  simp only at hx
  have hxb := in_i64 hx
  obtain ⟨uA, uc, rfl, hlc, hcm, hr⟩ := id hu
  have hpw : p < w.heap.size := (Array.getElem?_eq_some_iff.1 hd).1
  have K2 : Keep w (w.alloc (.cells #[.bool x1, .int .i64 x2] 59)) := (by repeat (first | exact Keep.rf _ | assumption | apply Keep.al | apply Keep.dr | apply Keep.dn))
  have hC := heap_alloc_new w (.cells #[.bool x1, .int .i64 x2] 59)
  have hd0 := hd
  have hd2 := hd.keep K2
  have c0 := top_cells hC 0
  have c1 := top_cells hC 1
  have d2 := top_cells hd2 2
  have d3 := top_cells hd2 3
  have d4 := top_cells hd2 4
  have f4 := top_free hd2 4
  simp only [List.getElem?_toArray, List.getElem?_cons_succ, List.getElem?_cons_zero] at c0 c1 d2 d3 d4
  have HD2 := hide hd2
  have HK2 := hide K2
  have hbn : (n : Int) ≤ 9223372036854775807 := by omega
  have HD0 := hide hd0
  have hu0 := hide hu
  have IH := hide ih
  clear hd hd2 hC K2 hr hd0 hu ih
  cases x1 with
  | true =>
    cases o with
    | none =>
      simp only [Option.isSome_none] at d4 HD2
      go_enter Tryz.func64, Tryz.ntmps64
      go_wp2_with fail
      generalize World.alloc w _ = w1 at *
      apply region_last 15 _ (by kernel_rfl) Keep Keep krg ktg krg ktg (fun _ _ h => h) [some 8, some 9, some 10, some 11, some 12, some 13, some 14, some 15, some 16, some 17, some 18, some 19, some 20, some 21, some 22, none] [eqG _ , eqG _ , eqG _ , eqG _ , eqG _ , eqG _ , eqG undef, eqG undef, eqG undef, eqG undef, eqG undef, eqG undef, eqG _ , eqG _ , eqG _ , fun _ _ _ => True] [⟨[], [], true, false, false⟩, ⟨[], [], true, false, false⟩, ⟨[1], [], true, false, false⟩, ⟨[2], [], true, false, false⟩, ⟨[3], [], true, false, false⟩, ⟨[4], [], true, false, false⟩, ⟨[5], [], true, false, false⟩, ⟨[5, 6], [], true, false, false⟩, ⟨[5, 7], [], true, false, false⟩, ⟨[5], [], true, false, false⟩, ⟨[5, 9], [], true, false, false⟩, ⟨[5, 8, 10], [], true, false, false⟩, ⟨[5, 11], [], true, false, false⟩, ⟨[0], [], true, false, false⟩, ⟨[13], [], true, false, false⟩, ⟨[12, 14], [], true, false, false⟩] [12, 14] (by kernel_rfl) (by kernel_rfl) (by kernel_rfl) rfl (by kernel_rfl)
      · refine ⟨?_, ?_, ?_, ?_, ?_, ?_, ?_, ?_, ?_, ?_, ?_, ?_, ?_, ?_, ?_, trivial⟩ <;> (intro us W h9 hW hE hd hs K hK; obtain ⟨u0, u1, u2, u3, u4, u5, u6, u7, u8, u9, u10, u11, u12, u13, u14, u15, rfl⟩ := rog 16 h9 rfl; clear h9; try simp only [DepG, AtG, and_true, relG, eqG, eqG1, eqG2, eqG3, gdG, gdG1, gnG, gnG1, List.getD_cons_zero, List.getD_cons_succ, List.getElem?_cons_succ, List.getElem?_cons_zero, Option.map_some, Option.getD_some, valsG, List.map_cons, List.map_nil, List.length_cons, List.length_nil] at hd)
        · ((try clear hd); clear hs; simp only [fillG, List.set_cons_zero, List.set_cons_succ]; refine want_n rfl ?_; go_wp2_with (first | fail); simp only [DoneG, fillG, List.set_cons_zero, List.set_cons_succ, relG, eqG, eqG1, eqG2, eqG3, gdG, gdG1, gnG, gnG1, List.getD_cons_zero, List.getD_cons_succ, List.getElem?_cons_succ, List.getElem?_cons_zero, Option.map_some, Option.getD_some, valsG, List.map_cons, List.map_nil, List.length_cons, List.length_nil]; exact ⟨_, rfl, (by first | with_reducible assumption | exact krg _ | exact Keep.al (krg _) _), fun _ _ => rfl⟩)
        · ((try clear hd); clear hs; simp only [fillG, List.set_cons_zero, List.set_cons_succ]; refine want_n rfl ?_; go_wp2_with (first | fail); simp only [DoneG, fillG, List.set_cons_zero, List.set_cons_succ, relG, eqG, eqG1, eqG2, eqG3, gdG, gdG1, gnG, gnG1, List.getD_cons_zero, List.getD_cons_succ, List.getElem?_cons_succ, List.getElem?_cons_zero, Option.map_some, Option.getD_some, valsG, List.map_cons, List.map_nil, List.length_cons, List.length_nil]; exact ⟨_, rfl, (by first | with_reducible assumption | exact krg _ | exact Keep.al (krg _) _), fun _ _ => rfl⟩)
        · (have d1 := hd; clear hd; subst d1; clear hs; simp only [fillG, List.set_cons_zero, List.set_cons_succ]; refine want_n rfl ?_; go_wp2_with (first | fail); simp only [DoneG, fillG, List.set_cons_zero, List.set_cons_succ, relG, eqG, eqG1, eqG2, eqG3, gdG, gdG1, gnG, gnG1, List.getD_cons_zero, List.getD_cons_succ, List.getElem?_cons_succ, List.getElem?_cons_zero, Option.map_some, Option.getD_some, valsG, List.map_cons, List.map_nil, List.length_cons, List.length_nil]; exact ⟨_, rfl, (by first | with_reducible assumption | exact krg _ | exact Keep.al (krg _) _), fun _ _ => rfl⟩)
        · (have d2 := hd; clear hd; subst d2; clear hs; simp only [fillG, List.set_cons_zero, List.set_cons_succ]; refine want_n rfl ?_; go_wp2_with (first | fail); simp only [DoneG, fillG, List.set_cons_zero, List.set_cons_succ, relG, eqG, eqG1, eqG2, eqG3, gdG, gdG1, gnG, gnG1, List.getD_cons_zero, List.getD_cons_succ, List.getElem?_cons_succ, List.getElem?_cons_zero, Option.map_some, Option.getD_some, valsG, List.map_cons, List.map_nil, List.length_cons, List.length_nil]; exact ⟨_, rfl, (by first | with_reducible assumption | exact krg _ | exact Keep.al (krg _) _), fun _ _ => rfl⟩)
        · (have d3 := hd; clear hd; subst d3; clear hs; simp only [fillG, List.set_cons_zero, List.set_cons_succ]; have hKW := Keep.tr (Keep.dr (Keep.rf _)) (hE rfl); have c1 := Keep.cell hKW c1; have d4 := Keep.cell hKW d4; refine want_n rfl ?_; go_wp2_with (first | fail); simp only [DoneG, fillG, List.set_cons_zero, List.set_cons_succ, relG, eqG, eqG1, eqG2, eqG3, gdG, gdG1, gnG, gnG1, List.getD_cons_zero, List.getD_cons_succ, List.getElem?_cons_succ, List.getElem?_cons_zero, Option.map_some, Option.getD_some, valsG, List.map_cons, List.map_nil, List.length_cons, List.length_nil]; exact ⟨_, rfl, (by first | with_reducible assumption | exact krg _ | exact Keep.al (krg _) _), fun _ _ => rfl⟩)
        · (have d4 := hd; clear hd; subst d4; clear hs; simp only [fillG, List.set_cons_zero, List.set_cons_succ]; refine want_n rfl ?_; go_wp2_with (first | fail); simp only [DoneG, fillG, List.set_cons_zero, List.set_cons_succ, relG, eqG, eqG1, eqG2, eqG3, gdG, gdG1, gnG, gnG1, List.getD_cons_zero, List.getD_cons_succ, List.getElem?_cons_succ, List.getElem?_cons_zero, Option.map_some, Option.getD_some, valsG, List.map_cons, List.map_nil, List.length_cons, List.length_nil]; exact ⟨_, rfl, (by first | with_reducible assumption | exact krg _ | exact Keep.al (krg _) _), fun _ _ => rfl⟩)
        · (have d5 := hd; clear hd; subst d5; clear hs; simp only [fillG, List.set_cons_zero, List.set_cons_succ]; refine want_f rfl ?_; refine hK _ _ ?_; simp only [DoneG, fillG, List.set_cons_zero, List.set_cons_succ, relG, eqG, eqG1, eqG2, eqG3, gdG, gdG1, gnG, gnG1, List.getD_cons_zero, List.getD_cons_succ, List.getElem?_cons_succ, List.getElem?_cons_zero, Option.map_some, Option.getD_some, valsG, List.map_cons, List.map_nil, List.length_cons, List.length_nil]; exact ⟨undef, rfl, krg _, fun _ _ => rfl⟩)
        · (obtain ⟨d5, d6⟩ := hd; subst d5; subst d6; clear hs; simp only [fillG, List.set_cons_zero, List.set_cons_succ]; have hKW := Keep.tr (Keep.dr (Keep.rf _)) (hE rfl); have c1 := Keep.cell hKW c1; have d4 := Keep.cell hKW d4; refine want_f rfl ?_; refine hK _ _ ?_; simp only [DoneG, fillG, List.set_cons_zero, List.set_cons_succ, relG, eqG, eqG1, eqG2, eqG3, gdG, gdG1, gnG, gnG1, List.getD_cons_zero, List.getD_cons_succ, List.getElem?_cons_succ, List.getElem?_cons_zero, Option.map_some, Option.getD_some, valsG, List.map_cons, List.map_nil, List.length_cons, List.length_nil]; exact ⟨undef, rfl, krg _, fun _ _ => rfl⟩)
        · (obtain ⟨d5, d7⟩ := hd; subst d5; subst d7; clear hs; simp only [fillG, List.set_cons_zero, List.set_cons_succ]; have hKW := Keep.tr (Keep.dr (Keep.rf _)) (hE rfl); have c1 := Keep.cell hKW c1; have d4 := Keep.cell hKW d4; refine want_f rfl ?_; refine hK _ _ ?_; simp only [DoneG, fillG, List.set_cons_zero, List.set_cons_succ, relG, eqG, eqG1, eqG2, eqG3, gdG, gdG1, gnG, gnG1, List.getD_cons_zero, List.getD_cons_succ, List.getElem?_cons_succ, List.getElem?_cons_zero, Option.map_some, Option.getD_some, valsG, List.map_cons, List.map_nil, List.length_cons, List.length_nil]; exact ⟨undef, rfl, krg _, fun _ _ => rfl⟩)
        · (have d5 := hd; clear hd; subst d5; clear hs; simp only [fillG, List.set_cons_zero, List.set_cons_succ]; refine want_f rfl ?_; refine hK _ _ ?_; simp only [DoneG, fillG, List.set_cons_zero, List.set_cons_succ, relG, eqG, eqG1, eqG2, eqG3, gdG, gdG1, gnG, gnG1, List.getD_cons_zero, List.getD_cons_succ, List.getElem?_cons_succ, List.getElem?_cons_zero, Option.map_some, Option.getD_some, valsG, List.map_cons, List.map_nil, List.length_cons, List.length_nil]; exact ⟨undef, rfl, krg _, fun _ _ => rfl⟩)
        · (obtain ⟨d5, d9⟩ := hd; subst d5; subst d9; clear hs; simp only [fillG, List.set_cons_zero, List.set_cons_succ]; have hKW := Keep.tr (Keep.dr (Keep.rf _)) (hE rfl); have c1 := Keep.cell hKW c1; have d4 := Keep.cell hKW d4; refine want_f rfl ?_; refine hK _ _ ?_; simp only [DoneG, fillG, List.set_cons_zero, List.set_cons_succ, relG, eqG, eqG1, eqG2, eqG3, gdG, gdG1, gnG, gnG1, List.getD_cons_zero, List.getD_cons_succ, List.getElem?_cons_succ, List.getElem?_cons_zero, Option.map_some, Option.getD_some, valsG, List.map_cons, List.map_nil, List.length_cons, List.length_nil]; exact ⟨undef, rfl, krg _, fun _ _ => rfl⟩)
        · (obtain ⟨d5, d8, d10⟩ := hd; subst d5; subst d8; subst d10; clear hs; simp only [fillG, List.set_cons_zero, List.set_cons_succ]; refine want_f rfl ?_; refine hK _ _ ?_; simp only [DoneG, fillG, List.set_cons_zero, List.set_cons_succ, relG, eqG, eqG1, eqG2, eqG3, gdG, gdG1, gnG, gnG1, List.getD_cons_zero, List.getD_cons_succ, List.getElem?_cons_succ, List.getElem?_cons_zero, Option.map_some, Option.getD_some, valsG, List.map_cons, List.map_nil, List.length_cons, List.length_nil]; exact ⟨undef, rfl, krg _, fun _ _ => rfl⟩)
        · (obtain ⟨d5, d11⟩ := hd; subst d5; subst d11; clear hs; simp only [fillG, List.set_cons_zero, List.set_cons_succ]; refine want_n rfl ?_; go_wp2_with (first | fail); simp only [DoneG, fillG, List.set_cons_zero, List.set_cons_succ, relG, eqG, eqG1, eqG2, eqG3, gdG, gdG1, gnG, gnG1, List.getD_cons_zero, List.getD_cons_succ, List.getElem?_cons_succ, List.getElem?_cons_zero, Option.map_some, Option.getD_some, valsG, List.map_cons, List.map_nil, List.length_cons, List.length_nil]; exact ⟨_, rfl, (by first | with_reducible assumption | exact krg _ | exact Keep.al (krg _) _), fun _ _ => rfl⟩)
        · (have d0 := hd; clear hd; subst d0; clear hs; simp only [fillG, List.set_cons_zero, List.set_cons_succ]; refine want_n rfl ?_; go_wp2_with (first | fail); simp only [DoneG, fillG, List.set_cons_zero, List.set_cons_succ, relG, eqG, eqG1, eqG2, eqG3, gdG, gdG1, gnG, gnG1, List.getD_cons_zero, List.getD_cons_succ, List.getElem?_cons_succ, List.getElem?_cons_zero, Option.map_some, Option.getD_some, valsG, List.map_cons, List.map_nil, List.length_cons, List.length_nil]; exact ⟨_, rfl, (by first | with_reducible assumption | exact krg _ | exact Keep.al (krg _) _), fun _ _ => rfl⟩)
        · (have d13 := hd; clear hd; subst d13; clear hs; simp only [fillG, List.set_cons_zero, List.set_cons_succ]; refine want_n rfl ?_; go_wp2_with (first | fail); simp only [DoneG, fillG, List.set_cons_zero, List.set_cons_succ, relG, eqG, eqG1, eqG2, eqG3, gdG, gdG1, gnG, gnG1, List.getD_cons_zero, List.getD_cons_succ, List.getElem?_cons_succ, List.getElem?_cons_zero, Option.map_some, Option.getD_some, valsG, List.map_cons, List.map_nil, List.length_cons, List.length_nil]; exact ⟨_, rfl, (by first | with_reducible assumption | exact krg _ | exact Keep.al (krg _) _), fun _ _ => rfl⟩)
      (intro us W2 h9 hW hE hA hl9; obtain ⟨u0, u1, u2, u3, u4, u5, u6, u7, u8, u9, u10, u11, u12, u13, u14, u15, rfl⟩ := rog 16 h9 rfl; clear h9; clear hl9; simp only [AllG, AtG, and_true, relG, eqG, eqG1, eqG2, eqG3, gdG, gdG1, gnG, gnG1, List.getD_cons_zero, List.getD_cons_succ, List.getElem?_cons_succ, List.getElem?_cons_zero, Option.map_some, Option.getD_some, valsG, List.map_cons, List.map_nil, List.length_cons, List.length_nil] at hA; obtain ⟨d12, d14⟩ := hA; subst d12; subst d14; simp only [fillG, List.set_cons_zero, List.set_cons_succ]; have k2 := Keep.tr (Keep.dr (Keep.rf _)) hW; clear hW hE; refine want_n rfl ?_)
      replace d4 := Keep.cell k2 d4
      have HD3 := hide (HD2.out.keep k2)
      have f4 := top_free HD3.out 4
      have HK3 := hide (Keep.tr HK2.out k2)
      clear k2
      go_wp2_with fail
      (try simp only [Exit.inBlock, Exit.then]); refine bodyPost_end (results_none rfl _ _ _) rfl ?_
      exact ⟨rfl, (cnt_set HD3.out hn false).1, (HK3.out.frm _).tr (cnt_set HD3.out hn false).2⟩
    | some n0 =>
      obtain rfl := hno _ rfl
      have hwf := wrap_fits x2
      simp only [Option.isSome_some] at d4 HD2
      go_enter Tryz.func64, Tryz.ntmps64
      go_wp2_with fail
      generalize World.alloc w _ = w1 at *
      apply region_last 15 _ (by kernel_rfl) Keep Keep krg ktg krg ktg (fun _ _ h => h) [some 8, some 9, some 10, some 11, some 12, some 13, some 14, some 15, some 16, some 17, some 18, some 19, some 20, some 21, some 22, none] [eqG _ , eqG _ , eqG _ , eqG _ , eqG _ , eqG _ , eqG _ , eqG _ , eqG _ , eqG _ , eqG _ , eqG _ , eqG _ , eqG _ , eqG _ , fun _ _ _ => True] [⟨[], [], true, false, false⟩, ⟨[], [], true, false, false⟩, ⟨[1], [], true, false, false⟩, ⟨[2], [], true, false, false⟩, ⟨[3], [], true, false, false⟩, ⟨[4], [], true, false, false⟩, ⟨[5], [], true, false, false⟩, ⟨[5, 6], [], true, false, false⟩, ⟨[5, 7], [], true, false, false⟩, ⟨[5], [], true, false, false⟩, ⟨[5, 9], [], true, false, false⟩, ⟨[5, 8, 10], [], true, false, false⟩, ⟨[5, 11], [], true, false, false⟩, ⟨[0], [], true, false, false⟩, ⟨[13], [], true, false, false⟩, ⟨[12, 14], [], true, false, false⟩] [12, 14] (by kernel_rfl) (by kernel_rfl) (by kernel_rfl) rfl (by kernel_rfl)
      · refine ⟨?_, ?_, ?_, ?_, ?_, ?_, ?_, ?_, ?_, ?_, ?_, ?_, ?_, ?_, ?_, trivial⟩ <;> (intro us W h9 hW hE hd hs K hK; obtain ⟨u0, u1, u2, u3, u4, u5, u6, u7, u8, u9, u10, u11, u12, u13, u14, u15, rfl⟩ := rog 16 h9 rfl; clear h9; try simp only [DepG, AtG, and_true, relG, eqG, eqG1, eqG2, eqG3, gdG, gdG1, gnG, gnG1, List.getD_cons_zero, List.getD_cons_succ, List.getElem?_cons_succ, List.getElem?_cons_zero, Option.map_some, Option.getD_some, valsG, List.map_cons, List.map_nil, List.length_cons, List.length_nil] at hd)
        · ((try clear hd); clear hs; simp only [fillG, List.set_cons_zero, List.set_cons_succ]; refine want_n rfl ?_; go_wp2_with (first | fail); simp only [DoneG, fillG, List.set_cons_zero, List.set_cons_succ, relG, eqG, eqG1, eqG2, eqG3, gdG, gdG1, gnG, gnG1, List.getD_cons_zero, List.getD_cons_succ, List.getElem?_cons_succ, List.getElem?_cons_zero, Option.map_some, Option.getD_some, valsG, List.map_cons, List.map_nil, List.length_cons, List.length_nil]; exact ⟨_, rfl, (by first | with_reducible assumption | exact krg _ | exact Keep.al (krg _) _), fun _ _ => rfl⟩)
        · ((try clear hd); clear hs; simp only [fillG, List.set_cons_zero, List.set_cons_succ]; refine want_n rfl ?_; go_wp2_with (first | fail); simp only [DoneG, fillG, List.set_cons_zero, List.set_cons_succ, relG, eqG, eqG1, eqG2, eqG3, gdG, gdG1, gnG, gnG1, List.getD_cons_zero, List.getD_cons_succ, List.getElem?_cons_succ, List.getElem?_cons_zero, Option.map_some, Option.getD_some, valsG, List.map_cons, List.map_nil, List.length_cons, List.length_nil]; exact ⟨_, rfl, (by first | with_reducible assumption | exact krg _ | exact Keep.al (krg _) _), fun _ _ => rfl⟩)
        · (have d1 := hd; clear hd; subst d1; clear hs; simp only [fillG, List.set_cons_zero, List.set_cons_succ]; refine want_n rfl ?_; go_wp2_with (first | fail); simp only [DoneG, fillG, List.set_cons_zero, List.set_cons_succ, relG, eqG, eqG1, eqG2, eqG3, gdG, gdG1, gnG, gnG1, List.getD_cons_zero, List.getD_cons_succ, List.getElem?_cons_succ, List.getElem?_cons_zero, Option.map_some, Option.getD_some, valsG, List.map_cons, List.map_nil, List.length_cons, List.length_nil]; exact ⟨_, rfl, (by first | with_reducible assumption | exact krg _ | exact Keep.al (krg _) _), fun _ _ => rfl⟩)
        · (have d2 := hd; clear hd; subst d2; clear hs; simp only [fillG, List.set_cons_zero, List.set_cons_succ]; refine want_n rfl ?_; go_wp2_with (first | fail); simp only [DoneG, fillG, List.set_cons_zero, List.set_cons_succ, relG, eqG, eqG1, eqG2, eqG3, gdG, gdG1, gnG, gnG1, List.getD_cons_zero, List.getD_cons_succ, List.getElem?_cons_succ, List.getElem?_cons_zero, Option.map_some, Option.getD_some, valsG, List.map_cons, List.map_nil, List.length_cons, List.length_nil]; exact ⟨_, rfl, (by first | with_reducible assumption | exact krg _ | exact Keep.al (krg _) _), fun _ _ => rfl⟩)
        · (have d3 := hd; clear hd; subst d3; clear hs; simp only [fillG, List.set_cons_zero, List.set_cons_succ]; have hKW := Keep.tr (Keep.dr (Keep.rf _)) (hE rfl); have c1 := Keep.cell hKW c1; have d4 := Keep.cell hKW d4; refine want_n rfl ?_; go_wp2_with (first | fail); simp only [DoneG, fillG, List.set_cons_zero, List.set_cons_succ, relG, eqG, eqG1, eqG2, eqG3, gdG, gdG1, gnG, gnG1, List.getD_cons_zero, List.getD_cons_succ, List.getElem?_cons_succ, List.getElem?_cons_zero, Option.map_some, Option.getD_some, valsG, List.map_cons, List.map_nil, List.length_cons, List.length_nil]; exact ⟨_, rfl, (by first | with_reducible assumption | exact krg _ | exact Keep.al (krg _) _), fun _ _ => rfl⟩)
        · (have d4 := hd; clear hd; subst d4; clear hs; simp only [fillG, List.set_cons_zero, List.set_cons_succ]; refine want_n rfl ?_; go_wp2_with (first | fail); simp only [DoneG, fillG, List.set_cons_zero, List.set_cons_succ, relG, eqG, eqG1, eqG2, eqG3, gdG, gdG1, gnG, gnG1, List.getD_cons_zero, List.getD_cons_succ, List.getElem?_cons_succ, List.getElem?_cons_zero, Option.map_some, Option.getD_some, valsG, List.map_cons, List.map_nil, List.length_cons, List.length_nil]; exact ⟨_, rfl, (by first | with_reducible assumption | exact krg _ | exact Keep.al (krg _) _), fun _ _ => rfl⟩)
        · (have d5 := hd; clear hd; subst d5; clear hs; simp only [fillG, List.set_cons_zero, List.set_cons_succ]; refine want_y rfl ?_; go_wp2_with (first | fail); simp only [DoneG, fillG, List.set_cons_zero, List.set_cons_succ, relG, eqG, eqG1, eqG2, eqG3, gdG, gdG1, gnG, gnG1, List.getD_cons_zero, List.getD_cons_succ, List.getElem?_cons_succ, List.getElem?_cons_zero, Option.map_some, Option.getD_some, valsG, List.map_cons, List.map_nil, List.length_cons, List.length_nil]; exact ⟨_, rfl, (by first | with_reducible assumption | exact krg _ | exact Keep.al (krg _) _), fun _ _ => rfl⟩)
        · (obtain ⟨d5, d6⟩ := hd; subst d5; subst d6; clear hs; simp only [fillG, List.set_cons_zero, List.set_cons_succ]; have hKW := Keep.tr (Keep.dr (Keep.rf _)) (hE rfl); have c1 := Keep.cell hKW c1; have d4 := Keep.cell hKW d4; refine want_y rfl ?_; go_wp2_with (first | fail); simp only [DoneG, fillG, List.set_cons_zero, List.set_cons_succ, relG, eqG, eqG1, eqG2, eqG3, gdG, gdG1, gnG, gnG1, List.getD_cons_zero, List.getD_cons_succ, List.getElem?_cons_succ, List.getElem?_cons_zero, Option.map_some, Option.getD_some, valsG, List.map_cons, List.map_nil, List.length_cons, List.length_nil]; exact ⟨_, rfl, (by first | with_reducible assumption | exact krg _ | exact Keep.al (krg _) _), fun _ _ => rfl⟩)
        · (obtain ⟨d5, d7⟩ := hd; subst d5; subst d7; clear hs; simp only [fillG, List.set_cons_zero, List.set_cons_succ]; have hKW := Keep.tr (Keep.dr (Keep.rf _)) (hE rfl); have c1 := Keep.cell hKW c1; have d4 := Keep.cell hKW d4; refine want_y rfl ?_; go_wp2_with (first | (go_at_call 79; refine (refWrap _ _).mono ?_; rintro e w' ⟨rfl, rfl⟩) | fail); simp only [DoneG, fillG, List.set_cons_zero, List.set_cons_succ, relG, eqG, eqG1, eqG2, eqG3, gdG, gdG1, gnG, gnG1, List.getD_cons_zero, List.getD_cons_succ, List.getElem?_cons_succ, List.getElem?_cons_zero, Option.map_some, Option.getD_some, valsG, List.map_cons, List.map_nil, List.length_cons, List.length_nil]; exact ⟨_, rfl, (by first | with_reducible assumption | exact krg _ | exact Keep.al (krg _) _), fun _ _ => rfl⟩)
        · (have d5 := hd; clear hd; subst d5; clear hs; simp only [fillG, List.set_cons_zero, List.set_cons_succ]; refine want_y rfl ?_; go_wp2_with (first | fail); simp only [DoneG, fillG, List.set_cons_zero, List.set_cons_succ, relG, eqG, eqG1, eqG2, eqG3, gdG, gdG1, gnG, gnG1, List.getD_cons_zero, List.getD_cons_succ, List.getElem?_cons_succ, List.getElem?_cons_zero, Option.map_some, Option.getD_some, valsG, List.map_cons, List.map_nil, List.length_cons, List.length_nil]; exact ⟨_, rfl, (by first | with_reducible assumption | exact krg _ | exact Keep.al (krg _) _), fun _ _ => rfl⟩)
        · (obtain ⟨d5, d9⟩ := hd; subst d5; subst d9; clear hs; simp only [fillG, List.set_cons_zero, List.set_cons_succ]; have hKW := Keep.tr (Keep.dr (Keep.rf _)) (hE rfl); have c1 := Keep.cell hKW c1; have d4 := Keep.cell hKW d4; refine want_y rfl ?_; go_wp2_with (first | fail); simp only [DoneG, fillG, List.set_cons_zero, List.set_cons_succ, relG, eqG, eqG1, eqG2, eqG3, gdG, gdG1, gnG, gnG1, List.getD_cons_zero, List.getD_cons_succ, List.getElem?_cons_succ, List.getElem?_cons_zero, Option.map_some, Option.getD_some, valsG, List.map_cons, List.map_nil, List.length_cons, List.length_nil]; exact ⟨_, rfl, (by first | with_reducible assumption | exact krg _ | exact Keep.al (krg _) _), fun _ _ => rfl⟩)
        · (obtain ⟨d5, d8, d10⟩ := hd; subst d5; subst d8; subst d10; clear hs; simp only [fillG, List.set_cons_zero, List.set_cons_succ]; refine want_y rfl ?_; go_wp2_with (first | fail); simp only [DoneG, fillG, List.set_cons_zero, List.set_cons_succ, relG, eqG, eqG1, eqG2, eqG3, gdG, gdG1, gnG, gnG1, List.getD_cons_zero, List.getD_cons_succ, List.getElem?_cons_succ, List.getElem?_cons_zero, Option.map_some, Option.getD_some, valsG, List.map_cons, List.map_nil, List.length_cons, List.length_nil]; exact ⟨_, rfl, (by first | with_reducible assumption | exact krg _ | exact Keep.al (krg _) _), fun _ _ => rfl⟩)
        · (obtain ⟨d5, d11⟩ := hd; subst d5; subst d11; clear hs; simp only [fillG, List.set_cons_zero, List.set_cons_succ]; refine want_n rfl ?_; go_wp2_with (first | fail); simp only [DoneG, fillG, List.set_cons_zero, List.set_cons_succ, relG, eqG, eqG1, eqG2, eqG3, gdG, gdG1, gnG, gnG1, List.getD_cons_zero, List.getD_cons_succ, List.getElem?_cons_succ, List.getElem?_cons_zero, Option.map_some, Option.getD_some, valsG, List.map_cons, List.map_nil, List.length_cons, List.length_nil]; exact ⟨_, rfl, (by first | with_reducible assumption | exact krg _ | exact Keep.al (krg _) _), fun _ _ => rfl⟩)
        · (have d0 := hd; clear hd; subst d0; clear hs; simp only [fillG, List.set_cons_zero, List.set_cons_succ]; refine want_n rfl ?_; go_wp2_with (first | fail); simp only [DoneG, fillG, List.set_cons_zero, List.set_cons_succ, relG, eqG, eqG1, eqG2, eqG3, gdG, gdG1, gnG, gnG1, List.getD_cons_zero, List.getD_cons_succ, List.getElem?_cons_succ, List.getElem?_cons_zero, Option.map_some, Option.getD_some, valsG, List.map_cons, List.map_nil, List.length_cons, List.length_nil]; exact ⟨_, rfl, (by first | with_reducible assumption | exact krg _ | exact Keep.al (krg _) _), fun _ _ => rfl⟩)
        · (have d13 := hd; clear hd; subst d13; clear hs; simp only [fillG, List.set_cons_zero, List.set_cons_succ]; refine want_n rfl ?_; go_wp2_with (first | fail); simp only [DoneG, fillG, List.set_cons_zero, List.set_cons_succ, relG, eqG, eqG1, eqG2, eqG3, gdG, gdG1, gnG, gnG1, List.getD_cons_zero, List.getD_cons_succ, List.getElem?_cons_succ, List.getElem?_cons_zero, Option.map_some, Option.getD_some, valsG, List.map_cons, List.map_nil, List.length_cons, List.length_nil]; exact ⟨_, rfl, (by first | with_reducible assumption | exact krg _ | exact Keep.al (krg _) _), fun _ _ => rfl⟩)
      (intro us W2 h9 hW hE hA hl9; obtain ⟨u0, u1, u2, u3, u4, u5, u6, u7, u8, u9, u10, u11, u12, u13, u14, u15, rfl⟩ := rog 16 h9 rfl; clear h9; clear hl9; simp only [AllG, AtG, and_true, relG, eqG, eqG1, eqG2, eqG3, gdG, gdG1, gnG, gnG1, List.getD_cons_zero, List.getD_cons_succ, List.getElem?_cons_succ, List.getElem?_cons_zero, Option.map_some, Option.getD_some, valsG, List.map_cons, List.map_nil, List.length_cons, List.length_nil] at hA; obtain ⟨d12, d14⟩ := hA; subst d12; subst d14; simp only [fillG, List.set_cons_zero, List.set_cons_succ]; have k2 := Keep.tr (Keep.dr (Keep.rf _)) hW; clear hW hE; refine want_n rfl ?_)
      replace d4 := Keep.cell k2 d4
      have HD3 := hide (HD2.out.keep k2)
      have f4 := top_free HD3.out 4
      have HK3 := hide (Keep.tr HK2.out k2)
      have HWF := hide hwf
      have HX := hide (show (some n : Option Nat).bind (Em.chkP bs (f + 1) (true, x2)) = if Em.fitsN x2 = true then some n else none from by simp [Em.chkP])
      clear k2 hwf
      go_wp2_with fail
      (try simp only [Exit.inBlock, Exit.then]); refine bodyPost_end (results_none rfl _ _ _) rfl ?_
      rw [HX.out]
      exact ⟨rfl, (cnt_set HD3.out hn _).1, (HK3.out.frm _).tr (cnt_set HD3.out hn _).2⟩
  | false =>
    cases o with
    | none =>
      have e4 : (none : Option Nat).isSome = false := rfl
      go_enter Tryz.func64, Tryz.ntmps64
      go_wp2_with fail
      generalize World.alloc w _ = w1 at *
      go_quiet (fail)
      have kd : Keep w1 (w1.drewN nq) := (by repeat (first | exact Keep.rf _ | assumption | apply Keep.al | apply Keep.dr | apply Keep.dn))
      generalize World.drewN w1 nq = W1 at *
      replace d4 := Keep.cell kd d4
      have hd3 := HD2.out.keep kd
      have f4 := top_free hd3 4
      have HD3 := hide hd3
      have HK3 := hide (Keep.tr HK2.out kd)
      clear hd3 kd
      go_wp2_with fail
      (try simp only [Exit.inBlock, Exit.then]); refine bodyPost_end (results_none rfl _ _ _) rfl ?_
      exact ⟨rfl, (cnt_off HD3.out hn).1, (HK3.out.frm _).tr (cnt_off HD3.out hn).2⟩
    | some n0 =>
      obtain rfl := hno _ rfl
      simp only [Option.isSome_some] at d4 HD2 HD0
      have hfn := hf n rfl
      clear hf hno
      by_cases g1 : x2 < 0
      · have HX := hide (show (some n : Option Nat).bind (Em.chkP bs (f + 1) (false, x2)) = none from (by have h9 : ¬ x2 = (n : Int) := (by omega); simp [Em.chkP, h9]; omega))
        have e1 : decide (x2 < 0) = true := decide_eq_true g1
        go_enter Tryz.func64, Tryz.ntmps64
        go_wp2_with fail
        generalize World.alloc w _ = w1 at *
        go_quiet (fail)
        have kd : Keep w1 (w1.drewN nq) := (by repeat (first | exact Keep.rf _ | assumption | apply Keep.al | apply Keep.dr | apply Keep.dn))
        generalize World.drewN w1 nq = W1 at *
        replace d4 := Keep.cell kd d4
        have HD3 := hide (HD2.out.keep kd)
        have f4 := top_free HD3.out 4
        have HK3 := hide (Keep.tr HK2.out kd)
        clear kd
        go_wp2_with fail
        (try simp only [Exit.inBlock, Exit.then]); refine bodyPost_end (results_none rfl _ _ _) rfl ?_
        rw [HX.out]
        exact ⟨rfl, (cnt_set HD3.out hn false).1, (HK3.out.frm _).tr (cnt_set HD3.out hn false).2⟩
      have e1 : decide (x2 < 0) = false := decide_eq_false g1
      by_cases g2 : x2 > (n : Int)
      · have HX := hide (show (some n : Option Nat).bind (Em.chkP bs (f + 1) (false, x2)) = none from (by have h9 : ¬ x2 = (n : Int) := (by omega); simp [Em.chkP, h9]; omega))
        have e2 : decide (x2 > (n : Int)) = true := decide_eq_true g2
        go_enter Tryz.func64, Tryz.ntmps64
        go_wp2_with fail
        generalize World.alloc w _ = w1 at *
        go_quiet (fail)
        have kd : Keep w1 (w1.drewN nq) := (by repeat (first | exact Keep.rf _ | assumption | apply Keep.al | apply Keep.dr | apply Keep.dn))
        generalize World.drewN w1 nq = W1 at *
        replace d4 := Keep.cell kd d4
        have HD3 := hide (HD2.out.keep kd)
        have f4 := top_free HD3.out 4
        have HK3 := hide (Keep.tr HK2.out kd)
        clear kd
        go_wp2_with fail
        (try simp only [Exit.inBlock, Exit.then]); refine bodyPost_end (results_none rfl _ _ _) rfl ?_
        rw [HX.out]
        exact ⟨rfl, (cnt_set HD3.out hn false).1, (HK3.out.frm _).tr (cnt_set HD3.out hn false).2⟩
      have e2 : decide (x2 > (n : Int)) = false := decide_eq_false g2
      by_cases g3 : x2 ≥ (bs.length : Int)
      · have hbn' : bs[n]? = none := List.getElem?_eq_none (by omega)
        have g4 : x2 = (n : Int) := by omega
        have HX := hide (show (some n : Option Nat).bind (Em.chkP bs (f + 1) (false, x2)) = none from by simp [Em.chkP, g4, hbn'])
        have e3 : decide (x2 ≥ (bs.length : Int)) = true := decide_eq_true g3
        clear g4 hbn'
        go_enter Tryz.func64, Tryz.ntmps64
        go_wp2_with fail
        generalize World.alloc w _ = w1 at *
        go_quiet (fail)
        have kd : Keep w1 (w1.drewN nq) := (by repeat (first | exact Keep.rf _ | assumption | apply Keep.al | apply Keep.dr | apply Keep.dn))
        generalize World.drewN w1 nq = W1 at *
        replace d4 := Keep.cell kd d4
        have HD3 := hide (HD2.out.keep kd)
        have f4 := top_free HD3.out 4
        have HK3 := hide (Keep.tr HK2.out kd)
        clear kd
        go_wp2_with fail
        (try simp only [Exit.inBlock, Exit.then]); refine bodyPost_end (results_none rfl _ _ _) rfl ?_
        rw [HX.out]
        exact ⟨rfl, (cnt_set HD3.out hn false).1, (HK3.out.frm _).tr (cnt_set HD3.out hn false).2⟩
      have e3 : decide (x2 ≥ (bs.length : Int)) = false := decide_eq_false g3
      by_cases g4 : x2 < (n : Int)
      · have HX := hide (show (some n : Option Nat).bind (Em.chkP bs (f + 1) (false, x2)) = some n from (by have h9 : ¬ x2 = (n : Int) := (by omega); simp [Em.chkP, h9]; omega))
        have e4 : decide (x2 < (n : Int)) = true := decide_eq_true g4
        go_enter Tryz.func64, Tryz.ntmps64
        go_wp2_with fail
        generalize World.alloc w _ = w1 at *
        go_quiet (fail)
        have kd : Keep w1 (w1.drewN nq) := (by repeat (first | exact Keep.rf _ | assumption | apply Keep.al | apply Keep.dr | apply Keep.dn))
        generalize World.drewN w1 nq = W1 at *
        replace c1 := Keep.cell kd c1
        replace d3 := Keep.cell kd d3
        have HD3 := hide (HD2.out.keep kd)
        have HK3 := hide (Keep.tr HK2.out kd)
        clear kd
        go_wp2_with fail
        go_quiet (fail)
        have kd : Keep W1 (W1.drewN nq) := (by repeat (first | exact Keep.rf _ | assumption | apply Keep.al | apply Keep.dr | apply Keep.dn))
        generalize World.drewN W1 nq = W2 at *
        go_wp2_with fail
        (try simp only [Exit.inBlock, Exit.then]); refine bodyPost_end (results_none rfl _ _ _) rfl ?_
        rw [HX.out]
        exact ⟨rfl, ⟨n, HD3.out.keep kd, hn, fun m hm => (by cases hm; rfl)⟩, ((HK3.out.tr kd).frm _)⟩
      · have g5 : x2 = (n : Int) := by omega
        have C := cntRef_new hu0.out hp (IH.out.resolve_left (by simp)) w n x2 k0 HD0.out hfn hx g5 (by omega)
        exact C
theorem cntRef {w0 : World} {p : Nat} {r1 r2 u : Value} {bs : List Em.Blk} (hu : Sl 3 KBk w0 u bs) (hp : w0.heap.size ≤ p) (f : Nat) : CntC w0 p r1 r2 u bs f := by
  induction f with
  | zero =>
    intro w o x k0 hd hf hx
    cases o with
    | none => exact cntRef_step (f := 0) hu hp w none (.inl rfl) x k0 hd (fun n h => (by cases h)) hx
    | some n => have := hf n rfl; omega
  | succ f ih => exact fun w o x k0 hd hf hx => cntRef_step hu hp w o (.inr ih) x k0 hd hf hx
set_option maxHeartbeats 16000000 in
theorem refIs18 (w : World) (gv : Value) (g : Em.Gr) (h : GrV w gv g) : Calls Tryz.prog 38 #[gv] w fun e w' => e = .returned (.bool (Em.isG g)) ∧ Keep w w' := by
  obtain ⟨u, rfl, hrw, hsl⟩ := h
  have HSL := hide hsl
  obtain ⟨uA, uc, rfl, hlc, hcm, _⟩ := hsl
  obtain ⟨⟨g1, g2⟩, bs⟩ := g
  simp only at hrw hlc HSL ⊢
  have HREF := hide (cntRef (p := w.heap.size + 1) (r1 := .bool g1) (r2 := .int .i64 g2) HSL.out (Nat.le_succ w.heap.size) (bs.length + 1))
  have HG := hide (show Em.isG ⟨(g1, g2), bs⟩ = (Em.chkP bs (bs.length + 1) (g1, g2) 0 == some bs.length) from rfl)
  have hA : ((w.alloc (.cells #[.bool g1, .int .i64 g2, .slice uA bs.length uc] 62)).alloc (.cells #[.bool g1, .int .i64 g2, .slice uA bs.length uc, .int .i64 0, .bool true] 118)).heap[w.heap.size]? = some (.cells #[.bool g1, .int .i64 g2, .slice uA bs.length uc] 62) := ((Keep.al (Keep.rf _) _).frm fun _ => False).heap (fun h => h) (heap_alloc_new w _)
  have hC : CntD ((w.alloc (.cells #[.bool g1, .int .i64 g2, .slice uA bs.length uc] 62)).alloc (.cells #[.bool g1, .int .i64 g2, .slice uA bs.length uc, .int .i64 0, .bool true] 118)) (w.heap.size + 1) (.bool g1) (.int .i64 g2) (.slice uA bs.length uc) 0 true := by
    have := heap_alloc_new (w.alloc (.cells #[.bool g1, .int .i64 g2, .slice uA bs.length uc] 62)) (.cells #[.bool g1, .int .i64 g2, .slice uA bs.length uc, .int .i64 0, .bool true] 118)
    rw [size_alloc] at this
    exact this
  have K2 : Keep w ((w.alloc (.cells #[.bool g1, .int .i64 g2, .slice uA bs.length uc] 62)).alloc (.cells #[.bool g1, .int .i64 g2, .slice uA bs.length uc, .int .i64 0, .bool true] 118)) := (by repeat (first | exact Keep.rf _ | assumption | apply Keep.al | apply Keep.dr | apply Keep.dn))
  have a0 := top_cells hA 0
  have a1 := top_cells hA 1
  have a2 := top_cells hA 2
  simp only [List.getElem?_toArray, List.getElem?_cons_succ, List.getElem?_cons_zero] at a0 a1 a2
  have HK2 := hide K2
  have HC := hide hC
  clear K2 hC hA
  generalize hOO : Em.isG ⟨(g1, g2), bs⟩ = oo at *
  clear hOO
  go_enter Tryz.func38, Tryz.ntmps38
  go_wp2_with fail
  generalize World.alloc (World.alloc w _) _ = w1 at *
  refine (HREF.out w1 (some 0) (g1, g2) HK2.out ⟨0, HC.out, Nat.zero_le _, fun m hm => (by cases hm; rfl)⟩ (fun n hn => (by cases hn; omega)) hrw).mono ?_
  rintro e w2 ⟨rfl, ⟨n', h1, h2, h3⟩, h4⟩
  have e1 : (some 0 : Option Nat).bind (Em.chkP bs (bs.length + 1) (g1, g2)) = Em.chkP bs (bs.length + 1) (g1, g2) 0 := rfl
  rw [e1] at h1 h3
  clear e1
  replace a2 := h4.cell (a := ⟨w.heap.size, 2, none⟩) (fun e => by have e : w.heap.size = w.heap.size + 1 := e; omega) a2
  have c3 := top_cells h1 3
  have c4 := top_cells h1 4
  simp only [List.getElem?_toArray, List.getElem?_cons_succ, List.getElem?_cons_zero] at c3 c4
  have HF := hide h4
  have hww := Frm.keep HK2.out h4 (fun i e => by have e : i = w.heap.size + 1 := e; omega)
  have HWW := hide hww
  clear h1 h4 hww HREF HC a0 a1
  generalize Em.chkP bs (bs.length + 1) (g1, g2) 0 = ch at *
  cases ch with
  | none =>
    have HO := hide (show oo = false from by rw [HG.out]; rfl)
    simp only [Option.isSome_none] at c4
    clear HG h3
    go_wp2_with fail
    go_quiet (fail)
    have kd : Keep w2 (w2.drewN nq) := (by repeat (first | exact Keep.rf _ | assumption | apply Keep.al | apply Keep.dr | apply Keep.dn))
    generalize World.drewN w2 nq = W1 at *
    go_wp2_with fail
    go_ret
    rw [HO.out]
    exact ⟨rfl, Keep.tr HWW.out kd⟩
  | some m =>
    have HO := hide (show oo = decide (m = bs.length) from by rw [HG.out, Bool.eq_iff_iff]; simp)
    simp only [Option.isSome_some] at c4
    obtain rfl := h3 _ rfl
    clear HG h3
    have hq : ((n' : Int) == (bs.length : Int)) = decide (n' = bs.length) := by rw [Bool.eq_iff_iff, beq_iff_eq, decide_eq_true_iff]; omega
    have HQ := hide hq
    clear hq
    go_wp2_with fail
    go_quiet (fail)
    have kd : Keep w2 (w2.drewN nq) := (by repeat (first | exact Keep.rf _ | assumption | apply Keep.al | apply Keep.dr | apply Keep.dn))
    generalize World.drewN w2 nq = W1 at *
    go_wp2_with fail
    go_ret
    rw [HO.out]
    have hq2 : decide ((n' : Int) = (bs.length : Int)) = decide (n' = bs.length) := by rw [Bool.eq_iff_iff, decide_eq_true_iff, decide_eq_true_iff]; omega
    refine ⟨?_, Keep.tr HWW.out kd⟩
    first
      | exact congrArg (fun b => Ending.returned (.bool b)) HQ.out
      | exact congrArg (fun b => Ending.returned (.bool b)) hq2
      | exact (congrArg (fun b => Ending.returned (.bool (true && b))) HQ.out)
end Go.Proofs.YtoehaijmkmdggaaGreat
