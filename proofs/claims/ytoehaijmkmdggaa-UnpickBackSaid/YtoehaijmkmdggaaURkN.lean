/- Walks: the picker of the reference 22: put, and what is no block. -/
import Derived.Test.YtoehaijmkmdggaaURkR
import Derived.Test.YtoehaijmkmdggaaUPkB
import Derived.Test.YtoehaijmkmdggaaUVarW
import Derived.Test.YtoehaijmkmdggaaUVarZ
import Derived.Test.YtoehaijmkmdggaaURvN
set_option linter.unusedSimpArgs false
set_option linter.unusedVariables false
namespace Go.Proofs.Ytoehaijmkmdggaa
open Go.RowKit Go.Maps
open Em (Ty)
set_option linter.unusedVariables false
set_option linter.unusedSimpArgs false
set_option maxRecDepth 100000
section
variable {B f : Nat} {Z : Nat → Prop} {w0 w : World} {p mb hp sz : Nat} {S : List Nat} {hv tv ov : Value} {fm : Int → Option Value} {tys : List (Ty × List Value)} {s : Em.Pk} {H : Em.Hp} {b : List UInt8}
set_option maxHeartbeats 4000000 in
theorem rkPut (h : RkM 116 B Z w0 w p mb hv tv ov fm tys b) (n : Nat) (hn : n < 18446744073709551616) (hl : b.length ≤ 500000000) : Calls Try.prog 88 #[.pointer (some ⟨p, 0, none⟩), .int .u64 (n : Int)] w fun e w' => e = .returned (.tuple #[]) ∧ ∃ ov', RkM 116 B Z w0 w' p mb hv tv ov' fm tys (b ++ Em.putN n) ∧ KWent Z Z w w' p mb tv ov tv ov' := by
  have HH := hide h
  have hpl := Em.putN_len10 hn
  have HV := hide (fun W => refPut n hn W)
  obtain ⟨A0, c0, rfl⟩ := h.own.slice
  have c3 := top_cells h.top 3
  simp only [List.getElem?_toArray, List.getElem?_cons_succ, List.getElem?_cons_zero] at c3
  have HBW := hide (show B ≤ w.heap.size from by have := (h.ltO p (.inl rfl)); omega)
  clear h hn
  go_enter Try.func88, Try.ntmps88
  go_wp2_with fail
  apply region_last 10 _ (by kernel_rfl) Keep AnyW krg ktg anyrf anytr anyk [some 4, some 5, some 6, some 7, some 8, some 9, some 10, some 11, some 12, some 13, none] [eqG _ , eqG _ , eqG _ , eqG _ , eqG _ , eqG _ , fun us W v => ∃ A c, v = .slice A (Em.putN n).length c ∧ Bs W (.slice A (Em.putN n).length c) (Em.putN n), fun us W v => BGrow w B (.slice A0 b.length c0) (b ++ Em.putN n) W v, eqG _ , eqG _ , fun _ _ _ => True] [⟨[], [], false, false, false⟩, ⟨[], [], true, false, false⟩, ⟨[1], [], true, false, false⟩, ⟨[2], [], true, false, false⟩, ⟨[3], [], true, false, false⟩, ⟨[], [], true, false, false⟩, ⟨[5], [], true, false, true⟩, ⟨[4, 6], [], true, true, true⟩, ⟨[0], [], false, false, false⟩, ⟨[8], [], false, false, false⟩, ⟨[7, 9], [], false, false, false⟩] [7, 9] (by kernel_rfl) (by kernel_rfl) (by kernel_rfl) rfl (by kernel_rfl)
  · refine ⟨?_, ?_, ?_, ?_, ?_, ?_, ?_, ?_, ?_, ?_, trivial⟩ <;> (intro us W h9 hW hE hd hs K hK; obtain ⟨u0, u1, u2, u3, u4, u5, u6, u7, u8, u9, u10, rfl⟩ := rog 11 h9 rfl; clear h9; try simp only [DepG, AtG, and_true, relG, eqG, eqG1, eqG2, eqG3, gdG, gdG1, gnG, gnG1, List.getD_cons_zero, List.getD_cons_succ, List.getElem?_cons_succ, List.getElem?_cons_zero, Option.map_some, Option.getD_some, valsG, List.map_cons, List.map_nil, List.length_cons, List.length_nil] at hd)
    · ((try clear hd); clear hs; simp only [fillG, List.set_cons_zero, List.set_cons_succ]; refine want_n rfl ?_; go_wp2_with (first | fail); simp only [DoneG, fillG, List.set_cons_zero, List.set_cons_succ, relG, eqG, eqG1, eqG2, eqG3, gdG, gdG1, gnG, gnG1, List.getD_cons_zero, List.getD_cons_succ, List.getElem?_cons_succ, List.getElem?_cons_zero, Option.map_some, Option.getD_some, valsG, List.map_cons, List.map_nil, List.length_cons, List.length_nil]; exact ⟨_, rfl, (by first | with_reducible assumption | exact krg _ | exact Keep.al (krg _) _), fun _ _ => rfl⟩)
    · ((try clear hd); clear hs; simp only [fillG, List.set_cons_zero, List.set_cons_succ]; refine want_n rfl ?_; go_wp2_with (first | fail); simp only [DoneG, fillG, List.set_cons_zero, List.set_cons_succ, relG, eqG, eqG1, eqG2, eqG3, gdG, gdG1, gnG, gnG1, List.getD_cons_zero, List.getD_cons_succ, List.getElem?_cons_succ, List.getElem?_cons_zero, Option.map_some, Option.getD_some, valsG, List.map_cons, List.map_nil, List.length_cons, List.length_nil]; exact ⟨_, rfl, (by first | with_reducible assumption | exact krg _ | exact Keep.al (krg _) _), fun _ _ => rfl⟩)
    · (have d1 := hd; clear hd; subst d1; clear hs; simp only [fillG, List.set_cons_zero, List.set_cons_succ]; refine want_n rfl ?_; go_wp2_with (first | fail); simp only [DoneG, fillG, List.set_cons_zero, List.set_cons_succ, relG, eqG, eqG1, eqG2, eqG3, gdG, gdG1, gnG, gnG1, List.getD_cons_zero, List.getD_cons_succ, List.getElem?_cons_succ, List.getElem?_cons_zero, Option.map_some, Option.getD_some, valsG, List.map_cons, List.map_nil, List.length_cons, List.length_nil]; exact ⟨_, rfl, (by first | with_reducible assumption | exact krg _ | exact Keep.al (krg _) _), fun _ _ => rfl⟩)
    · (have d2 := hd; clear hd; subst d2; clear hs; simp only [fillG, List.set_cons_zero, List.set_cons_succ]; refine want_n rfl ?_; go_wp2_with (first | fail); simp only [DoneG, fillG, List.set_cons_zero, List.set_cons_succ, relG, eqG, eqG1, eqG2, eqG3, gdG, gdG1, gnG, gnG1, List.getD_cons_zero, List.getD_cons_succ, List.getElem?_cons_succ, List.getElem?_cons_zero, Option.map_some, Option.getD_some, valsG, List.map_cons, List.map_nil, List.length_cons, List.length_nil]; exact ⟨_, rfl, (by first | with_reducible assumption | exact krg _ | exact Keep.al (krg _) _), fun _ _ => rfl⟩)
    · (have d3 := hd; clear hd; subst d3; clear hs; simp only [fillG, List.set_cons_zero, List.set_cons_succ]; have hKW := Keep.tr (Keep.dr (Keep.rf _)) (hE rfl); have c3 := Keep.cell hKW c3; refine want_n rfl ?_; go_wp2_with (first | fail); simp only [DoneG, fillG, List.set_cons_zero, List.set_cons_succ, relG, eqG, eqG1, eqG2, eqG3, gdG, gdG1, gnG, gnG1, List.getD_cons_zero, List.getD_cons_succ, List.getElem?_cons_succ, List.getElem?_cons_zero, Option.map_some, Option.getD_some, valsG, List.map_cons, List.map_nil, List.length_cons, List.length_nil]; exact ⟨_, rfl, (by first | with_reducible assumption | exact krg _ | exact Keep.al (krg _) _), fun _ _ => rfl⟩)
    · ((try clear hd); clear hs; simp only [fillG, List.set_cons_zero, List.set_cons_succ]; refine want_n rfl ?_; go_wp2_with (first | fail); simp only [DoneG, fillG, List.set_cons_zero, List.set_cons_succ, relG, eqG, eqG1, eqG2, eqG3, gdG, gdG1, gnG, gnG1, List.getD_cons_zero, List.getD_cons_succ, List.getElem?_cons_succ, List.getElem?_cons_zero, Option.map_some, Option.getD_some, valsG, List.map_cons, List.map_nil, List.length_cons, List.length_nil]; exact ⟨_, rfl, (by first | with_reducible assumption | exact krg _ | exact Keep.al (krg _) _), fun _ _ => rfl⟩)
    · (have d5 := hd; clear hd; subst d5; clear hs; simp only [fillG, List.set_cons_zero, List.set_cons_succ]; have hKW := Keep.tr (Keep.dr (Keep.rf _)) (hE rfl); have c3 := Keep.cell hKW c3; refine want_n rfl ?_; go_wp2_with (first | (go_at_call 115; refine (HV.out _).mono ?_; rintro e w' ⟨v6, rfl, ho6, kT⟩; obtain ⟨A6, c6, rfl⟩ := ho6.slice) | fail); simp only [DoneG, fillG, List.set_cons_zero, List.set_cons_succ, relG, eqG, eqG1, eqG2, eqG3, gdG, gdG1, gnG, gnG1, List.getD_cons_zero, List.getD_cons_succ, List.getElem?_cons_succ, List.getElem?_cons_zero, Option.map_some, Option.getD_some, valsG, List.map_cons, List.map_nil, List.length_cons, List.length_nil]; exact ⟨_, rfl, (by first | with_reducible assumption | exact krg _ | exact Keep.al (krg _) _), fun W9 hk9 => ⟨A6, c6, rfl, (ho6.keep hk9).bs⟩⟩)
    · (obtain ⟨d4, d6⟩ := hd; subst d4; obtain ⟨A6, c6, rfl, o6⟩ := d6; clear hs; simp only [fillG, List.set_cons_zero, List.set_cons_succ]; have hKW := Keep.tr (Keep.dr (Keep.rf _)) (hE rfl); have c3 := Keep.cell hKW c3; refine want_n rfl ?_; refine wp_app (.tmp 8) (.tmp 10) 22 rfl B 5 _ 1 1 Try.underlying22 infoU8 rfl (by omega) _ b.length (b.map Go.Proofs.Ytoehaijmkmdggaa.bv) rfl (own_keep HH.out.own hKW) _ (Em.putN n).length ((Em.putN n).map Go.Proofs.Ytoehaijmkmdggaa.bv) rfl o6.src (fun u hu => bv_one u _ hu) (by simp only [maxLen]; omega) (by omega) (Nat.le_trans HBW.out (Below.size hKW)) ?_; intro v9 w9 ha9; refine hK _ _ ?_; simp only [DoneG, fillG, List.set_cons_zero, List.set_cons_succ, relG, eqG, eqG1, eqG2, eqG3, gdG, gdG1, gnG, gnG1, List.getD_cons_zero, List.getD_cons_succ, List.getElem?_cons_succ, List.getElem?_cons_zero, Option.map_some, Option.getD_some, valsG, List.map_cons, List.map_nil, List.length_cons, List.length_nil]; exact ⟨_, rfl, (by first | with_reducible assumption | exact trivial), fun W9 hk9 => BGrow.keep ⟨_, hKW, ha9.2.1, ha9.2.2, App.ob ha9 rfl⟩ hk9⟩)
    · (have d0 := hd; clear hd; subst d0; clear hs; simp only [fillG, List.set_cons_zero, List.set_cons_succ]; refine want_n rfl ?_; go_wp2_with (first | fail); simp only [DoneG, fillG, List.set_cons_zero, List.set_cons_succ, relG, eqG, eqG1, eqG2, eqG3, gdG, gdG1, gnG, gnG1, List.getD_cons_zero, List.getD_cons_succ, List.getElem?_cons_succ, List.getElem?_cons_zero, Option.map_some, Option.getD_some, valsG, List.map_cons, List.map_nil, List.length_cons, List.length_nil]; exact ⟨_, rfl, (by first | with_reducible assumption | exact krg _ | exact Keep.al (krg _) _), fun _ _ => rfl⟩)
    · (have d8 := hd; clear hd; subst d8; clear hs; simp only [fillG, List.set_cons_zero, List.set_cons_succ]; refine want_n rfl ?_; go_wp2_with (first | fail); simp only [DoneG, fillG, List.set_cons_zero, List.set_cons_succ, relG, eqG, eqG1, eqG2, eqG3, gdG, gdG1, gnG, gnG1, List.getD_cons_zero, List.getD_cons_succ, List.getElem?_cons_succ, List.getElem?_cons_zero, Option.map_some, Option.getD_some, valsG, List.map_cons, List.map_nil, List.length_cons, List.length_nil]; exact ⟨_, rfl, (by first | with_reducible assumption | exact krg _ | exact Keep.al (krg _) _), fun _ _ => rfl⟩)
  (intro us W5 h9 hW hE hA hl9; obtain ⟨u0, u1, u2, u3, u4, u5, u6, u7, u8, u9, u10, rfl⟩ := rog 11 h9 rfl; clear h9; clear hl9; simp only [AllG, AtG, and_true, relG, eqG, eqG1, eqG2, eqG3, gdG, gdG1, gnG, gnG1, List.getD_cons_zero, List.getD_cons_succ, List.getElem?_cons_succ, List.getElem?_cons_zero, Option.map_some, Option.getD_some, valsG, List.map_cons, List.map_nil, List.length_cons, List.length_nil] at hA; obtain ⟨d7, d9⟩ := hA; subst d9; simp only [fillG, List.set_cons_zero, List.set_cons_succ]; refine want_n rfl ?_)
  have htop := HH.out.topG d7
  have tpc := top_cells htop 3
  have tpf := top_free htop 3
  simp only [List.getElem?_toArray, List.getElem?_cons_succ, List.getElem?_cons_zero] at tpc
  obtain ⟨h9, w9⟩ := HH.out.grew d7
  obtain ⟨A9, n9, c9, e9⟩ : ∃ A n c, u7 = Value.slice A n c := by obtain ⟨A, c, e⟩ := h9.own.slice; exact ⟨_, _, _, e⟩
  subst e9
  have H9 := hide h9
  have W9' := hide w9
  clear h9 w9 d7 htop hW hE
  go_wp2_with fail
  (try simp only [Exit.inBlock, Exit.then]); refine bodyPost_end (results_none rfl _ _ _) rfl ?_
  exact ⟨rfl, _, H9.out, W9'.out⟩
theorem rkPutS (h : RkS 116 B Z w0 w p mb hv tv ov tys s) (n : Nat) (hn : n < 18446744073709551616) (hl : s.b.length ≤ 500000000) : Calls Try.prog 88 #[.pointer (some ⟨p, 0, none⟩), .int .u64 (n : Int)] w (NodA 116 B Z w0 w p mb hv tv ov (s.put n)) := by
  obtain ⟨h1, h2, h3, h4⟩ := h
  refine (rkPut h1 n hn hl).mono ?_
  rintro e w' ⟨rfl, ov', h5, h6⟩
  exact ⟨rfl, Z, tv, ov', tys, ⟨h5, h2, h3, h4⟩, h6⟩
theorem RkS.keep {w' : World} (h : RkS 116 B Z w0 w p mb hv tv ov tys s) (k : Keep w w') : RkS 116 B Z w0 w' p mb hv tv ov tys s := ⟨h.1.keep k, h.2⟩
theorem NodA.pre {Z1 : Nat → Prop} {w1 w' : World} {tv1 ov1 : Value} {s' : Em.Pk} {e : Ending} (h1 : KWent Z Z1 w w1 p mb tv ov tv1 ov1) (h : NodA 116 B Z1 w0 w1 p mb hv tv1 ov1 s' e w') : NodA 116 B Z w0 w p mb hv tv ov s' e w' := by
  obtain ⟨g1, Z', tv', ov', tys', g2, g3⟩ := h
  exact ⟨g1, Z', tv', ov', tys', g2, h1.tr g3⟩
theorem numK_odd {many n : Int} {s s' : Em.Pk} (h : Em.numK many n s = .ok s') : n % 2 = 1 ∧ ¬ (0 ≤ many ∧ (n / 2 < 0 ∨ many ≤ n / 2)) ∧ (if many = -1 then Em.PkO.ok (s.put (Em.zig (n / 2))) else if many = 2 then .ok (s.put (n / 2).toNat) else .ok s) = .ok s' := by
  unfold Em.numK at h
  split at h
  · cases h
  · next hn =>
    simp only [not_or, Classical.not_not] at hn
    exact ⟨hn.1, hn.2, h⟩
theorem numK_int {n : Int} {s s' : Em.Pk} (h : Em.numK (-1) n s = .ok s') : n % 2 = 1 ∧ s' = s.put (Em.zig (n / 2)) := by
  obtain ⟨h1, _, h2⟩ := numK_odd h
  rw [if_pos rfl] at h2
  injection h2 with h2
  exact ⟨h1, h2.symm⟩
theorem numK_bool {n : Int} {s s' : Em.Pk} (h : Em.numK 2 n s = .ok s') : n % 2 = 1 ∧ ((n / 2 = 0 ∧ s' = s.put 0) ∨ (n / 2 = 1 ∧ s' = s.put 1)) := by
  obtain ⟨h1, h3, h2⟩ := numK_odd h
  rw [if_neg (by decide), if_pos rfl] at h2
  injection h2 with h2
  refine ⟨h1, ?_⟩
  rcases (show n / 2 = 0 ∨ n / 2 = 1 by omega) with e | e
  · exact .inl ⟨e, by rw [← h2, e]; rfl⟩
  · exact .inr ⟨e, by rw [← h2, e]; rfl⟩
theorem numK_unit {n : Int} {s s' : Em.Pk} (h : Em.numK 1 n s = .ok s') : n % 2 = 1 ∧ n / 2 = 0 ∧ s' = s := by
  obtain ⟨h1, h3, h2⟩ := numK_odd h
  rw [if_neg (by decide), if_neg (by decide)] at h2
  injection h2 with h2
  exact ⟨h1, by omega, h2.symm⟩
set_option maxHeartbeats 8000000 in
theorem rkPlain (n : Int) (t : Ty) (d : Nat) (cs : List Value) (h : RkS 116 B Z w0 w p mb hv tv ov tys s) (ht : TyI (fun k => k < w0.heap.size ∨ Z k) d w cs t) (hn : (Lit.int .i64 n).wf = true) (hl : s.b.length ≤ 500000000) (hp : Em.isPl t.op) (s' : Em.Pk) (hs : Em.numK (Em.manyOf t.op) n s = .ok s') :
    Calls Try.prog 87 #[.pointer (some ⟨p, 0, none⟩), .int .i64 n, .agg cs.toArray] w (NodA 116 B Z w0 w p mb hv tv ov s') := by
  cases d with
  | zero => exact ht.elim
  | succ d =>
    obtain ⟨tv9, e0, hn0, hs0, hin0⟩ := id ht
    subst e0
    obtain ⟨A, c, e1, _⟩ := id hs0
    subst e1
    obtain ⟨o, m, ks⟩ := t
    simp only [Em.Ty.op, Em.Ty.n, Em.Ty.kids] at *
    have ka : Keep w (w.alloc (.cells #[.string (str o), .int .i64 m, .slice A ks.length c] 25)) := (by repeat (first | exact Keep.rf _ | assumption | apply Keep.al | apply Keep.dr | apply Keep.dn))
    have hB := heap_alloc_new w (.cells #[.string (str o), .int .i64 m, .slice A ks.length c] 25)
    have b0 := top_cells hB 0
    simp only [List.getElem?_toArray, List.getElem?_cons_succ, List.getElem?_cons_zero] at b0
    have HM1 := hide (h.keep ka)
    have KA := hide ka
    have hO := opB o
    have hh := half_in hn
    clear h ht ka hB hs0 hin0 hn0
    have HPU := hide (fun k hk => rkPutS HM1.out k hk hl)
    have HZ := hide (fun W => refZig (n / 2) hh.1 hh.2 W)
    have HZL := hide (Em.zig_lt hh.1 hh.2)
    rcases hp with rfl | rfl | rfl
    · have hx := numK_int (by rw [← hs]; rfl)
      obtain ⟨ho, rfl⟩ := hx
      have hob : (n % 2 == 1) = true := by simpa using ho
      clear ho hs hh
      unfold Em.wInt at *
      go_enter Try.func87, Try.ntmps87
      go_wp2_with fail
      generalize World.alloc w _ = w1 at *
      refine (refNum n _).mono ?_
      rintro e w' ⟨rfl, rfl⟩
      go_wp2_with fail
      refine (refIsInt n _).mono ?_
      rintro e w' ⟨rfl, rfl⟩
      rw [hob]
      go_wp2_with fail
      refine (HZ.out _).mono ?_
      rintro e w' ⟨rfl, rfl⟩
      go_wp2_with fail
      refine (HPU.out _ HZL.out).mono ?_
      intro e w2 hA
      obtain ⟨rfl, hA2⟩ := id hA
      have HA := hide hA
      clear hA hA2 b0
      go_wp2_with fail
      (try simp only [Exit.inBlock, Exit.then])
      refine bodyPost_end (results_none rfl _ _ _) rfl ?_
      exact HA.out.pre (KWent.of_keep KA.out)
    · have hx := numK_bool (by rw [← hs]; rfl)
      obtain ⟨ho, hx⟩ := hx
      have hob : (n % 2 == 1) = true := by simpa using ho
      clear ho hs hh HZ HZL
      unfold Em.wBool at *
      generalize hm : n / 2 = q at *
      rcases hx with ⟨rfl, rfl⟩ | ⟨rfl, rfl⟩
      · go_enter Try.func87, Try.ntmps87
        go_wp2_with fail
        generalize World.alloc w _ = w1 at *
        refine (refNum n _).mono ?_
        rintro e w' ⟨rfl, rfl⟩
        rw [hm]
        go_wp2_with fail
        refine (refIsInt n _).mono ?_
        rintro e w' ⟨rfl, rfl⟩
        rw [hob]
        clear hm
        go_wp2_with fail
        refine (HPU.out 0 (by omega)).mono ?_
        intro e w2 hA
        obtain ⟨rfl, hA2⟩ := id hA
        have HA := hide hA
        clear hA hA2 b0
        go_wp2_with fail
        (try simp only [Exit.inBlock, Exit.then])
        refine bodyPost_end (results_none rfl _ _ _) rfl ?_
        exact HA.out.pre (KWent.of_keep KA.out)
      · go_enter Try.func87, Try.ntmps87
        go_wp2_with fail
        generalize World.alloc w _ = w1 at *
        refine (refNum n _).mono ?_
        rintro e w' ⟨rfl, rfl⟩
        rw [hm]
        go_wp2_with fail
        refine (refIsInt n _).mono ?_
        rintro e w' ⟨rfl, rfl⟩
        rw [hob]
        clear hm
        go_wp2_with fail
        refine (HPU.out 1 (by omega)).mono ?_
        intro e w2 hA
        obtain ⟨rfl, hA2⟩ := id hA
        have HA := hide hA
        clear hA hA2 b0
        go_wp2_with fail
        (try simp only [Exit.inBlock, Exit.then])
        refine bodyPost_end (results_none rfl _ _ _) rfl ?_
        exact HA.out.pre (KWent.of_keep KA.out)
    · have hx := numK_unit (by rw [← hs]; rfl)
      obtain ⟨ho, hq, rfl⟩ := hx
      have hob : (n % 2 == 1) = true := by simpa using ho
      clear ho hs hh HZ HZL HPU
      unfold Em.wUnit at *
      go_enter Try.func87, Try.ntmps87
      go_wp2_with fail
      generalize World.alloc w _ = w1 at *
      refine (refNum n _).mono ?_
      rintro e w' ⟨rfl, rfl⟩
      rw [hq]
      go_wp2_with fail
      refine (refIsInt n _).mono ?_
      rintro e w' ⟨rfl, rfl⟩
      rw [hob]
      clear hq
      go_wp2_with fail
      (try simp only [Exit.inBlock, Exit.then])
      refine bodyPost_end (results_none rfl _ _ _) rfl ?_
      exact ⟨rfl, Z, tv, ov, tys, HM1.out, KWent.of_keep KA.out⟩
end
end Go.Proofs.Ytoehaijmkmdggaa
