/- The law TypSent: walk. Printed by gen_tysen.py. -/
import Derived.Test.YtoippbbodhchkaaDoorTyTel
namespace Go.Proofs.YtoippbbodhchkaaDoor
open Go.RowKit
open Em (Ty)
set_option linter.unusedVariables false
set_option linter.unusedSimpArgs false
set_option maxRecDepth 100000
theorem sl_two {w : World} {d : Nat} {x0 x1 x2 y0 y1 y2 : Value} {t : TypeId} {n : Nat} (hn : w.heap.size = n) {a b : Ty} (ha : TyK d (w.alloc (.cells #[x0, x1, x2, y0, y1, y2] t)) [x0, x1, x2] a) (hb : TyK d (w.alloc (.cells #[x0, x1, x2, y0, y1, y2] t)) [y0, y1, y2] b) :
    Sl 3 (TyK d) (w.alloc (.cells #[x0, x1, x2, y0, y1, y2] t)) (.slice (some ⟨n, 0, none⟩) 2 2) [a, b] := by
  have h0 := lit_cells (w := w) (cs := #[x0, x1, x2, y0, y1, y2]) (t := t) hn 0 rfl
  have h1 := lit_cells (w := w) (cs := #[x0, x1, x2, y0, y1, y2]) (t := t) hn 1 rfl
  have h2 := lit_cells (w := w) (cs := #[x0, x1, x2, y0, y1, y2]) (t := t) hn 2 rfl
  have h3 := lit_cells (w := w) (cs := #[x0, x1, x2, y0, y1, y2]) (t := t) hn 3 rfl
  have h4 := lit_cells (w := w) (cs := #[x0, x1, x2, y0, y1, y2]) (t := t) hn 4 rfl
  have h5 := lit_cells (w := w) (cs := #[x0, x1, x2, y0, y1, y2]) (t := t) hn 5 rfl
  refine ⟨_, _, rfl, Nat.le_refl _, by omega, fun _ => ⟨_, rfl, fun j hj => ?_⟩⟩
  match j, hj with
  | 0, _ =>
    refine ⟨[x0, x1, x2], rfl, fun i u hu => ?_, ha⟩
    rw [add_pl]
    match i, hu with
    | 0, hu => obtain rfl : x0 = u := by simpa using hu
               exact h0
    | 1, hu => obtain rfl : x1 = u := by simpa using hu
               exact h1
    | 2, hu => obtain rfl : x2 = u := by simpa using hu
               exact h2
    | i + 3, hu => simp at hu
  | 1, _ =>
    refine ⟨[y0, y1, y2], rfl, fun i u hu => ?_, hb⟩
    rw [add_pl]
    match i, hu with
    | 0, hu => obtain rfl : y0 = u := by simpa using hu
               exact h3
    | 1, hu => obtain rfl : y1 = u := by simpa using hu
               exact h4
    | 2, hu => obtain rfl : y2 = u := by simpa using hu
               exact h5
    | i + 3, hu => simp at hu
theorem sl_one {w : World} {d : Nat} {x0 x1 x2 : Value} {t : TypeId} {n : Nat} (hn : w.heap.size = n) {a : Ty} (ha : TyK d (w.alloc (.cells #[x0, x1, x2] t)) [x0, x1, x2] a) :
    Sl 3 (TyK d) (w.alloc (.cells #[x0, x1, x2] t)) (.slice (some ⟨n, 0, none⟩) 1 1) [a] := by
  have h0 := lit_cells (w := w) (cs := #[x0, x1, x2]) (t := t) hn 0 rfl
  have h1 := lit_cells (w := w) (cs := #[x0, x1, x2]) (t := t) hn 1 rfl
  have h2 := lit_cells (w := w) (cs := #[x0, x1, x2]) (t := t) hn 2 rfl
  refine ⟨_, _, rfl, Nat.le_refl _, by omega, fun _ => ⟨_, rfl, fun j hj => ?_⟩⟩
  obtain rfl : j = 0 := by simpa using hj
  refine ⟨[x0, x1, x2], rfl, fun i u hu => ?_, ha⟩
  rw [add_pl]
  match i, hu with
  | 0, hu => obtain rfl : x0 = u := by simpa using hu
             exact h0
  | 1, hu => obtain rfl : x1 = u := by simpa using hu
             exact h1
  | 2, hu => obtain rfl : x2 = u := by simpa using hu
             exact h2
  | i + 3, hu => simp at hu
theorem sent_pair (a b : Ty) : Em.sentT (.mk Em.wPair 0 [a, b]) = (Em.sentT a && Em.sentT b) := by
  rw [Em.sentT, Em.sentL, Em.sentL, Em.sentL, Bool.and_true, decide_eq_true (by decide), decide_eq_true (by decide)]
  rfl
theorem sent_list (a : Ty) : Em.sentT (.mk Em.wList 0 [a]) = Em.sentT a := by
  rw [Em.sentT, Em.sentL, Em.sentL, Bool.and_true, decide_eq_true (by decide), decide_eq_true (by decide)]
  rfl
theorem sent_ref (a : Ty) : Em.sentT (.mk Em.wRef 0 [a]) = Em.sentT a := by
  rw [Em.sentT, Em.sentL, Em.sentL, Bool.and_true, decide_eq_true (by decide), decide_eq_true (by decide)]
  rfl
theorem sent_fun (a b : Ty) : Em.sentT (.mk Em.wFun 0 [a, b]) = false := by
  rw [Em.sentT, decide_eq_false (p := Em.wFun ≠ Em.wFun) (by simp), Bool.and_false, Bool.false_and]
set_option maxHeartbeats 16000000 in
theorem TypSent_walk (w : World) (va : Value) (a : Ty) (h : TyV w va a) (_ : True) (vb : Value) (b : Ty) (h' : TyV w vb b) (_ : True) (ht : Tens w) : Calls Tryd.prog 6 #[va, vb] w fun e w' => e = .returned (.bool true) ∧ Keep w w' := by
  obtain ⟨da, ca, rfl, ha⟩ := h
  obtain ⟨db, cb, rfl, hb⟩ := h'
  have ha := ha.le (Nat.le_max_left da db)
  have hb := hb.le (Nat.le_max_right da db)
  generalize max da db = d at *
  cases d with
  | zero => exact ha.elim
  | succ d =>
    have HA := hide ha
    have HB := hide hb
    have HTN := hide ht
    clear ht
    obtain ⟨_, rfl, an, aA, ac, rfl, _⟩ := ha
    obtain ⟨_, rfl, bn, bA, bc, rfl, _⟩ := hb
    go_enter Tryd.func6, Tryd.ntmps6
    go_wp2_with fail
    have a0 := top_cells (heap_alloc_new w (.cells #[.string (str a.op), .int .i64 a.n, .slice aA a.kids.length ac] 24)) 0
    have a1 := top_cells (heap_alloc_new w (.cells #[.string (str a.op), .int .i64 a.n, .slice aA a.kids.length ac] 24)) 1
    have a2 := top_cells (heap_alloc_new w (.cells #[.string (str a.op), .int .i64 a.n, .slice aA a.kids.length ac] 24)) 2
    have ka : Keep w (w.alloc (.cells #[.string (str a.op), .int .i64 a.n, .slice aA a.kids.length ac] 24)) := (by repeat (first | exact Keep.rf _ | assumption | apply Keep.al | apply Keep.dr | apply Keep.dn))
    have kb := Keep.al (Keep.rf (w.alloc (.cells #[.string (str a.op), .int .i64 a.n, .slice aA a.kids.length ac] 24))) (.cells #[.string (str b.op), .int .i64 b.n, .slice bA b.kids.length bc] 24)
    replace a0 := Keep.cell kb a0
    replace a1 := Keep.cell kb a1
    replace a2 := Keep.cell kb a2
    have hb2 := new_second w (.cells #[.string (str a.op), .int .i64 a.n, .slice aA a.kids.length ac] 24) (.cells #[.string (str b.op), .int .i64 b.n, .slice bA b.kids.length bc] 24)
    have b0 := top_cells hb2 0
    have b1 := top_cells hb2 1
    have b2 := top_cells hb2 2
    simp only [List.getElem?_toArray, List.getElem?_cons_succ, List.getElem?_cons_zero] at a0 a1 a2 b0 b1 b2
    have k01 := Keep.tr ka kb
    clear ka kb hb2
    generalize World.alloc (World.alloc w _) _ = W1 at *
    refine (lawLong8 (d + 1) a W1 _ (HA.out.keep k01)).mono ?_
    rintro e w2 ⟨rfl, k2⟩
    replace a0 := Keep.cell k2 a0
    replace a1 := Keep.cell k2 a1
    replace a2 := Keep.cell k2 a2
    replace b0 := Keep.cell k2 b0
    replace b1 := Keep.cell k2 b1
    replace b2 := Keep.cell k2 b2
    have k02 := Keep.tr k01 k2
    clear k01 k2
    by_cases hla : 300 < Em.sz 301 a
    · rw [decide_eq_true hla]
      go_wp2_with fail
      go_ret
      exact ⟨rfl, k02⟩
    rw [decide_eq_false hla]
    go_wp2_with fail
    refine (lawLong8 (d + 1) b w2 _ (HB.out.keep k02)).mono ?_
    rintro e w3 ⟨rfl, k2⟩
    replace a0 := Keep.cell k2 a0
    replace a1 := Keep.cell k2 a1
    replace a2 := Keep.cell k2 a2
    replace b0 := Keep.cell k2 b0
    replace b1 := Keep.cell k2 b1
    replace b2 := Keep.cell k2 b2
    have k03 := Keep.tr k02 k2
    clear k02 k2
    by_cases hlb : 300 < Em.sz 301 b
    · rw [decide_eq_true hlb]
      go_wp2_with fail
      go_ret
      exact ⟨rfl, k03⟩
    rw [decide_eq_false hlb]
    go_wp2_with fail
    refine (refIsT a w3 _ ⟨d + 1, _, rfl, HA.out.keep k03⟩).mono ?_
    rintro e w4 ⟨rfl, k2⟩
    replace a0 := Keep.cell k2 a0
    replace a1 := Keep.cell k2 a1
    replace a2 := Keep.cell k2 a2
    replace b0 := Keep.cell k2 b0
    replace b1 := Keep.cell k2 b1
    replace b2 := Keep.cell k2 b2
    have k04 := Keep.tr k03 k2
    clear k03 k2
    cases hia : Em.isT a with
    | false =>
      go_wp2_with fail
      go_ret
      exact ⟨rfl, k04⟩
    | true =>
      go_wp2_with fail
      refine (refIsT b w4 _ ⟨d + 1, _, rfl, HB.out.keep k04⟩).mono ?_
      rintro e w5 ⟨rfl, k2⟩
      replace a0 := Keep.cell k2 a0
      replace a1 := Keep.cell k2 a1
      replace a2 := Keep.cell k2 a2
      replace b0 := Keep.cell k2 b0
      replace b1 := Keep.cell k2 b1
      replace b2 := Keep.cell k2 b2
      have k05 := Keep.tr k04 k2
      clear k04 k2
      cases hib : Em.isT b with
      | false =>
        go_wp2_with fail
        go_ret
        exact ⟨rfl, k05⟩
      | true =>
        go_wp2_with fail
        have SPr := sent_pair a b
        have SLi := sent_list a
        have SRe := sent_ref b
        have SFu := sent_fun a b
        have hnp : (Lit.int .i64 0).wf = true := by decide
        generalize hsa : Em.sentT a = sa at *
        generalize hsb : Em.sentT b = sb at *
        have HSA := hide hsa
        have HSB := hide hsb
        have HSP := hide SPr
        have HSL := hide SLi
        have HSR := hide SRe
        have HSF := hide SFu
        clear hsa hsb SPr SLi SRe SFu hia hib hla hlb
        apply region_all (by kernel_rfl) Keep Keep krg ktg krg ktg (fun _ _ h => h) [some 23, some 24, some 25, some 26, some 5, some 6] [eqG _ , fun us _ v => v = .bool sa, eqG _ , fun us _ v => v = .bool sb, eqG _ , eqG _ ] [⟨[], [], true, false, false⟩, ⟨[0], [], true, false, false⟩, ⟨[], [], true, false, false⟩, ⟨[2], [], true, false, false⟩, ⟨[1], [], true, false, false⟩, ⟨[3], [], true, false, false⟩] [4, 5] (by kernel_rfl) (by kernel_rfl) 
        · refine ⟨?_, ?_, ?_, ?_, ?_, ?_, trivial⟩
          · (intro us W h9 hW hE hd hs K hK; obtain ⟨u0, u1, u2, u3, u4, u5, rfl⟩ := rog 6 h9 rfl; clear h9; clear hd; clear hs; simp only [fillG, List.set_cons_zero, List.set_cons_succ]; have hKW := Keep.tr (Keep.dr (Keep.rf _)) (hE rfl); have a0 := Keep.cell hKW a0; have a1 := Keep.cell hKW a1; have a2 := Keep.cell hKW a2; have b0 := Keep.cell hKW b0; have b1 := Keep.cell hKW b1; have b2 := Keep.cell hKW b2; refine want_n rfl ?_; go_wp2_with (first | fail); simp only [DoneG, fillG, List.set_cons_zero, List.set_cons_succ, relG, eqG, eqG1, eqG2, eqG3, gdG, gdG1, gnG, gnG1, List.getD_cons_zero, List.getD_cons_succ, List.getElem?_cons_succ, List.getElem?_cons_zero, Option.map_some, Option.getD_some, valsG, List.map_cons, List.map_nil, List.length_cons, List.length_nil]; exact ⟨_, rfl, (by first | with_reducible assumption | exact krg _ | exact Keep.al (krg _) _), fun _ _ => rfl⟩)
          · (intro us W h9 hW hE hd hs K hK; obtain ⟨u0, u1, u2, u3, u4, u5, rfl⟩ := rog 6 h9 rfl; clear h9; simp only [DepG, AtG, and_true, relG, eqG, eqG1, eqG2, eqG3, gdG, gdG1, gnG, gnG1, List.getD_cons_zero, List.getD_cons_succ, List.getElem?_cons_succ, List.getElem?_cons_zero, Option.map_some, Option.getD_some, valsG, List.map_cons, List.map_nil, List.length_cons, List.length_nil] at hd; have d0 := hd; clear hd; subst d0; clear hs; simp only [fillG, List.set_cons_zero, List.set_cons_succ]; have hKW := Keep.tr (Keep.dr (Keep.rf _)) (hE rfl); have a0 := Keep.cell hKW a0; have a1 := Keep.cell hKW a1; have a2 := Keep.cell hKW a2; have b0 := Keep.cell hKW b0; have b1 := Keep.cell hKW b1; have b2 := Keep.cell hKW b2; refine want_n rfl ?_; go_wp2_with (first | (go_at_call 24; refine (typSent a _ _ ⟨d + 1, _, rfl, HA.out.keep (Keep.tr k05 hKW)⟩).mono ?_; rintro e w9 ⟨rfl, hk9⟩; rw [HSA.out]) | fail); simp only [DoneG, fillG, List.set_cons_zero, List.set_cons_succ, relG, eqG, eqG1, eqG2, eqG3, gdG, gdG1, gnG, gnG1, List.getD_cons_zero, List.getD_cons_succ, List.getElem?_cons_succ, List.getElem?_cons_zero, Option.map_some, Option.getD_some, valsG, List.map_cons, List.map_nil, List.length_cons, List.length_nil]; exact ⟨_, rfl, (by first | with_reducible assumption | exact krg _ | exact Keep.al (krg _) _), fun _ _ => rfl⟩)
          · (intro us W h9 hW hE hd hs K hK; obtain ⟨u0, u1, u2, u3, u4, u5, rfl⟩ := rog 6 h9 rfl; clear h9; clear hd; clear hs; simp only [fillG, List.set_cons_zero, List.set_cons_succ]; have hKW := Keep.tr (Keep.dr (Keep.rf _)) (hE rfl); have a0 := Keep.cell hKW a0; have a1 := Keep.cell hKW a1; have a2 := Keep.cell hKW a2; have b0 := Keep.cell hKW b0; have b1 := Keep.cell hKW b1; have b2 := Keep.cell hKW b2; refine want_n rfl ?_; go_wp2_with (first | fail); simp only [DoneG, fillG, List.set_cons_zero, List.set_cons_succ, relG, eqG, eqG1, eqG2, eqG3, gdG, gdG1, gnG, gnG1, List.getD_cons_zero, List.getD_cons_succ, List.getElem?_cons_succ, List.getElem?_cons_zero, Option.map_some, Option.getD_some, valsG, List.map_cons, List.map_nil, List.length_cons, List.length_nil]; exact ⟨_, rfl, (by first | with_reducible assumption | exact krg _ | exact Keep.al (krg _) _), fun _ _ => rfl⟩)
          · (intro us W h9 hW hE hd hs K hK; obtain ⟨u0, u1, u2, u3, u4, u5, rfl⟩ := rog 6 h9 rfl; clear h9; simp only [DepG, AtG, and_true, relG, eqG, eqG1, eqG2, eqG3, gdG, gdG1, gnG, gnG1, List.getD_cons_zero, List.getD_cons_succ, List.getElem?_cons_succ, List.getElem?_cons_zero, Option.map_some, Option.getD_some, valsG, List.map_cons, List.map_nil, List.length_cons, List.length_nil] at hd; have d2 := hd; clear hd; subst d2; clear hs; simp only [fillG, List.set_cons_zero, List.set_cons_succ]; have hKW := Keep.tr (Keep.dr (Keep.rf _)) (hE rfl); have a0 := Keep.cell hKW a0; have a1 := Keep.cell hKW a1; have a2 := Keep.cell hKW a2; have b0 := Keep.cell hKW b0; have b1 := Keep.cell hKW b1; have b2 := Keep.cell hKW b2; refine want_n rfl ?_; go_wp2_with (first | (go_at_call 24; refine (typSent b _ _ ⟨d + 1, _, rfl, HB.out.keep (Keep.tr k05 hKW)⟩).mono ?_; rintro e w9 ⟨rfl, hk9⟩; rw [HSB.out]) | fail); simp only [DoneG, fillG, List.set_cons_zero, List.set_cons_succ, relG, eqG, eqG1, eqG2, eqG3, gdG, gdG1, gnG, gnG1, List.getD_cons_zero, List.getD_cons_succ, List.getElem?_cons_succ, List.getElem?_cons_zero, Option.map_some, Option.getD_some, valsG, List.map_cons, List.map_nil, List.length_cons, List.length_nil]; exact ⟨_, rfl, (by first | with_reducible assumption | exact krg _ | exact Keep.al (krg _) _), fun _ _ => rfl⟩)
          · (intro us W h9 hW hE hd hs K hK; obtain ⟨u0, u1, u2, u3, u4, u5, rfl⟩ := rog 6 h9 rfl; clear h9; simp only [DepG, AtG, and_true, relG, eqG, eqG1, eqG2, eqG3, gdG, gdG1, gnG, gnG1, List.getD_cons_zero, List.getD_cons_succ, List.getElem?_cons_succ, List.getElem?_cons_zero, Option.map_some, Option.getD_some, valsG, List.map_cons, List.map_nil, List.length_cons, List.length_nil] at hd; have d1 := hd; clear hd; subst d1; clear hs; simp only [fillG, List.set_cons_zero, List.set_cons_succ]; refine want_n rfl ?_; go_wp2_with (first | fail); simp only [DoneG, fillG, List.set_cons_zero, List.set_cons_succ, relG, eqG, eqG1, eqG2, eqG3, gdG, gdG1, gnG, gnG1, List.getD_cons_zero, List.getD_cons_succ, List.getElem?_cons_succ, List.getElem?_cons_zero, Option.map_some, Option.getD_some, valsG, List.map_cons, List.map_nil, List.length_cons, List.length_nil]; exact ⟨_, rfl, (by first | with_reducible assumption | exact krg _ | exact Keep.al (krg _) _), fun _ _ => rfl⟩)
          · (intro us W h9 hW hE hd hs K hK; obtain ⟨u0, u1, u2, u3, u4, u5, rfl⟩ := rog 6 h9 rfl; clear h9; simp only [DepG, AtG, and_true, relG, eqG, eqG1, eqG2, eqG3, gdG, gdG1, gnG, gnG1, List.getD_cons_zero, List.getD_cons_succ, List.getElem?_cons_succ, List.getElem?_cons_zero, Option.map_some, Option.getD_some, valsG, List.map_cons, List.map_nil, List.length_cons, List.length_nil] at hd; have d3 := hd; clear hd; subst d3; clear hs; simp only [fillG, List.set_cons_zero, List.set_cons_succ]; refine want_n rfl ?_; go_wp2_with (first | fail); simp only [DoneG, fillG, List.set_cons_zero, List.set_cons_succ, relG, eqG, eqG1, eqG2, eqG3, gdG, gdG1, gnG, gnG1, List.getD_cons_zero, List.getD_cons_succ, List.getElem?_cons_succ, List.getElem?_cons_zero, Option.map_some, Option.getD_some, valsG, List.map_cons, List.map_nil, List.length_cons, List.length_nil]; exact ⟨_, rfl, (by first | with_reducible assumption | exact krg _ | exact Keep.al (krg _) _), fun _ _ => rfl⟩)
        (intro us W6 h9 hW hE hA; obtain ⟨u0, u1, u2, u3, u4, u5, rfl⟩ := rog 6 h9 rfl; clear h9; simp only [AllG, AtG, and_true, relG, eqG, eqG1, eqG2, eqG3, gdG, gdG1, gnG, gnG1, List.getD_cons_zero, List.getD_cons_succ, List.getElem?_cons_succ, List.getElem?_cons_zero, Option.map_some, Option.getD_some, valsG, List.map_cons, List.map_nil, List.length_cons, List.length_nil] at hA; obtain ⟨d4, d5⟩ := hA; subst d4; subst d5; simp only [fillG, List.set_cons_zero, List.set_cons_succ]; have k6 := Keep.tr (Keep.dr (Keep.rf _)) hW; clear hW hE)
        replace a0 := Keep.cell k6 a0
        replace a1 := Keep.cell k6 a1
        replace a2 := Keep.cell k6 a2
        replace b0 := Keep.cell k6 b0
        replace b1 := Keep.cell k6 b1
        replace b2 := Keep.cell k6 b2
        have k06 := Keep.tr k05 k6
        clear k05 k6
        cases sa with
        | false =>
          cases sb with
          | false =>
            go_wp2_with fail
            have kal := Keep.al (Keep.rf W6) (.cells #[.string (str a.op), .int .i64 a.n, .slice aA a.kids.length ac, .string (str b.op), .int .i64 b.n, .slice bA b.kids.length bc] 24)
            have hsl := sl_two (w := W6) (d := d + 1) (t := 24) (n := W6.heap.size) rfl (HA.out.keep (Keep.tr k06 kal)) (HB.out.keep (Keep.tr k06 kal))
            replace a0 := Keep.cell kal a0
            replace a1 := Keep.cell kal a1
            replace a2 := Keep.cell kal a2
            replace b0 := Keep.cell kal b0
            replace b1 := Keep.cell kal b1
            replace b2 := Keep.cell kal b2
            have ky := Keep.tr k06 kal
            clear kal
            generalize W6.heap.size = zW6 at *
            generalize World.alloc W6 _ = yW6 at *
            refine (refTy yW6 Em.wPair _ _ _).mono ?_
            rintro e w7 ⟨rfl, kx⟩
            have hs2 := hsl.keep kx fun _ _ h => h.keep kx
            replace a0 := Keep.cell kx a0
            replace a1 := Keep.cell kx a1
            replace a2 := Keep.cell kx a2
            replace b0 := Keep.cell kx b0
            replace b1 := Keep.cell kx b1
            replace b2 := Keep.cell kx b2
            have kz := Keep.tr ky kx
            clear kx hsl ky
            go_wp2_with fail
            refine (typSent (.mk Em.wPair 0 [a, b]) w7 _ ⟨d + 2, _, rfl, _, rfl, hnp, hs2⟩).mono ?_
            rintro e w8 ⟨rfl, kx⟩
            rw [HSP.out]
            replace a0 := Keep.cell kx a0
            replace a1 := Keep.cell kx a1
            replace a2 := Keep.cell kx a2
            replace b0 := Keep.cell kx b0
            replace b1 := Keep.cell kx b1
            replace b2 := Keep.cell kx b2
            have k08 := Keep.tr kz kx
            clear kx hs2 kz
            go_wp2_with fail
            have kal := Keep.al (Keep.rf w8) (.cells #[.string (str a.op), .int .i64 a.n, .slice aA a.kids.length ac] 24)
            have hsl := sl_one (w := w8) (d := d + 1) (t := 24) (n := w8.heap.size) rfl (HA.out.keep (Keep.tr k08 kal))
            replace a0 := Keep.cell kal a0
            replace a1 := Keep.cell kal a1
            replace a2 := Keep.cell kal a2
            replace b0 := Keep.cell kal b0
            replace b1 := Keep.cell kal b1
            replace b2 := Keep.cell kal b2
            have ky := Keep.tr k08 kal
            clear kal
            generalize w8.heap.size = zw8 at *
            generalize World.alloc w8 _ = yw8 at *
            refine (refTy yw8 Em.wList _ _ _).mono ?_
            rintro e w9 ⟨rfl, kx⟩
            have hs2 := hsl.keep kx fun _ _ h => h.keep kx
            replace a0 := Keep.cell kx a0
            replace a1 := Keep.cell kx a1
            replace a2 := Keep.cell kx a2
            replace b0 := Keep.cell kx b0
            replace b1 := Keep.cell kx b1
            replace b2 := Keep.cell kx b2
            have kz := Keep.tr ky kx
            clear kx hsl ky
            go_wp2_with fail
            refine (typSent (.mk Em.wList 0 [a]) w9 _ ⟨d + 2, _, rfl, _, rfl, hnp, hs2⟩).mono ?_
            rintro e w10 ⟨rfl, kx⟩
            rw [HSL.out]
            replace a0 := Keep.cell kx a0
            replace a1 := Keep.cell kx a1
            replace a2 := Keep.cell kx a2
            replace b0 := Keep.cell kx b0
            replace b1 := Keep.cell kx b1
            replace b2 := Keep.cell kx b2
            have k10 := Keep.tr kz kx
            clear kx hs2 kz
            go_wp2_with fail
            have kal := Keep.al (Keep.rf w10) (.cells #[.string (str b.op), .int .i64 b.n, .slice bA b.kids.length bc] 24)
            have hsl := sl_one (w := w10) (d := d + 1) (t := 24) (n := w10.heap.size) rfl (HB.out.keep (Keep.tr k10 kal))
            replace a0 := Keep.cell kal a0
            replace a1 := Keep.cell kal a1
            replace a2 := Keep.cell kal a2
            replace b0 := Keep.cell kal b0
            replace b1 := Keep.cell kal b1
            replace b2 := Keep.cell kal b2
            have ky := Keep.tr k10 kal
            clear kal
            generalize w10.heap.size = zw10 at *
            generalize World.alloc w10 _ = yw10 at *
            refine (refTy yw10 Em.wRef _ _ _).mono ?_
            rintro e w11 ⟨rfl, kx⟩
            have hs2 := hsl.keep kx fun _ _ h => h.keep kx
            replace a0 := Keep.cell kx a0
            replace a1 := Keep.cell kx a1
            replace a2 := Keep.cell kx a2
            replace b0 := Keep.cell kx b0
            replace b1 := Keep.cell kx b1
            replace b2 := Keep.cell kx b2
            have kz := Keep.tr ky kx
            clear kx hsl ky
            go_wp2_with fail
            refine (typSent (.mk Em.wRef 0 [b]) w11 _ ⟨d + 2, _, rfl, _, rfl, hnp, hs2⟩).mono ?_
            rintro e w12 ⟨rfl, kx⟩
            rw [HSR.out]
            replace a0 := Keep.cell kx a0
            replace a1 := Keep.cell kx a1
            replace a2 := Keep.cell kx a2
            replace b0 := Keep.cell kx b0
            replace b1 := Keep.cell kx b1
            replace b2 := Keep.cell kx b2
            have k12 := Keep.tr kz kx
            clear kx hs2 kz
            go_wp2_with fail
            have kal := Keep.al (Keep.rf w12) (.cells #[.string (str a.op), .int .i64 a.n, .slice aA a.kids.length ac, .string (str b.op), .int .i64 b.n, .slice bA b.kids.length bc] 24)
            have hsl := sl_two (w := w12) (d := d + 1) (t := 24) (n := w12.heap.size) rfl (HA.out.keep (Keep.tr k12 kal)) (HB.out.keep (Keep.tr k12 kal))
            replace a0 := Keep.cell kal a0
            replace a1 := Keep.cell kal a1
            replace a2 := Keep.cell kal a2
            replace b0 := Keep.cell kal b0
            replace b1 := Keep.cell kal b1
            replace b2 := Keep.cell kal b2
            have ky := Keep.tr k12 kal
            clear kal
            generalize w12.heap.size = zw12 at *
            generalize World.alloc w12 _ = yw12 at *
            refine (refTy yw12 Em.wFun _ _ _).mono ?_
            rintro e w13 ⟨rfl, kx⟩
            have hs2 := hsl.keep kx fun _ _ h => h.keep kx
            replace a0 := Keep.cell kx a0
            replace a1 := Keep.cell kx a1
            replace a2 := Keep.cell kx a2
            replace b0 := Keep.cell kx b0
            replace b1 := Keep.cell kx b1
            replace b2 := Keep.cell kx b2
            have kz := Keep.tr ky kx
            clear kx hsl ky
            go_wp2_with fail
            refine (typSent (.mk Em.wFun 0 [a, b]) w13 _ ⟨d + 2, _, rfl, _, rfl, hnp, hs2⟩).mono ?_
            rintro e w14 ⟨rfl, kx⟩
            rw [HSF.out]
            replace a0 := Keep.cell kx a0
            replace a1 := Keep.cell kx a1
            replace a2 := Keep.cell kx a2
            replace b0 := Keep.cell kx b0
            replace b1 := Keep.cell kx b1
            replace b2 := Keep.cell kx b2
            have k14 := Keep.tr kz kx
            clear kx hs2 kz
            go_wp2_with fail
            refine (law8Known _ (HTN.out.keep k14)).mono ?_
            rintro e w15 ⟨rfl, k15⟩
            go_wp2_with fail
            go_ret
            exact ⟨rfl, Keep.tr k14 k15⟩
          | true =>
            go_wp2_with fail
            have kal := Keep.al (Keep.rf W6) (.cells #[.string (str a.op), .int .i64 a.n, .slice aA a.kids.length ac, .string (str b.op), .int .i64 b.n, .slice bA b.kids.length bc] 24)
            have hsl := sl_two (w := W6) (d := d + 1) (t := 24) (n := W6.heap.size) rfl (HA.out.keep (Keep.tr k06 kal)) (HB.out.keep (Keep.tr k06 kal))
            replace a0 := Keep.cell kal a0
            replace a1 := Keep.cell kal a1
            replace a2 := Keep.cell kal a2
            replace b0 := Keep.cell kal b0
            replace b1 := Keep.cell kal b1
            replace b2 := Keep.cell kal b2
            have ky := Keep.tr k06 kal
            clear kal
            generalize W6.heap.size = zW6 at *
            generalize World.alloc W6 _ = yW6 at *
            refine (refTy yW6 Em.wPair _ _ _).mono ?_
            rintro e w7 ⟨rfl, kx⟩
            have hs2 := hsl.keep kx fun _ _ h => h.keep kx
            replace a0 := Keep.cell kx a0
            replace a1 := Keep.cell kx a1
            replace a2 := Keep.cell kx a2
            replace b0 := Keep.cell kx b0
            replace b1 := Keep.cell kx b1
            replace b2 := Keep.cell kx b2
            have kz := Keep.tr ky kx
            clear kx hsl ky
            go_wp2_with fail
            refine (typSent (.mk Em.wPair 0 [a, b]) w7 _ ⟨d + 2, _, rfl, _, rfl, hnp, hs2⟩).mono ?_
            rintro e w8 ⟨rfl, kx⟩
            rw [HSP.out]
            replace a0 := Keep.cell kx a0
            replace a1 := Keep.cell kx a1
            replace a2 := Keep.cell kx a2
            replace b0 := Keep.cell kx b0
            replace b1 := Keep.cell kx b1
            replace b2 := Keep.cell kx b2
            have k08 := Keep.tr kz kx
            clear kx hs2 kz
            go_wp2_with fail
            have kal := Keep.al (Keep.rf w8) (.cells #[.string (str a.op), .int .i64 a.n, .slice aA a.kids.length ac] 24)
            have hsl := sl_one (w := w8) (d := d + 1) (t := 24) (n := w8.heap.size) rfl (HA.out.keep (Keep.tr k08 kal))
            replace a0 := Keep.cell kal a0
            replace a1 := Keep.cell kal a1
            replace a2 := Keep.cell kal a2
            replace b0 := Keep.cell kal b0
            replace b1 := Keep.cell kal b1
            replace b2 := Keep.cell kal b2
            have ky := Keep.tr k08 kal
            clear kal
            generalize w8.heap.size = zw8 at *
            generalize World.alloc w8 _ = yw8 at *
            refine (refTy yw8 Em.wList _ _ _).mono ?_
            rintro e w9 ⟨rfl, kx⟩
            have hs2 := hsl.keep kx fun _ _ h => h.keep kx
            replace a0 := Keep.cell kx a0
            replace a1 := Keep.cell kx a1
            replace a2 := Keep.cell kx a2
            replace b0 := Keep.cell kx b0
            replace b1 := Keep.cell kx b1
            replace b2 := Keep.cell kx b2
            have kz := Keep.tr ky kx
            clear kx hsl ky
            go_wp2_with fail
            refine (typSent (.mk Em.wList 0 [a]) w9 _ ⟨d + 2, _, rfl, _, rfl, hnp, hs2⟩).mono ?_
            rintro e w10 ⟨rfl, kx⟩
            rw [HSL.out]
            replace a0 := Keep.cell kx a0
            replace a1 := Keep.cell kx a1
            replace a2 := Keep.cell kx a2
            replace b0 := Keep.cell kx b0
            replace b1 := Keep.cell kx b1
            replace b2 := Keep.cell kx b2
            have k10 := Keep.tr kz kx
            clear kx hs2 kz
            go_wp2_with fail
            have kal := Keep.al (Keep.rf w10) (.cells #[.string (str b.op), .int .i64 b.n, .slice bA b.kids.length bc] 24)
            have hsl := sl_one (w := w10) (d := d + 1) (t := 24) (n := w10.heap.size) rfl (HB.out.keep (Keep.tr k10 kal))
            replace a0 := Keep.cell kal a0
            replace a1 := Keep.cell kal a1
            replace a2 := Keep.cell kal a2
            replace b0 := Keep.cell kal b0
            replace b1 := Keep.cell kal b1
            replace b2 := Keep.cell kal b2
            have ky := Keep.tr k10 kal
            clear kal
            generalize w10.heap.size = zw10 at *
            generalize World.alloc w10 _ = yw10 at *
            refine (refTy yw10 Em.wRef _ _ _).mono ?_
            rintro e w11 ⟨rfl, kx⟩
            have hs2 := hsl.keep kx fun _ _ h => h.keep kx
            replace a0 := Keep.cell kx a0
            replace a1 := Keep.cell kx a1
            replace a2 := Keep.cell kx a2
            replace b0 := Keep.cell kx b0
            replace b1 := Keep.cell kx b1
            replace b2 := Keep.cell kx b2
            have kz := Keep.tr ky kx
            clear kx hsl ky
            go_wp2_with fail
            refine (typSent (.mk Em.wRef 0 [b]) w11 _ ⟨d + 2, _, rfl, _, rfl, hnp, hs2⟩).mono ?_
            rintro e w12 ⟨rfl, kx⟩
            rw [HSR.out]
            replace a0 := Keep.cell kx a0
            replace a1 := Keep.cell kx a1
            replace a2 := Keep.cell kx a2
            replace b0 := Keep.cell kx b0
            replace b1 := Keep.cell kx b1
            replace b2 := Keep.cell kx b2
            have k12 := Keep.tr kz kx
            clear kx hs2 kz
            go_wp2_with fail
            have kal := Keep.al (Keep.rf w12) (.cells #[.string (str a.op), .int .i64 a.n, .slice aA a.kids.length ac, .string (str b.op), .int .i64 b.n, .slice bA b.kids.length bc] 24)
            have hsl := sl_two (w := w12) (d := d + 1) (t := 24) (n := w12.heap.size) rfl (HA.out.keep (Keep.tr k12 kal)) (HB.out.keep (Keep.tr k12 kal))
            replace a0 := Keep.cell kal a0
            replace a1 := Keep.cell kal a1
            replace a2 := Keep.cell kal a2
            replace b0 := Keep.cell kal b0
            replace b1 := Keep.cell kal b1
            replace b2 := Keep.cell kal b2
            have ky := Keep.tr k12 kal
            clear kal
            generalize w12.heap.size = zw12 at *
            generalize World.alloc w12 _ = yw12 at *
            refine (refTy yw12 Em.wFun _ _ _).mono ?_
            rintro e w13 ⟨rfl, kx⟩
            have hs2 := hsl.keep kx fun _ _ h => h.keep kx
            replace a0 := Keep.cell kx a0
            replace a1 := Keep.cell kx a1
            replace a2 := Keep.cell kx a2
            replace b0 := Keep.cell kx b0
            replace b1 := Keep.cell kx b1
            replace b2 := Keep.cell kx b2
            have kz := Keep.tr ky kx
            clear kx hsl ky
            go_wp2_with fail
            refine (typSent (.mk Em.wFun 0 [a, b]) w13 _ ⟨d + 2, _, rfl, _, rfl, hnp, hs2⟩).mono ?_
            rintro e w14 ⟨rfl, kx⟩
            rw [HSF.out]
            replace a0 := Keep.cell kx a0
            replace a1 := Keep.cell kx a1
            replace a2 := Keep.cell kx a2
            replace b0 := Keep.cell kx b0
            replace b1 := Keep.cell kx b1
            replace b2 := Keep.cell kx b2
            have k14 := Keep.tr kz kx
            clear kx hs2 kz
            go_wp2_with fail
            refine (law8Known _ (HTN.out.keep k14)).mono ?_
            rintro e w15 ⟨rfl, k15⟩
            go_wp2_with fail
            go_ret
            exact ⟨rfl, Keep.tr k14 k15⟩
        | true =>
          cases sb with
          | false =>
            go_wp2_with fail
            have kal := Keep.al (Keep.rf W6) (.cells #[.string (str a.op), .int .i64 a.n, .slice aA a.kids.length ac, .string (str b.op), .int .i64 b.n, .slice bA b.kids.length bc] 24)
            have hsl := sl_two (w := W6) (d := d + 1) (t := 24) (n := W6.heap.size) rfl (HA.out.keep (Keep.tr k06 kal)) (HB.out.keep (Keep.tr k06 kal))
            replace a0 := Keep.cell kal a0
            replace a1 := Keep.cell kal a1
            replace a2 := Keep.cell kal a2
            replace b0 := Keep.cell kal b0
            replace b1 := Keep.cell kal b1
            replace b2 := Keep.cell kal b2
            have ky := Keep.tr k06 kal
            clear kal
            generalize W6.heap.size = zW6 at *
            generalize World.alloc W6 _ = yW6 at *
            refine (refTy yW6 Em.wPair _ _ _).mono ?_
            rintro e w7 ⟨rfl, kx⟩
            have hs2 := hsl.keep kx fun _ _ h => h.keep kx
            replace a0 := Keep.cell kx a0
            replace a1 := Keep.cell kx a1
            replace a2 := Keep.cell kx a2
            replace b0 := Keep.cell kx b0
            replace b1 := Keep.cell kx b1
            replace b2 := Keep.cell kx b2
            have kz := Keep.tr ky kx
            clear kx hsl ky
            go_wp2_with fail
            refine (typSent (.mk Em.wPair 0 [a, b]) w7 _ ⟨d + 2, _, rfl, _, rfl, hnp, hs2⟩).mono ?_
            rintro e w8 ⟨rfl, kx⟩
            rw [HSP.out]
            replace a0 := Keep.cell kx a0
            replace a1 := Keep.cell kx a1
            replace a2 := Keep.cell kx a2
            replace b0 := Keep.cell kx b0
            replace b1 := Keep.cell kx b1
            replace b2 := Keep.cell kx b2
            have k08 := Keep.tr kz kx
            clear kx hs2 kz
            go_wp2_with fail
            have kal := Keep.al (Keep.rf w8) (.cells #[.string (str a.op), .int .i64 a.n, .slice aA a.kids.length ac] 24)
            have hsl := sl_one (w := w8) (d := d + 1) (t := 24) (n := w8.heap.size) rfl (HA.out.keep (Keep.tr k08 kal))
            replace a0 := Keep.cell kal a0
            replace a1 := Keep.cell kal a1
            replace a2 := Keep.cell kal a2
            replace b0 := Keep.cell kal b0
            replace b1 := Keep.cell kal b1
            replace b2 := Keep.cell kal b2
            have ky := Keep.tr k08 kal
            clear kal
            generalize w8.heap.size = zw8 at *
            generalize World.alloc w8 _ = yw8 at *
            refine (refTy yw8 Em.wList _ _ _).mono ?_
            rintro e w9 ⟨rfl, kx⟩
            have hs2 := hsl.keep kx fun _ _ h => h.keep kx
            replace a0 := Keep.cell kx a0
            replace a1 := Keep.cell kx a1
            replace a2 := Keep.cell kx a2
            replace b0 := Keep.cell kx b0
            replace b1 := Keep.cell kx b1
            replace b2 := Keep.cell kx b2
            have kz := Keep.tr ky kx
            clear kx hsl ky
            go_wp2_with fail
            refine (typSent (.mk Em.wList 0 [a]) w9 _ ⟨d + 2, _, rfl, _, rfl, hnp, hs2⟩).mono ?_
            rintro e w10 ⟨rfl, kx⟩
            rw [HSL.out]
            replace a0 := Keep.cell kx a0
            replace a1 := Keep.cell kx a1
            replace a2 := Keep.cell kx a2
            replace b0 := Keep.cell kx b0
            replace b1 := Keep.cell kx b1
            replace b2 := Keep.cell kx b2
            have k10 := Keep.tr kz kx
            clear kx hs2 kz
            go_wp2_with fail
            have kal := Keep.al (Keep.rf w10) (.cells #[.string (str b.op), .int .i64 b.n, .slice bA b.kids.length bc] 24)
            have hsl := sl_one (w := w10) (d := d + 1) (t := 24) (n := w10.heap.size) rfl (HB.out.keep (Keep.tr k10 kal))
            replace a0 := Keep.cell kal a0
            replace a1 := Keep.cell kal a1
            replace a2 := Keep.cell kal a2
            replace b0 := Keep.cell kal b0
            replace b1 := Keep.cell kal b1
            replace b2 := Keep.cell kal b2
            have ky := Keep.tr k10 kal
            clear kal
            generalize w10.heap.size = zw10 at *
            generalize World.alloc w10 _ = yw10 at *
            refine (refTy yw10 Em.wRef _ _ _).mono ?_
            rintro e w11 ⟨rfl, kx⟩
            have hs2 := hsl.keep kx fun _ _ h => h.keep kx
            replace a0 := Keep.cell kx a0
            replace a1 := Keep.cell kx a1
            replace a2 := Keep.cell kx a2
            replace b0 := Keep.cell kx b0
            replace b1 := Keep.cell kx b1
            replace b2 := Keep.cell kx b2
            have kz := Keep.tr ky kx
            clear kx hsl ky
            go_wp2_with fail
            refine (typSent (.mk Em.wRef 0 [b]) w11 _ ⟨d + 2, _, rfl, _, rfl, hnp, hs2⟩).mono ?_
            rintro e w12 ⟨rfl, kx⟩
            rw [HSR.out]
            replace a0 := Keep.cell kx a0
            replace a1 := Keep.cell kx a1
            replace a2 := Keep.cell kx a2
            replace b0 := Keep.cell kx b0
            replace b1 := Keep.cell kx b1
            replace b2 := Keep.cell kx b2
            have k12 := Keep.tr kz kx
            clear kx hs2 kz
            go_wp2_with fail
            have kal := Keep.al (Keep.rf w12) (.cells #[.string (str a.op), .int .i64 a.n, .slice aA a.kids.length ac, .string (str b.op), .int .i64 b.n, .slice bA b.kids.length bc] 24)
            have hsl := sl_two (w := w12) (d := d + 1) (t := 24) (n := w12.heap.size) rfl (HA.out.keep (Keep.tr k12 kal)) (HB.out.keep (Keep.tr k12 kal))
            replace a0 := Keep.cell kal a0
            replace a1 := Keep.cell kal a1
            replace a2 := Keep.cell kal a2
            replace b0 := Keep.cell kal b0
            replace b1 := Keep.cell kal b1
            replace b2 := Keep.cell kal b2
            have ky := Keep.tr k12 kal
            clear kal
            generalize w12.heap.size = zw12 at *
            generalize World.alloc w12 _ = yw12 at *
            refine (refTy yw12 Em.wFun _ _ _).mono ?_
            rintro e w13 ⟨rfl, kx⟩
            have hs2 := hsl.keep kx fun _ _ h => h.keep kx
            replace a0 := Keep.cell kx a0
            replace a1 := Keep.cell kx a1
            replace a2 := Keep.cell kx a2
            replace b0 := Keep.cell kx b0
            replace b1 := Keep.cell kx b1
            replace b2 := Keep.cell kx b2
            have kz := Keep.tr ky kx
            clear kx hsl ky
            go_wp2_with fail
            refine (typSent (.mk Em.wFun 0 [a, b]) w13 _ ⟨d + 2, _, rfl, _, rfl, hnp, hs2⟩).mono ?_
            rintro e w14 ⟨rfl, kx⟩
            rw [HSF.out]
            replace a0 := Keep.cell kx a0
            replace a1 := Keep.cell kx a1
            replace a2 := Keep.cell kx a2
            replace b0 := Keep.cell kx b0
            replace b1 := Keep.cell kx b1
            replace b2 := Keep.cell kx b2
            have k14 := Keep.tr kz kx
            clear kx hs2 kz
            go_wp2_with fail
            refine (law8Known _ (HTN.out.keep k14)).mono ?_
            rintro e w15 ⟨rfl, k15⟩
            go_wp2_with fail
            go_ret
            exact ⟨rfl, Keep.tr k14 k15⟩
          | true =>
            go_wp2_with fail
            have kal := Keep.al (Keep.rf W6) (.cells #[.string (str a.op), .int .i64 a.n, .slice aA a.kids.length ac, .string (str b.op), .int .i64 b.n, .slice bA b.kids.length bc] 24)
            have hsl := sl_two (w := W6) (d := d + 1) (t := 24) (n := W6.heap.size) rfl (HA.out.keep (Keep.tr k06 kal)) (HB.out.keep (Keep.tr k06 kal))
            replace a0 := Keep.cell kal a0
            replace a1 := Keep.cell kal a1
            replace a2 := Keep.cell kal a2
            replace b0 := Keep.cell kal b0
            replace b1 := Keep.cell kal b1
            replace b2 := Keep.cell kal b2
            have ky := Keep.tr k06 kal
            clear kal
            generalize W6.heap.size = zW6 at *
            generalize World.alloc W6 _ = yW6 at *
            refine (refTy yW6 Em.wPair _ _ _).mono ?_
            rintro e w7 ⟨rfl, kx⟩
            have hs2 := hsl.keep kx fun _ _ h => h.keep kx
            replace a0 := Keep.cell kx a0
            replace a1 := Keep.cell kx a1
            replace a2 := Keep.cell kx a2
            replace b0 := Keep.cell kx b0
            replace b1 := Keep.cell kx b1
            replace b2 := Keep.cell kx b2
            have kz := Keep.tr ky kx
            clear kx hsl ky
            go_wp2_with fail
            refine (typSent (.mk Em.wPair 0 [a, b]) w7 _ ⟨d + 2, _, rfl, _, rfl, hnp, hs2⟩).mono ?_
            rintro e w8 ⟨rfl, kx⟩
            rw [HSP.out]
            replace a0 := Keep.cell kx a0
            replace a1 := Keep.cell kx a1
            replace a2 := Keep.cell kx a2
            replace b0 := Keep.cell kx b0
            replace b1 := Keep.cell kx b1
            replace b2 := Keep.cell kx b2
            have k08 := Keep.tr kz kx
            clear kx hs2 kz
            go_wp2_with fail
            have kal := Keep.al (Keep.rf w8) (.cells #[.string (str a.op), .int .i64 a.n, .slice aA a.kids.length ac] 24)
            have hsl := sl_one (w := w8) (d := d + 1) (t := 24) (n := w8.heap.size) rfl (HA.out.keep (Keep.tr k08 kal))
            replace a0 := Keep.cell kal a0
            replace a1 := Keep.cell kal a1
            replace a2 := Keep.cell kal a2
            replace b0 := Keep.cell kal b0
            replace b1 := Keep.cell kal b1
            replace b2 := Keep.cell kal b2
            have ky := Keep.tr k08 kal
            clear kal
            generalize w8.heap.size = zw8 at *
            generalize World.alloc w8 _ = yw8 at *
            refine (refTy yw8 Em.wList _ _ _).mono ?_
            rintro e w9 ⟨rfl, kx⟩
            have hs2 := hsl.keep kx fun _ _ h => h.keep kx
            replace a0 := Keep.cell kx a0
            replace a1 := Keep.cell kx a1
            replace a2 := Keep.cell kx a2
            replace b0 := Keep.cell kx b0
            replace b1 := Keep.cell kx b1
            replace b2 := Keep.cell kx b2
            have kz := Keep.tr ky kx
            clear kx hsl ky
            go_wp2_with fail
            refine (typSent (.mk Em.wList 0 [a]) w9 _ ⟨d + 2, _, rfl, _, rfl, hnp, hs2⟩).mono ?_
            rintro e w10 ⟨rfl, kx⟩
            rw [HSL.out]
            replace a0 := Keep.cell kx a0
            replace a1 := Keep.cell kx a1
            replace a2 := Keep.cell kx a2
            replace b0 := Keep.cell kx b0
            replace b1 := Keep.cell kx b1
            replace b2 := Keep.cell kx b2
            have k10 := Keep.tr kz kx
            clear kx hs2 kz
            go_wp2_with fail
            have kal := Keep.al (Keep.rf w10) (.cells #[.string (str b.op), .int .i64 b.n, .slice bA b.kids.length bc] 24)
            have hsl := sl_one (w := w10) (d := d + 1) (t := 24) (n := w10.heap.size) rfl (HB.out.keep (Keep.tr k10 kal))
            replace a0 := Keep.cell kal a0
            replace a1 := Keep.cell kal a1
            replace a2 := Keep.cell kal a2
            replace b0 := Keep.cell kal b0
            replace b1 := Keep.cell kal b1
            replace b2 := Keep.cell kal b2
            have ky := Keep.tr k10 kal
            clear kal
            generalize w10.heap.size = zw10 at *
            generalize World.alloc w10 _ = yw10 at *
            refine (refTy yw10 Em.wRef _ _ _).mono ?_
            rintro e w11 ⟨rfl, kx⟩
            have hs2 := hsl.keep kx fun _ _ h => h.keep kx
            replace a0 := Keep.cell kx a0
            replace a1 := Keep.cell kx a1
            replace a2 := Keep.cell kx a2
            replace b0 := Keep.cell kx b0
            replace b1 := Keep.cell kx b1
            replace b2 := Keep.cell kx b2
            have kz := Keep.tr ky kx
            clear kx hsl ky
            go_wp2_with fail
            refine (typSent (.mk Em.wRef 0 [b]) w11 _ ⟨d + 2, _, rfl, _, rfl, hnp, hs2⟩).mono ?_
            rintro e w12 ⟨rfl, kx⟩
            rw [HSR.out]
            replace a0 := Keep.cell kx a0
            replace a1 := Keep.cell kx a1
            replace a2 := Keep.cell kx a2
            replace b0 := Keep.cell kx b0
            replace b1 := Keep.cell kx b1
            replace b2 := Keep.cell kx b2
            have k12 := Keep.tr kz kx
            clear kx hs2 kz
            go_wp2_with fail
            have kal := Keep.al (Keep.rf w12) (.cells #[.string (str a.op), .int .i64 a.n, .slice aA a.kids.length ac, .string (str b.op), .int .i64 b.n, .slice bA b.kids.length bc] 24)
            have hsl := sl_two (w := w12) (d := d + 1) (t := 24) (n := w12.heap.size) rfl (HA.out.keep (Keep.tr k12 kal)) (HB.out.keep (Keep.tr k12 kal))
            replace a0 := Keep.cell kal a0
            replace a1 := Keep.cell kal a1
            replace a2 := Keep.cell kal a2
            replace b0 := Keep.cell kal b0
            replace b1 := Keep.cell kal b1
            replace b2 := Keep.cell kal b2
            have ky := Keep.tr k12 kal
            clear kal
            generalize w12.heap.size = zw12 at *
            generalize World.alloc w12 _ = yw12 at *
            refine (refTy yw12 Em.wFun _ _ _).mono ?_
            rintro e w13 ⟨rfl, kx⟩
            have hs2 := hsl.keep kx fun _ _ h => h.keep kx
            replace a0 := Keep.cell kx a0
            replace a1 := Keep.cell kx a1
            replace a2 := Keep.cell kx a2
            replace b0 := Keep.cell kx b0
            replace b1 := Keep.cell kx b1
            replace b2 := Keep.cell kx b2
            have kz := Keep.tr ky kx
            clear kx hsl ky
            go_wp2_with fail
            refine (typSent (.mk Em.wFun 0 [a, b]) w13 _ ⟨d + 2, _, rfl, _, rfl, hnp, hs2⟩).mono ?_
            rintro e w14 ⟨rfl, kx⟩
            rw [HSF.out]
            replace a0 := Keep.cell kx a0
            replace a1 := Keep.cell kx a1
            replace a2 := Keep.cell kx a2
            replace b0 := Keep.cell kx b0
            replace b1 := Keep.cell kx b1
            replace b2 := Keep.cell kx b2
            have k14 := Keep.tr kz kx
            clear kx hs2 kz
            go_wp2_with fail
            refine (law8Known _ (HTN.out.keep k14)).mono ?_
            rintro e w15 ⟨rfl, k15⟩
            go_wp2_with fail
            go_ret
            exact ⟨rfl, Keep.tr k14 k15⟩
end Go.Proofs.YtoippbbodhchkaaDoor
