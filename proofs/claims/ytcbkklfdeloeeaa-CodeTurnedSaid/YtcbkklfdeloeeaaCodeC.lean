/- Walk: a program's bytes (package code). -/
import Derived.Test.YtcbkklfdeloeeaaCodeB
import Derived.Test.YtcbkklfdeloeeaaVarZ
namespace Go.Proofs.Ytcbkklfdeloeeaa
open Go.RowKit
open Em (Prg)
set_option linter.unusedVariables false
set_option linter.unusedSimpArgs false
set_option maxRecDepth 100000
/-- Bytes of the call's own. -/
def OwnB (w0 : World) (l : List UInt8) (W : World) (v : Value) : Prop := ∃ A c, v = .slice A l.length c ∧ Obs W w0.heap.size (.slice A l.length c) l
theorem OwnB.keep {w0 W W' : World} {l : List UInt8} {v : Value} (h : OwnB w0 l W v) (k : Keep W W') : OwnB w0 l W' v := by
  obtain ⟨A, c, e, h⟩ := h
  exact ⟨A, c, e, h.keep k⟩
theorem OwnB.of {w0 W : World} {l : List UInt8} {v : Value} (h : Obs W w0.heap.size v l) : OwnB w0 l W v := by
  obtain ⟨A, c, rfl⟩ := own_slice (show W.ownsRow _ _ _ _ _ _ from h)
  exact ⟨A, c, rfl, h⟩
/-- Bytes of the call's own, and all else as it was. -/
def AccAt (w0 : World) (l : List UInt8) (W : World) (v : Value) : Prop := OwnB w0 l W v ∧ Keep w0 W
theorem AccAt.keep {w0 W W' : World} {l : List UInt8} {v : Value} (h : AccAt w0 l W v) (k : Keep W W') : AccAt w0 l W' v := ⟨h.1.keep k, Keep.tr h.2 k⟩
theorem AccAt.mk' {w0 Wb W : World} {l m : List UInt8} {n : Nat} {u v : Value} (k : Keep w0 Wb) (ho : Obs Wb w0.heap.size u l) (h : App Wb w0.heap.size 5 1 u n (l.map bv ++ m.map bv) v W) (hn : n = l.length + m.length) : AccAt w0 (l ++ m) W v :=
  ⟨OwnB.of (App.ob h hn), App.below h k k.size fun q hq => (World.ownsRow.lt (show Wb.ownsRow _ _ _ _ _ _ from ho) q hq).1⟩
theorem flatMap_len {α : Type} (f : α → List UInt8) (B : Nat) : ∀ (l : List α), (∀ x ∈ l, (f x).length ≤ B) → (l.flatMap f).length ≤ l.length * B
  | [], _ => by simp
  | x :: l, h => by
    have h1 := flatMap_len f B l fun y hy => h y (by simp [hy])
    have h2 := h x (by simp)
    rw [List.flatMap_cons, List.length_append, List.length_cons, Nat.succ_mul]
    omega
theorem putI_len (x : Int × Int) (h : In64 x.2) : (Em.putI x).length ≤ 11 := by
  have := Em.putN_len10 (Em.zig_lt h.1 h.2)
  rw [Em.putI, List.length_cons]
  split
  · omega
  · simp
theorem putF_len (f : List (Int × Int)) (h : f.length ≤ 4000) (hx : ∀ x ∈ f, In64 x.2) : (Em.putF f).length ≤ 44010 := by
  have h1 := flatMap_len Em.putI 11 f fun x hm => putI_len x (hx x hm)
  have h2 := Em.putN_len10 (v := f.length) (by omega)
  rw [Em.putF, List.length_append]
  omega
theorem putS_len (s : List UInt8) (h : s.length ≤ 2000) : (Em.putS s).length ≤ 2010 := by
  have h2 := Em.putN_len10 (v := s.length) (by omega)
  rw [Em.putS, List.length_append]
  omega
theorem flat_snoc {α : Type} (f : α → List UInt8) (l : List α) (j : Nat) (h : j < l.length) : (l.take (j + 1)).flatMap f = (l.take j).flatMap f ++ f l[j] := by
  rw [List.take_succ_eq_append_getElem h, List.flatMap_append]
  simp
set_option maxHeartbeats 16000000 in
theorem codeBytes (w : World) (cs : List Value) (p : Prg) (h : PrgK w cs p) (hx : PrgIn p) : Calls Try.prog 27 #[.agg cs.toArray] w (RetB w (Em.bytesP p)) := by
  have HM := hide fun W (k : Keep w W) => codeMay W cs p (h.keep k)
  obtain ⟨vf, vs, rfl, hwf, hf, hs⟩ := h
  obtain ⟨fA, fc, rfl, hfl, hfm, hfr⟩ := hf
  obtain ⟨sA, sc, rfl, hsl, hsm, hsr⟩ := hs
  cases hok : Em.okP p with
  | false =>
    have hb : Em.bytesP p = [] := by rw [Em.bytesP, hok]; rfl
    rw [hok] at HM
    rw [hb]
    clear hok hb
    go_enter Try.func27, Try.ntmps27
    go_wp2_with fail
    refine (HM.out _ (by repeat (first | exact Keep.rf _ | assumption | apply Keep.al | apply Keep.dr | apply Keep.dn))).mono ?_
    rintro e w1 ⟨rfl, k1⟩
    go_wp2_with fail
    go_ret
    exact ⟨_, rfl, Ob.nil _ _ _, Keep.tr (by repeat (first | exact Keep.rf _ | assumption | apply Keep.al | apply Keep.dr | apply Keep.dn)) k1⟩
  | true =>
    have hb : Em.bytesP p = Em.putP p := by rw [Em.bytesP, hok]; rfl
    have hok' := hok
    rw [hok] at HM
    rw [hb]
    simp only [Em.okP, Bool.and_eq_true, decide_eq_true_eq, List.all_eq_true] at hok'
    obtain ⟨⟨⟨⟨⟨h1, h2⟩, h3⟩, h4⟩, h5⟩, h6⟩ := hok'
    obtain ⟨dp, fs, ss⟩ := p
    have hx : ∀ f ∈ fs, ∀ x ∈ f, In64 x.2 := hx
    simp only at *
    obtain ⟨dn, rfl⟩ := Int.eq_ofNat_of_zero_le h1
    have hP : Em.putP ⟨(dn : Int), fs, ss⟩ = Em.putN dn ++ Em.putN ss.length ++ ss.flatMap Em.putS ++ Em.putN fs.length ++ fs.flatMap Em.putF := by rw [Em.putP]; rfl
    have HPP := hide hP
    have hl1 := Em.putN_len10 (v := dn) (by omega)
    have hl2 := Em.putN_len10 (v := ss.length) (by omega)
    have hl3 := Em.putN_len10 (v := fs.length) (by omega)
    have hS5 : ∀ s ∈ ss, s.length ≤ 2000 := fun s hs => by have := h5 s hs; simpa [Em.okS] using this
    have hF6 : ∀ f ∈ fs, f.length ≤ 4000 := fun f hf => by have := h6 f hf; simp only [Em.okF, Bool.and_eq_true, decide_eq_true_eq] at this; exact this.1
    have HS5 := hide hS5
    have HF6 := hide hF6
    have HX6 := hide hx
    clear hok hb hP h5 h6 h1 hS5 hF6
    go_enter Try.func27, Try.ntmps27
    go_wp2_with fail
    have hb1 := heap_alloc_new w (.cells #[.int .i64 (dn : Int), .slice fA fs.length fc, .slice sA ss.length sc] 36)
    have k0 : Keep w (w.alloc (.cells #[.int .i64 (dn : Int), .slice fA fs.length fc, .slice sA ss.length sc] 36)) := (by repeat (first | exact Keep.rf _ | assumption | apply Keep.al | apply Keep.dr | apply Keep.dn))
    generalize World.alloc w _ = W1 at *
    refine (HM.out _ k0).mono ?_
    rintro e w2 ⟨rfl, k1⟩
    have hb2 := (k1.frm fun _ => False).heap (fun h => h) hb1
    have t0 := top_cells hb2 0
    have t1 := top_cells hb2 1
    have t2 := top_cells hb2 2
    simp only [List.getElem?_toArray, List.getElem?_cons_succ, List.getElem?_cons_zero] at t0 t1 t2
    have k02 := Keep.tr k0 k1
    have T1 := hide t1
    clear hb1 hb2 HM k0 k1
    go_wp2_with fail
    apply region_all (by kernel_rfl) Keep AnyW krg ktg anyrf anytr anyk [some 13, some 14, some 15, some 16, some 17, some 18, some 19, some 20, some 3] [eqG _ , eqG _ , fun us W v => OwnB w2 (Em.putN dn) W v, eqG _ , eqG _ , eqG _ , fun us W v => OwnB w2 (Em.putN ss.length) W v, fun us W v => AccAt w2 (Em.putN dn ++ Em.putN ss.length) W v, fun us _ v => v = (us.getD 0 undef)] [⟨[], [], true, false, false⟩, ⟨[0], [], true, false, false⟩, ⟨[1], [], true, false, true⟩, ⟨[], [], true, false, false⟩, ⟨[3], [], true, false, false⟩, ⟨[4], [], true, false, false⟩, ⟨[5], [], true, false, true⟩, ⟨[2, 6], [], true, true, true⟩, ⟨[7], [], false, false, false⟩] [7, 8] (by kernel_rfl) (by kernel_rfl) 
    · refine ⟨?_, ?_, ?_, ?_, ?_, ?_, ?_, ?_, ?_, trivial⟩
      · (intro us W h9 hW hE hd hs K hK; obtain ⟨u0, u1, u2, u3, u4, u5, u6, u7, u8, rfl⟩ := rog 9 h9 rfl; clear h9; clear hd; clear hs; simp only [fillG, List.set_cons_zero, List.set_cons_succ]; refine want_n rfl ?_; go_wp2_with (first | fail); simp only [DoneG, fillG, List.set_cons_zero, List.set_cons_succ, relG, eqG, eqG1, eqG2, eqG3, gdG, gdG1, gnG, gnG1, List.getD_cons_zero, List.getD_cons_succ, List.getElem?_cons_succ, List.getElem?_cons_zero, Option.map_some, Option.getD_some, valsG, List.map_cons, List.map_nil, List.length_cons, List.length_nil]; exact ⟨_, rfl, (by first | with_reducible assumption | exact krg _ | exact Keep.al (krg _) _), fun _ _ => rfl⟩)
      · (intro us W h9 hW hE hd hs K hK; obtain ⟨u0, u1, u2, u3, u4, u5, u6, u7, u8, rfl⟩ := rog 9 h9 rfl; clear h9; simp only [DepG, AtG, and_true, relG, eqG, eqG1, eqG2, eqG3, gdG, gdG1, gnG, gnG1, List.getD_cons_zero, List.getD_cons_succ, List.getElem?_cons_succ, List.getElem?_cons_zero, Option.map_some, Option.getD_some, valsG, List.map_cons, List.map_nil, List.length_cons, List.length_nil] at hd; have d0 := hd; clear hd; subst d0; clear hs; simp only [fillG, List.set_cons_zero, List.set_cons_succ]; have hKW := Keep.tr (Keep.dr (Keep.rf _)) (hE rfl); have t0 := Keep.cell hKW t0; have t2 := Keep.cell hKW t2; refine want_n rfl ?_; go_wp2_with (first | fail); simp only [DoneG, fillG, List.set_cons_zero, List.set_cons_succ, relG, eqG, eqG1, eqG2, eqG3, gdG, gdG1, gnG, gnG1, List.getD_cons_zero, List.getD_cons_succ, List.getElem?_cons_succ, List.getElem?_cons_zero, Option.map_some, Option.getD_some, valsG, List.map_cons, List.map_nil, List.length_cons, List.length_nil]; exact ⟨_, rfl, (by first | with_reducible assumption | exact krg _ | exact Keep.al (krg _) _), fun _ _ => rfl⟩)
      · (intro us W h9 hW hE hd hs K hK; obtain ⟨u0, u1, u2, u3, u4, u5, u6, u7, u8, rfl⟩ := rog 9 h9 rfl; clear h9; simp only [DepG, AtG, and_true, relG, eqG, eqG1, eqG2, eqG3, gdG, gdG1, gnG, gnG1, List.getD_cons_zero, List.getD_cons_succ, List.getElem?_cons_succ, List.getElem?_cons_zero, Option.map_some, Option.getD_some, valsG, List.map_cons, List.map_nil, List.length_cons, List.length_nil] at hd; have d1 := hd; clear hd; subst d1; clear hs; simp only [fillG, List.set_cons_zero, List.set_cons_succ]; have hKW := Keep.tr (Keep.dr (Keep.rf _)) (hE rfl); have t0 := Keep.cell hKW t0; have t2 := Keep.cell hKW t2; refine want_n rfl ?_; go_wp2_with (first | (go_at_call 71; refine (codeCount dn (by omega) _).mono ?_; rintro e w9 ⟨v9, rfl, o9, hk9⟩) | fail); simp only [DoneG, fillG, List.set_cons_zero, List.set_cons_succ, relG, eqG, eqG1, eqG2, eqG3, gdG, gdG1, gnG, gnG1, List.getD_cons_zero, List.getD_cons_succ, List.getElem?_cons_succ, List.getElem?_cons_zero, Option.map_some, Option.getD_some, valsG, List.map_cons, List.map_nil, List.length_cons, List.length_nil]; exact ⟨_, rfl, (by first | with_reducible assumption | exact krg _ | exact Keep.al (krg _) _), fun W9 hk9 => (OwnB.of (Ob.lower o9 (Below.size hKW))).keep hk9⟩)
      · (intro us W h9 hW hE hd hs K hK; obtain ⟨u0, u1, u2, u3, u4, u5, u6, u7, u8, rfl⟩ := rog 9 h9 rfl; clear h9; clear hd; clear hs; simp only [fillG, List.set_cons_zero, List.set_cons_succ]; refine want_n rfl ?_; go_wp2_with (first | fail); simp only [DoneG, fillG, List.set_cons_zero, List.set_cons_succ, relG, eqG, eqG1, eqG2, eqG3, gdG, gdG1, gnG, gnG1, List.getD_cons_zero, List.getD_cons_succ, List.getElem?_cons_succ, List.getElem?_cons_zero, Option.map_some, Option.getD_some, valsG, List.map_cons, List.map_nil, List.length_cons, List.length_nil]; exact ⟨_, rfl, (by first | with_reducible assumption | exact krg _ | exact Keep.al (krg _) _), fun _ _ => rfl⟩)
      · (intro us W h9 hW hE hd hs K hK; obtain ⟨u0, u1, u2, u3, u4, u5, u6, u7, u8, rfl⟩ := rog 9 h9 rfl; clear h9; simp only [DepG, AtG, and_true, relG, eqG, eqG1, eqG2, eqG3, gdG, gdG1, gnG, gnG1, List.getD_cons_zero, List.getD_cons_succ, List.getElem?_cons_succ, List.getElem?_cons_zero, Option.map_some, Option.getD_some, valsG, List.map_cons, List.map_nil, List.length_cons, List.length_nil] at hd; have d3 := hd; clear hd; subst d3; clear hs; simp only [fillG, List.set_cons_zero, List.set_cons_succ]; have hKW := Keep.tr (Keep.dr (Keep.rf _)) (hE rfl); have t0 := Keep.cell hKW t0; have t2 := Keep.cell hKW t2; refine want_n rfl ?_; go_wp2_with (first | fail); simp only [DoneG, fillG, List.set_cons_zero, List.set_cons_succ, relG, eqG, eqG1, eqG2, eqG3, gdG, gdG1, gnG, gnG1, List.getD_cons_zero, List.getD_cons_succ, List.getElem?_cons_succ, List.getElem?_cons_zero, Option.map_some, Option.getD_some, valsG, List.map_cons, List.map_nil, List.length_cons, List.length_nil]; exact ⟨_, rfl, (by first | with_reducible assumption | exact krg _ | exact Keep.al (krg _) _), fun _ _ => rfl⟩)
      · (intro us W h9 hW hE hd hs K hK; obtain ⟨u0, u1, u2, u3, u4, u5, u6, u7, u8, rfl⟩ := rog 9 h9 rfl; clear h9; simp only [DepG, AtG, and_true, relG, eqG, eqG1, eqG2, eqG3, gdG, gdG1, gnG, gnG1, List.getD_cons_zero, List.getD_cons_succ, List.getElem?_cons_succ, List.getElem?_cons_zero, Option.map_some, Option.getD_some, valsG, List.map_cons, List.map_nil, List.length_cons, List.length_nil] at hd; have d4 := hd; clear hd; subst d4; clear hs; simp only [fillG, List.set_cons_zero, List.set_cons_succ]; have hKW := Keep.tr (Keep.dr (Keep.rf _)) (hE rfl); have t0 := Keep.cell hKW t0; have t2 := Keep.cell hKW t2; refine want_n rfl ?_; go_wp2_with (first | fail); simp only [DoneG, fillG, List.set_cons_zero, List.set_cons_succ, relG, eqG, eqG1, eqG2, eqG3, gdG, gdG1, gnG, gnG1, List.getD_cons_zero, List.getD_cons_succ, List.getElem?_cons_succ, List.getElem?_cons_zero, Option.map_some, Option.getD_some, valsG, List.map_cons, List.map_nil, List.length_cons, List.length_nil]; exact ⟨_, rfl, (by first | with_reducible assumption | exact krg _ | exact Keep.al (krg _) _), fun _ _ => rfl⟩)
      · (intro us W h9 hW hE hd hs K hK; obtain ⟨u0, u1, u2, u3, u4, u5, u6, u7, u8, rfl⟩ := rog 9 h9 rfl; clear h9; simp only [DepG, AtG, and_true, relG, eqG, eqG1, eqG2, eqG3, gdG, gdG1, gnG, gnG1, List.getD_cons_zero, List.getD_cons_succ, List.getElem?_cons_succ, List.getElem?_cons_zero, Option.map_some, Option.getD_some, valsG, List.map_cons, List.map_nil, List.length_cons, List.length_nil] at hd; have d5 := hd; clear hd; subst d5; clear hs; simp only [fillG, List.set_cons_zero, List.set_cons_succ]; have hKW := Keep.tr (Keep.dr (Keep.rf _)) (hE rfl); have t0 := Keep.cell hKW t0; have t2 := Keep.cell hKW t2; refine want_n rfl ?_; go_wp2_with (first | (go_at_call 71; refine (codeCount ss.length (by omega) _).mono ?_; rintro e w9 ⟨v9, rfl, o9, hk9⟩) | fail); simp only [DoneG, fillG, List.set_cons_zero, List.set_cons_succ, relG, eqG, eqG1, eqG2, eqG3, gdG, gdG1, gnG, gnG1, List.getD_cons_zero, List.getD_cons_succ, List.getElem?_cons_succ, List.getElem?_cons_zero, Option.map_some, Option.getD_some, valsG, List.map_cons, List.map_nil, List.length_cons, List.length_nil]; exact ⟨_, rfl, (by first | with_reducible assumption | exact krg _ | exact Keep.al (krg _) _), fun W9 hk9 => (OwnB.of (Ob.lower o9 (Below.size hKW))).keep hk9⟩)
      · (intro us W h9 hW hE hd hs K hK; obtain ⟨u0, u1, u2, u3, u4, u5, u6, u7, u8, rfl⟩ := rog 9 h9 rfl; clear h9; simp only [DepG, AtG, and_true, relG, eqG, eqG1, eqG2, eqG3, gdG, gdG1, gnG, gnG1, List.getD_cons_zero, List.getD_cons_succ, List.getElem?_cons_succ, List.getElem?_cons_zero, Option.map_some, Option.getD_some, valsG, List.map_cons, List.map_nil, List.length_cons, List.length_nil] at hd; obtain ⟨d2, d6⟩ := hd; obtain ⟨A2, c2, rfl, o2⟩ := d2; obtain ⟨A6, c6, rfl, o6⟩ := d6; clear hs; simp only [fillG, List.set_cons_zero, List.set_cons_succ]; have hKW := Keep.tr (Keep.dr (Keep.rf _)) (hE rfl); have t0 := Keep.cell hKW t0; have t2 := Keep.cell hKW t2; refine want_n rfl ?_; refine wp_app (.tmp 15) (.tmp 19) 29 rfl w2.heap.size 5 _ 1 1 Try.underlying29 infoU8 rfl (by omega) _ (Em.putN dn).length _ rfl (show World.ownsRow _ _ _ _ _ _ _ from o2) _ (Em.putN ss.length).length _ rfl (Bs.src o6.bs) (fun u hu => bv_one u _ hu) (by simp only [maxLen]; omega) (by omega) (Below.size hKW) ?_; intro v12 w12 ha; refine hK _ _ ?_; simp only [DoneG, fillG, List.set_cons_zero, List.set_cons_succ, relG, eqG, eqG1, eqG2, eqG3, gdG, gdG1, gnG, gnG1, List.getD_cons_zero, List.getD_cons_succ, List.getElem?_cons_succ, List.getElem?_cons_zero, Option.map_some, Option.getD_some, valsG, List.map_cons, List.map_nil, List.length_cons, List.length_nil]; exact ⟨_, rfl, (by first | with_reducible assumption | exact trivial), fun W9 hk9 => (AccAt.mk' hKW o2 ha rfl).keep hk9⟩)
      · (intro us W h9 hW hE hd hs K hK; obtain ⟨u0, u1, u2, u3, u4, u5, u6, u7, u8, rfl⟩ := rog 9 h9 rfl; clear h9; simp only [DepG, AtG, and_true, relG, eqG, eqG1, eqG2, eqG3, gdG, gdG1, gnG, gnG1, List.getD_cons_zero, List.getD_cons_succ, List.getElem?_cons_succ, List.getElem?_cons_zero, Option.map_some, Option.getD_some, valsG, List.map_cons, List.map_nil, List.length_cons, List.length_nil] at hd; have d7 := hd; clear hd; clear hs; simp only [fillG, List.set_cons_zero, List.set_cons_succ]; refine want_n rfl ?_; go_wp2_with (first | fail); simp only [DoneG, fillG, List.set_cons_zero, List.set_cons_succ, relG, eqG, eqG1, eqG2, eqG3, gdG, gdG1, gnG, gnG1, List.getD_cons_zero, List.getD_cons_succ, List.getElem?_cons_succ, List.getElem?_cons_zero, Option.map_some, Option.getD_some, valsG, List.map_cons, List.map_nil, List.length_cons, List.length_nil]; exact ⟨_, rfl, (by first | with_reducible assumption | exact krg _ | exact Keep.al (krg _) _), fun _ _ => rfl⟩)
    (intro us W3 h9 hW hE hA; obtain ⟨u0, u1, u2, u3, u4, u5, u6, u7, u8, rfl⟩ := rog 9 h9 rfl; clear h9; simp only [AllG, AtG, and_true, relG, eqG, eqG1, eqG2, eqG3, gdG, gdG1, gnG, gnG1, List.getD_cons_zero, List.getD_cons_succ, List.getElem?_cons_succ, List.getElem?_cons_zero, Option.map_some, Option.getD_some, valsG, List.map_cons, List.map_nil, List.length_cons, List.length_nil] at hA; obtain ⟨d7, d8⟩ := hA; subst d8; simp only [fillG, List.set_cons_zero, List.set_cons_succ])
    obtain ⟨⟨A7, c7, rfl, o7⟩, k7⟩ := d7
    replace t0 := Keep.cell k7 t0
    replace t1 := Keep.cell k7 t1
    replace t2 := Keep.cell k7 t2
    have HO7 := hide (show AccAt w2 (Em.putN dn ++ Em.putN ss.length) W3 _ from ⟨⟨A7, c7, rfl, o7⟩, k7⟩)
    have hdl : (Em.putN dn ++ Em.putN ss.length).length ≤ 20 := by rw [List.length_append]; omega
    clear hW hE o7
    generalize hhd : Em.putN dn ++ Em.putN ss.length = hd at *
    have HHD := hide hhd
    clear hhd
    go_wp2_with fail
    go_loopw [3, 24] (fun v i W => ∃ (j : Nat), i = .int .i64 j ∧ j ≤ ss.length ∧ AccAt w2 (hd ++ (ss.take j).flatMap Em.putS) W v) (fun _ i _ => ss.length - (intOf i).toNat)
    case atStart => exact ⟨0, rfl, by omega, by simpa using HO7.out⟩
    case round =>
      clear HO7
      obtain ⟨j, rfl, hj, ⟨vA, vc, rfl, ho⟩, hk⟩ := hrel
      have HO := hide ho
      have k0w := Keep.tr k02 hk
      have t1j := Keep.cell hk T1.out
      clear ho
      have hla := flatMap_len Em.putS 2010 (ss.take j) fun s hs => putS_len s (HS5.out s (List.mem_of_mem_take hs))
      have hlt0 : (ss.take j).length ≤ 2000 := by rw [List.length_take]; omega
      have hla2 : ((ss.take j).flatMap Em.putS).length ≤ 4020000 := Nat.le_trans hla (by omega)
      have hL : (hd ++ (ss.take j).flatMap Em.putS).length ≤ 4020020 := by simp only [List.length_append]; omega
      have HLL := hide hL
      have HFL := hide (flat_snoc Em.putS ss j)
      generalize hacc : hd ++ (ss.take j).flatMap Em.putS = acc at *
      have HACC := hide hacc
      clear hacc hla hla2 hlt0 hL
      by_cases hlt : j < ss.length
      · have hlti : decide ((j : Int) < (ss.length : Int)) = true := decide_eq_true (by omega)
        obtain ⟨ad, rfl, hcell⟩ := hsr (by omega)
        obtain ⟨cs, hcs, hcl, hkt⟩ := hcell j hlt
        have hkt : cs = [.string (str ss[j])] := hkt
        subst hkt
        have c0 := Keep.cell k0w (hcl 0 _ rfl)
        rw [Nat.add_zero, Nat.mul_one] at c0
        have hsl5 := HS5.out ss[j] (List.getElem_mem hlt)
        have HFL2 := hide (HFL.out hlt)
        generalize ss[j] = sj at *
        have hz := str_size sj
        have HC := hide fun W => codeCount sj.length (by omega) W
        have hl4 := Em.putN_len10 (v := sj.length) (by omega)
        clear hcell hcl hsr HFL
        go_wp2_with fail
        refine (HC.out _).mono ?_
        rintro e w4 ⟨v4, rfl, o4, k4⟩
        obtain ⟨A4, c4, rfl⟩ := own_slice (show w4.ownsRow _ _ _ _ _ _ from o4)
        have hb4 := o4.bs
        have HO4 := hide (HO.out.keep k4)
        have HB4 := hide hb4
        have hk4 := Keep.tr hk k4
        clear o4 hb4
        go_wp2_with (first
          | (at_builtin; refine appB (w0 := w2) rfl (.tmp 28) (.tmp 31) rfl _ acc rfl HO4.out _ (Em.putN sj.length) rfl HB4.out hk4 (by have := HLL.out; omega) ?_; intro v5 w5 ho5 hk5 _ _; have HO5 := hide ho5; clear ho5)
          | (at_builtin; refine appT (w0 := w2) rfl (.tmp 32) (.tmp 33) rfl _ (acc ++ Em.putN sj.length) rfl HO5.out sj rfl hk5 (by have := HLL.out; simp only [List.length_append]; omega) ?_; intro v6 w6 ho6 hk6; have HO6 := hide ho6; clear ho6)
          | fail)
        go_roundw
        case rel => exact ⟨j + 1, by go_num, by omega, by
          rw [HFL2.out, ← List.append_assoc, HACC.out]
          exact ⟨OwnB.of (by have := HO6.out; rwa [List.append_assoc] at this), hk6⟩⟩
        case measure => simp [intOf]; omega
      · have hlti : decide ((j : Int) < (ss.length : Int)) = false := decide_eq_false (by omega)
        have hac2 : hd ++ ss.flatMap Em.putS = acc := by rw [← HACC.out, List.take_of_length_le (by omega)]
        have HC := hide fun W => codeCount fs.length (by omega) W
        have HAC2 := hide hac2
        clear hac2 hsr HFL HACC
        go_wp2_with fail
        refine (HC.out _).mono ?_
        rintro e w4 ⟨v4, rfl, o4, k4⟩
        obtain ⟨A4, c4, rfl⟩ := own_slice (show w4.ownsRow _ _ _ _ _ _ from o4)
        have hb4 := o4.bs
        have HO4 := hide (HO.out.keep k4)
        have HB4 := hide hb4
        have hk4 := Keep.tr hk k4
        have t14 := Keep.cell k4 t1j
        clear o4 hb4
        go_wp2_with (first
          | (at_builtin; refine appB (w0 := w2) rfl (.tmp 36) (.tmp 40) rfl _ acc rfl HO4.out _ (Em.putN fs.length) rfl HB4.out hk4 (by have := HLL.out; omega) ?_; intro v5 w5 ho5 hk5 _ _; have HO5 := hide ho5; have t15 := Keep.cell hk5 T1.out; clear ho5)
          | fail)
        have hacc2 : Em.putP ⟨(dn : Int), fs, ss⟩ = acc ++ Em.putN fs.length ++ fs.flatMap Em.putF := by rw [HPP.out, HAC2.out]
        have hll2 : (acc ++ Em.putN fs.length).length ≤ 4020030 := by have := HLL.out; rw [List.length_append]; omega
        generalize acc ++ Em.putN fs.length = acc2 at *
        have HACC2 := hide hacc2
        have HLL2 := hide hll2
        clear hacc2 hll2 t14 t1j
        go_loopw [3, 45] (fun v i W => ∃ (j : Nat), i = .int .i64 j ∧ j ≤ fs.length ∧ AccAt w2 (acc2 ++ (fs.take j).flatMap Em.putF) W v) (fun _ i _ => fs.length - (intOf i).toNat)
        case atStart => exact ⟨0, rfl, by omega, ⟨OwnB.of (by simpa using HO5.out), hk5⟩⟩
        case round =>
          clear HO5 hk5 HO4 HB4 hk4 t15
          obtain ⟨j2, rfl, hj2, ⟨vA2, vc2, rfl, ho2⟩, hk2⟩ := hrel
          have HO2 := hide ho2
          have k0w2 := Keep.tr k02 hk2
          clear ho2
          have hla := flatMap_len Em.putF 44010 (fs.take j2) fun f hf => putF_len f (HF6.out f (List.mem_of_mem_take hf)) (HX6.out f (List.mem_of_mem_take hf))
          have hlt0 : (fs.take j2).length ≤ 200 := by rw [List.length_take]; omega
          have hla2 : ((fs.take j2).flatMap Em.putF).length ≤ 8802000 := Nat.le_trans hla (by omega)
          have hL : (acc2 ++ (fs.take j2).flatMap Em.putF).length ≤ 12822030 := by have := HLL2.out; simp only [List.length_append]; omega
          have HLL3 := hide hL
          have HFL := hide (flat_snoc Em.putF fs j2)
          generalize hacc : acc2 ++ (fs.take j2).flatMap Em.putF = acc3 at *
          have HACC := hide hacc
          clear hacc hla hla2 hlt0 hL
          by_cases hlt2 : j2 < fs.length
          · have hlti2 : decide ((j2 : Int) < (fs.length : Int)) = true := decide_eq_true (by omega)
            obtain ⟨ad, rfl, hcell⟩ := hfr (by omega)
            obtain ⟨cs, hcs, hcl, u, rfl, hu⟩ := hcell j2 hlt2
            have c0 := Keep.cell k0w2 (hcl 0 _ rfl)
            rw [Nat.add_zero, Nat.mul_one] at c0
            have hfl6 := HF6.out fs[j2] (List.getElem_mem hlt2)
            have HFX := hide (HX6.out fs[j2] (List.getElem_mem hlt2))
            have HFL2 := hide (HFL.out hlt2)
            generalize fs[j2] = fj at *
            obtain ⟨uA, uc, rfl, hul, hum, hur⟩ := hu
            have HC2 := hide fun W => codeCount fj.length (by omega) W
            have hl4 := Em.putN_len10 (v := fj.length) (by omega)
            clear hcell hcl hfr HFL
            go_wp2_with fail
            refine (HC2.out _).mono ?_
            rintro e w4 ⟨v4, rfl, o4, k4⟩
            obtain ⟨A4, c4, rfl⟩ := own_slice (show w4.ownsRow _ _ _ _ _ _ from o4)
            have hb4 := o4.bs
            have HO4 := hide (HO2.out.keep k4)
            have HB4 := hide hb4
            have hk4 := Keep.tr hk2 k4
            clear o4 hb4
            go_wp2_with (first
              | (at_builtin; refine appB (w0 := w2) rfl (.tmp 49) (.tmp 52) rfl _ acc3 rfl HO4.out _ (Em.putN fj.length) rfl HB4.out hk4 (by have := HLL3.out; omega) ?_; intro v5 w5 ho5 hk5 _ _; have HO5 := hide ho5; clear ho5)
              | fail)
            have hacc4 : acc2 ++ (fs.take (j2 + 1)).flatMap Em.putF = acc3 ++ Em.putN fj.length ++ fj.flatMap Em.putI := by rw [HFL2.out, ← List.append_assoc, HACC.out, Em.putF, List.append_assoc]
            have hll4 : (acc3 ++ Em.putN fj.length).length ≤ 12822040 := by have := HLL3.out; rw [List.length_append]; omega
            generalize acc3 ++ Em.putN fj.length = acc4 at *
            have HACC4 := hide hacc4
            have HLL4 := hide hll4
            clear hacc4 hll4 HO4 HB4 hk4
            go_loopw [3, 56] (fun v i W => ∃ (m : Nat), i = .int .i64 m ∧ m ≤ fj.length ∧ AccAt w2 (acc4 ++ (fj.take m).flatMap Em.putI) W v) (fun _ i _ => fj.length - (intOf i).toNat)
            case atStart => exact ⟨0, rfl, by omega, ⟨OwnB.of (by simpa using HO5.out), hk5⟩⟩
            case round =>
              clear HO5 hk5
              obtain ⟨m, rfl, hm, ⟨vA3, vc3, rfl, ho3⟩, hk3⟩ := hrel
              have HO3 := hide ho3
              have k0w3 := Keep.tr k02 hk3
              clear ho3
              have hla := flatMap_len Em.putI 11 (fj.take m) fun x hx => putI_len x (HFX.out x (List.mem_of_mem_take hx))
              have hlt0 : (fj.take m).length ≤ 4000 := by rw [List.length_take]; omega
              have hL : (acc4 ++ (fj.take m).flatMap Em.putI).length ≤ 12866040 := by have := HLL4.out; simp only [List.length_append]; omega
              have HLL5 := hide hL
              have HFL := hide (flat_snoc Em.putI fj m)
              generalize hacc : acc4 ++ (fj.take m).flatMap Em.putI = acc5 at *
              have HACC5 := hide hacc
              clear hacc hla hlt0 hL
              by_cases hlt3 : m < fj.length
              · have hlti3 : decide ((m : Int) < (fj.length : Int)) = true := decide_eq_true (by omega)
                obtain ⟨ad, rfl, hcell⟩ := hur (by omega)
                obtain ⟨cs, hcs, hcl, rfl, hw1, hw2⟩ := hcell m hlt3
                have c0 := Keep.cell k0w3 (hcl 0 _ rfl)
                rw [Nat.add_zero] at c0
                have c1 := cell_off (Keep.cell k0w3 (hcl 1 _ rfl))
                have HFL3 := hide (HFL.out hlt3)
                generalize fj[m] = x at *
                obtain ⟨o, n⟩ := x
                simp only at c0 c1 hw1 hw2
                have hnb := in_i64 hw2
                have HZ := hide fun W => varZig n hnb.1 hnb.2 W
                have HZP := hide fun W => varPut (Em.zig n) (Em.zig_lt hnb.1 hnb.2) W
                have hl5 := Em.putN_len10 (Em.zig_lt hnb.1 hnb.2)
                have hlo := World.ownsRow.lt (show wr.ownsRow _ _ _ _ _ _ from HO3.out)
                have HH := hide fun W => codeHasN o W
                have hpI : Em.putI (o, n) = [UInt8.ofNat (o % 256).toNat] ++ (if Em.hasN o then Em.putN (Em.zig n) else []) := rfl
                have HPI := hide hpI
                clear hcell hcl hur HFL hpI
                have hBX : Bs ((wr.alloc (.cells #[.int .i64 o, .int .i64 n] 91)).alloc (.cells #[.int .u8 (o % 256)] 5)) (.slice (some ⟨wr.heap.size + 1, 0, none⟩) 1 1) [UInt8.ofNat (o % 256).toNat] := Bs.box (u8n o) (by simp)
                have HBX := hide hBX
                have hk6 : Keep w2 ((wr.alloc (.cells #[.int .i64 o, .int .i64 n] 91)).alloc (.cells #[.int .u8 (o % 256)] 5)) := Keep.tr hk3 (by repeat (first | exact Keep.rf _ | assumption | apply Keep.al | apply Keep.dr | apply Keep.dn))
                have HO6 := hide (HO3.out.keep (show Keep wr ((wr.alloc (.cells #[.int .i64 o, .int .i64 n] 91)).alloc (.cells #[.int .u8 (o % 256)] 5)) from (by repeat (first | exact Keep.rf _ | assumption | apply Keep.al | apply Keep.dr | apply Keep.dn))))
                have b0 : ((wr.alloc (.cells #[.int .i64 o, .int .i64 n] 91)).alloc (.cells #[.int .u8 (o % 256)] 5)).cell? ⟨wr.heap.size, 0, none⟩ = some (.int .i64 o) := Keep.cell (Keep.al (Keep.rf _) _) (lit_cells rfl _ rfl)
                have b1 : ((wr.alloc (.cells #[.int .i64 o, .int .i64 n] 91)).alloc (.cells #[.int .u8 (o % 256)] 5)).cell? ⟨wr.heap.size, 1, none⟩ = some (.int .i64 n) := Keep.cell (Keep.al (Keep.rf _) _) (lit_cells rfl _ rfl)
                have hnb9 : ¬ (Value.slice vA3 acc5.length vc3).ownBlock = some wr.heap.size := fun e => Nat.lt_irrefl _ (hlo _ e).2
                clear hBX
                go_wp2_with (first
                  | (at_builtin; refine appB (w0 := w2) rfl (.tmp 60) (.tmp 64) rfl _ acc5 rfl HO6.out _ [UInt8.ofNat (o % 256).toNat] rfl HBX.out hk6 (by have := HLL5.out; simp only [List.length_singleton]; omega) ?_; intro v7 w7 ho7 hk7 hg7 _; have HO7 := hide ho7; have d0 := (Frm.of_grown hg7 (S := fun k => (Value.slice vA3 acc5.length vc3).ownBlock = some k) fun _ e => e).cell (a := ⟨wr.heap.size, 0, none⟩) hnb9 b0; have d1 := (Frm.of_grown hg7 (S := fun k => (Value.slice vA3 acc5.length vc3).ownBlock = some k) fun _ e => e).cell (a := ⟨wr.heap.size, 1, none⟩) hnb9 b1; clear ho7 hg7)
                  | fail)
                refine (HH.out _).mono ?_
                rintro e w8 ⟨rfl, rfl⟩
                cases hN : Em.hasN o with
                | true =>
                  rw [hN] at HPI
                  simp only [if_true] at HPI
                  clear hN
                  go_wp2_with fail
                  refine (HZ.out _).mono ?_
                  rintro e w8 ⟨rfl, rfl⟩
                  go_wp2_with fail
                  refine (HZP.out _).mono ?_
                  rintro e w9 ⟨v9, rfl, o9, k9⟩
                  obtain ⟨A9, c9, rfl⟩ := own_slice (show w9.ownsRow _ _ _ _ _ _ from o9)
                  have HB9 := hide o9.bs
                  have HO9 := hide (HO7.out.keep k9)
                  have hk9 := Keep.tr hk7 k9
                  clear o9
                  go_wp2_with (first
                    | (at_builtin; refine appB (w0 := w2) rfl (.tmp 69) (.tmp 73) rfl _ (acc5 ++ [UInt8.ofNat (o % 256).toNat]) rfl HO9.out _ (Em.putN (Em.zig n)) rfl HB9.out hk9 (by have := HLL5.out; simp only [List.length_append, List.length_singleton]; omega) ?_; intro v10 w10 ho10 hk10 _ _; have HO10 := hide ho10; clear ho10)
                    | fail)
                  go_roundw
                  case rel => exact ⟨m + 1, by go_num, by omega, by
                    rw [HFL3.out, ← List.append_assoc, HACC5.out, HPI.out, ← List.append_assoc]
                    exact ⟨OwnB.of HO10.out, hk10⟩⟩
                  case measure => simp [intOf]; omega
                | false =>
                  rw [hN] at HPI
                  have hpi2 : Em.putI (o, n) = [UInt8.ofNat (o % 256).toNat] := by rw [HPI.out]; rfl
                  have HPI2 := hide hpi2
                  clear hN hpi2
                  go_wp2_with fail
                  go_roundw
                  case rel => exact ⟨m + 1, by go_num, by omega, by
                    rw [HFL3.out, ← List.append_assoc, HACC5.out, HPI2.out]
                    exact ⟨OwnB.of HO7.out, hk7⟩⟩
                  case measure => simp [intOf]; omega
              · have hlti3 : decide ((m : Int) < (fj.length : Int)) = false := decide_eq_false (by omega)
                have hfin : acc4 ++ fj.flatMap Em.putI = acc5 := by rw [← HACC5.out, List.take_of_length_le (by omega)]
                have HFIN := hide hfin
                clear hfin hur HFL
                go_wp2_with fail
                go_roundw
                case rel => exact ⟨j2 + 1, by go_num, by omega, by
                  rw [HACC4.out, HFIN.out]
                  exact ⟨⟨vA3, vc3, rfl, HO3.out⟩, hk3⟩⟩
                case measure => simp [intOf]; omega
          · have hlti2 : decide ((j2 : Int) < (fs.length : Int)) = false := decide_eq_false (by omega)
            have hfin : Em.putP ⟨(dn : Int), fs, ss⟩ = acc3 := by rw [HACC2.out, ← HACC.out, List.take_of_length_le (by omega)]
            have HFIN := hide hfin
            clear hfin hfr HFL
            go_wp2_with fail
            go_ret
            exact ⟨_, rfl, by rw [HFIN.out]; exact HO2.out.lower k02.size, k0w2⟩
end Go.Proofs.Ytcbkklfdeloeeaa
