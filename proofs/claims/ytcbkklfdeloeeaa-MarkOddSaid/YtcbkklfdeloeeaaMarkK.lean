/- Walks: a type's mark; the law's own check (mark). -/
import Derived.Test.YtcbkklfdeloeeaaMarkJ
import Derived.Test.YtcbkklfdeloeeaaSumW
namespace Go.Proofs.Ytcbkklfdeloeeaa
open Go.RowKit
open Em (Ty)
set_option linter.unusedVariables false
set_option linter.unusedSimpArgs false
set_option maxRecDepth 100000
theorem refT8 (w : World) (o : List UInt8) (A : Option Addr) (n c : Nat) : Calls Try.prog 62 #[.string (str o), .slice A n c] w fun e w' => e = .returned (.agg #[.string (str o), .int .i64 0, .slice A n c]) ∧ Keep w w' := by
  go_enter Try.func62, Try.ntmps62
  go_wp2_with fail
  refine bodyPost_ret_by (results_cell_row rfl _ _ w.heap.size 26 _ (0, 0) _ rfl (by simpa using heap_alloc_new w _) Try.underlying26 rfl ?_) rfl ⟨?_, ?_⟩
  · kernel_rfl
  · rfl
  · exact (by repeat (first | exact Keep.rf _ | assumption | apply Keep.al | apply Keep.dr | apply Keep.dn))
theorem markOf (d : Nat) (t : Ty) (w : World) (cs : List Value) (h : TyK d w cs t) : Calls Try.prog 50 #[.agg cs.toArray] w fun e w' => e = .returned (.int .u64 (Em.mark (Em.bytesT t) : Int)) ∧ Keep w w' := by
  cases d with
  | zero => exact h.elim
  | succ d =>
    have HB := hide fun W (k : Keep w W) => markBytes (d + 1) t W cs (h.keep k)
    obtain ⟨kv, rfl, kn, kA, kc, rfl, _⟩ := h
    generalize Em.bytesT t = bt at *
    go_enter Try.func50, Try.ntmps50
    go_wp2_with fail
    refine (HB.out _ (by repeat (first | exact Keep.rf _ | assumption | apply Keep.al | apply Keep.dr | apply Keep.dn))).mono ?_
    rintro e w1 ⟨v, rfl, ho, k1⟩
    obtain ⟨A, c, rfl⟩ := own_slice (show w1.ownsRow _ _ _ _ _ _ from ho)
    have hb := ho.bs
    clear ho
    go_wp2_with fail
    refine (sumMark _ [bt] _ (Rws.one hb _ rfl)).mono ?_
    rintro e w2 ⟨rfl, rfl⟩
    simp only [List.flatten_cons, List.flatten_nil, List.append_nil]
    go_wp2_with fail
    go_ret
    exact ⟨rfl, Keep.tr (show Keep w w1 from Keep.tr (by repeat (first | exact Keep.rf _ | assumption | apply Keep.al | apply Keep.dr | apply Keep.dn)) k1) (by repeat (first | exact Keep.rf _ | assumption | apply Keep.al | apply Keep.dr | apply Keep.dn))⟩
theorem refOf12 (d : Nat) (t : Ty) (w : World) (cs : List Value) (h : TyK d w cs t) : Calls Try.prog 51 #[.agg cs.toArray] w fun e w' => e = .returned (.int .u64 (Em.mark (Em.bytesT t) : Int)) ∧ Keep w w' := by
  cases d with
  | zero => exact h.elim
  | succ d =>
    have HB := hide fun W (k : Keep w W) => refBytes12 (d + 1) t W cs (h.keep k)
    obtain ⟨kv, rfl, kn, kA, kc, rfl, _⟩ := h
    generalize Em.bytesT t = bt at *
    go_enter Try.func51, Try.ntmps51
    go_wp2_with fail
    refine (HB.out _ (by repeat (first | exact Keep.rf _ | assumption | apply Keep.al | apply Keep.dr | apply Keep.dn))).mono ?_
    rintro e w1 ⟨v, rfl, ho, k1⟩
    obtain ⟨A, c, rfl⟩ := own_slice (show w1.ownsRow _ _ _ _ _ _ from ho)
    have hb := ho.bs
    clear ho
    go_wp2_with fail
    refine (refMark _ bt _ hb).mono ?_
    rintro e w2 ⟨rfl, rfl⟩
    go_wp2_with fail
    go_ret
    exact ⟨rfl, show Keep w w1 from Keep.tr (by repeat (first | exact Keep.rf _ | assumption | apply Keep.al | apply Keep.dr | apply Keep.dn)) k1⟩
/-- Bytes that are read, and all else as it was. -/
def BsAt (l : List UInt8) (W : World) (v : Value) : Prop := ∃ A n c, v = .slice A n c ∧ Bs W (.slice A n c) l
theorem BsAt.keep {l : List UInt8} {W W' : World} {v : Value} (h : BsAt l W v) (k : Keep W W') : BsAt l W' v := by
  obtain ⟨A, n, c, h1, h2⟩ := h
  exact ⟨A, n, c, h1, h2.keep k⟩
theorem BsAt.of {l : List UInt8} {W : World} {base e : Nat} {v : Value} (h : Ob W base e v l) : BsAt l W v := by
  obtain ⟨A, c, rfl⟩ := own_slice (show W.ownsRow _ _ _ _ _ _ from h)
  exact ⟨A, _, c, rfl, h.bs⟩
abbrev intList : Ty := .mk Em.wList 0 [.mk Em.wInt 0 []]
set_option maxHeartbeats 4000000 in
theorem markKnown (w : World) : Calls Try.prog 23 #[] w fun e w' => e = .returned (.bool true) ∧ Keep w w' := by
  have hbt : Em.bytesT intList = [6, 1] := by decide +kernel
  go_enter Try.func23, Try.ntmps23
  go_wp2_with fail
  refine (refT8 _ Em.wInt _ _ _).mono ?_
  rintro e w1 ⟨rfl, k1⟩
  go_wp2_with fail
  refine (refT8 _ Em.wList _ _ _).mono ?_
  rintro e w2 ⟨rfl, k2⟩
  go_wp2_with fail
  have hs1 : Sl 3 (TyK 1) (w1.alloc (.cells #[.string (str Em.wInt), .int .i64 0, .slice none 0 0] 26)) (.slice (some ⟨w1.heap.size, 0, none⟩) 1 1) [.mk Em.wInt 0 []] :=
    sl_lit (fun _ : Ty => [Value.string (str Em.wInt), .int .i64 0, .slice none 0 0]) [.mk Em.wInt 0 []] rfl rfl rfl (fun _ => rfl) (by simp) (fun a ha => by
      rw [List.mem_singleton.1 ha]
      exact ⟨_, rfl, by decide, Sl.nil _⟩)
  generalize hW3 : World.alloc w2 _ = W3
  have k3 : Keep w2 W3 := by rw [← hW3]; exact (by repeat (first | exact Keep.rf _ | assumption | apply Keep.al | apply Keep.dr | apply Keep.dn))
  have e0 : W3.cell? ⟨w2.heap.size, 0, none⟩ = some (.string (str Em.wList)) := by rw [← hW3]; exact lit_cells rfl _ rfl
  have e1 : W3.cell? ⟨w2.heap.size, 1, none⟩ = some (.int .i64 0) := by rw [← hW3]; exact lit_cells rfl _ rfl
  have e2 : W3.cell? ⟨w2.heap.size, 2, none⟩ = some (.slice (some ⟨w1.heap.size, 0, none⟩) 1 1) := by rw [← hW3]; exact lit_cells rfl _ rfl
  have hT : TyK 2 W3 [.string (str Em.wList), .int .i64 0, .slice (some ⟨w1.heap.size, 0, none⟩) 1 1] intList := ⟨_, rfl, by decide, hs1.keep (Keep.tr k2 k3) fun _ _ h => h.keep (Keep.tr k2 k3)⟩
  have HT := hide hT
  have hstr : (str [6, 1]).toList = [6, 1] := str_list _
  have kw3 : Keep w W3 := Keep.tr (Keep.tr k1 (Keep.al (Keep.rf _) _)) (Keep.tr k2 k3)
  clear hs1 hT hW3
  apply region_all (by kernel_rfl) Keep Keep krg ktg krg ktg (fun _ _ h => h) [some 5, some 6, some 7, some 8, some 9, some 10, some 11, some 12, some 13, some 14, some 15, some 0] [eqG _ , fun us W v => BsAt [6, 1] W v, fun us _ v => v = .string (str [6, 1]), fun us _ v => v = .bool true, eqG _ , eqG _ , fun us _ v => v = .int .u64 (Em.mark [6, 1] : Int), eqG _ , fun us _ v => v = .int .u64 (Em.mark [6, 1] : Int), eqG _ , eqG _ , eqG _ ] [⟨[], [], true, false, false⟩, ⟨[0], [], true, false, false⟩, ⟨[1], [], true, false, false⟩, ⟨[2], [], true, false, false⟩, ⟨[3], [], true, false, false⟩, ⟨[4], [], true, false, false⟩, ⟨[4, 5], [], true, false, false⟩, ⟨[4], [], true, false, false⟩, ⟨[4, 7], [], true, false, false⟩, ⟨[4, 6, 8], [], true, false, false⟩, ⟨[4, 9], [], true, false, false⟩, ⟨[10], [], true, false, false⟩] [1, 11] (by kernel_rfl) (by kernel_rfl) 
  · refine ⟨?_, ?_, ?_, ?_, ?_, ?_, ?_, ?_, ?_, ?_, ?_, ?_, trivial⟩
    · (intro us W h9 hW hE hd hs K hK; obtain ⟨u0, u1, u2, u3, u4, u5, u6, u7, u8, u9, u10, u11, rfl⟩ := rog 12 h9 rfl; clear h9; clear hd; clear hs; simp only [fillG, List.set_cons_zero, List.set_cons_succ]; have hKW := Keep.tr (Keep.dr (Keep.rf _)) (hE rfl); have e0 := Keep.cell hKW e0; have e1 := Keep.cell hKW e1; have e2 := Keep.cell hKW e2; refine want_n rfl ?_; go_wp2_with (first | fail); simp only [DoneG, fillG, List.set_cons_zero, List.set_cons_succ, relG, eqG, eqG1, eqG2, eqG3, gdG, gdG1, gnG, gnG1, List.getD_cons_zero, List.getD_cons_succ, List.getElem?_cons_succ, List.getElem?_cons_zero, Option.map_some, Option.getD_some, valsG, List.map_cons, List.map_nil, List.length_cons, List.length_nil]; exact ⟨_, rfl, (by first | with_reducible assumption | exact krg _ | exact Keep.al (krg _) _), fun _ _ => rfl⟩)
    · (intro us W h9 hW hE hd hs K hK; obtain ⟨u0, u1, u2, u3, u4, u5, u6, u7, u8, u9, u10, u11, rfl⟩ := rog 12 h9 rfl; clear h9; simp only [DepG, AtG, and_true, relG, eqG, eqG1, eqG2, eqG3, gdG, gdG1, gnG, gnG1, List.getD_cons_zero, List.getD_cons_succ, List.getElem?_cons_succ, List.getElem?_cons_zero, Option.map_some, Option.getD_some, valsG, List.map_cons, List.map_nil, List.length_cons, List.length_nil] at hd; have d0 := hd; clear hd; subst d0; clear hs; simp only [fillG, List.set_cons_zero, List.set_cons_succ]; have hKW := Keep.tr (Keep.dr (Keep.rf _)) (hE rfl); have e0 := Keep.cell hKW e0; have e1 := Keep.cell hKW e1; have e2 := Keep.cell hKW e2; refine want_n rfl ?_; go_wp2_with (first | (go_at_call 20; refine (markBytes 2 intList _ _ (HT.out.keep hKW)).mono ?_; rintro e w9 ⟨v9, rfl, o9, hk9⟩; rw [hbt] at o9) | fail); simp only [DoneG, fillG, List.set_cons_zero, List.set_cons_succ, relG, eqG, eqG1, eqG2, eqG3, gdG, gdG1, gnG, gnG1, List.getD_cons_zero, List.getD_cons_succ, List.getElem?_cons_succ, List.getElem?_cons_zero, Option.map_some, Option.getD_some, valsG, List.map_cons, List.map_nil, List.length_cons, List.length_nil]; exact ⟨_, rfl, (by first | with_reducible assumption | exact krg _ | exact Keep.al (krg _) _), fun W9 hk9 => (BsAt.of o9).keep hk9⟩)
    · (intro us W h9 hW hE hd hs K hK; obtain ⟨u0, u1, u2, u3, u4, u5, u6, u7, u8, u9, u10, u11, rfl⟩ := rog 12 h9 rfl; clear h9; simp only [DepG, AtG, and_true, relG, eqG, eqG1, eqG2, eqG3, gdG, gdG1, gnG, gnG1, List.getD_cons_zero, List.getD_cons_succ, List.getElem?_cons_succ, List.getElem?_cons_zero, Option.map_some, Option.getD_some, valsG, List.map_cons, List.map_nil, List.length_cons, List.length_nil] at hd; have d1 := hd; clear hd; obtain ⟨A1, n1, c1, rfl, i1⟩ := d1; clear hs; simp only [fillG, List.set_cons_zero, List.set_cons_succ]; have hKW := Keep.tr (Keep.dr (Keep.rf _)) (hE rfl); have e0 := Keep.cell hKW e0; have e1 := Keep.cell hKW e1; have e2 := Keep.cell hKW e2; refine want_n rfl ?_; have hc := run_conv_bs (P := Try.prog) i1 29 5 9 Try.underlying29 Try.underlying5 Try.underlying9; go_wp2_with fail; simp only [DoneG, fillG, List.set_cons_zero, List.set_cons_succ, relG, eqG, eqG1, eqG2, eqG3, gdG, gdG1, gnG, gnG1, List.getD_cons_zero, List.getD_cons_succ, List.getElem?_cons_succ, List.getElem?_cons_zero, Option.map_some, Option.getD_some, valsG, List.map_cons, List.map_nil, List.length_cons, List.length_nil]; exact ⟨_, rfl, (by first | with_reducible assumption | exact krg _ | exact Keep.al (krg _) _), fun _ _ => rfl⟩)
    · (intro us W h9 hW hE hd hs K hK; obtain ⟨u0, u1, u2, u3, u4, u5, u6, u7, u8, u9, u10, u11, rfl⟩ := rog 12 h9 rfl; clear h9; simp only [DepG, AtG, and_true, relG, eqG, eqG1, eqG2, eqG3, gdG, gdG1, gnG, gnG1, List.getD_cons_zero, List.getD_cons_succ, List.getElem?_cons_succ, List.getElem?_cons_zero, Option.map_some, Option.getD_some, valsG, List.map_cons, List.map_nil, List.length_cons, List.length_nil] at hd; have d2 := hd; clear hd; subst d2; clear hs; simp only [fillG, List.set_cons_zero, List.set_cons_succ]; have hKW := Keep.tr (Keep.dr (Keep.rf _)) (hE rfl); have e0 := Keep.cell hKW e0; have e1 := Keep.cell hKW e1; have e2 := Keep.cell hKW e2; refine want_n rfl ?_; go_wp2_with (first | fail); simp only [DoneG, fillG, List.set_cons_zero, List.set_cons_succ, relG, eqG, eqG1, eqG2, eqG3, gdG, gdG1, gnG, gnG1, List.getD_cons_zero, List.getD_cons_succ, List.getElem?_cons_succ, List.getElem?_cons_zero, Option.map_some, Option.getD_some, valsG, List.map_cons, List.map_nil, List.length_cons, List.length_nil]; exact ⟨_, rfl, (by first | with_reducible assumption | exact krg _ | exact Keep.al (krg _) _), fun _ _ => rfl⟩)
    · (intro us W h9 hW hE hd hs K hK; obtain ⟨u0, u1, u2, u3, u4, u5, u6, u7, u8, u9, u10, u11, rfl⟩ := rog 12 h9 rfl; clear h9; simp only [DepG, AtG, and_true, relG, eqG, eqG1, eqG2, eqG3, gdG, gdG1, gnG, gnG1, List.getD_cons_zero, List.getD_cons_succ, List.getElem?_cons_succ, List.getElem?_cons_zero, Option.map_some, Option.getD_some, valsG, List.map_cons, List.map_nil, List.length_cons, List.length_nil] at hd; have d3 := hd; clear hd; subst d3; clear hs; simp only [fillG, List.set_cons_zero, List.set_cons_succ]; refine want_n rfl ?_; go_wp2_with (first | fail); simp only [DoneG, fillG, List.set_cons_zero, List.set_cons_succ, relG, eqG, eqG1, eqG2, eqG3, gdG, gdG1, gnG, gnG1, List.getD_cons_zero, List.getD_cons_succ, List.getElem?_cons_succ, List.getElem?_cons_zero, Option.map_some, Option.getD_some, valsG, List.map_cons, List.map_nil, List.length_cons, List.length_nil]; exact ⟨_, rfl, (by first | with_reducible assumption | exact krg _ | exact Keep.al (krg _) _), fun _ _ => rfl⟩)
    · (intro us W h9 hW hE hd hs K hK; obtain ⟨u0, u1, u2, u3, u4, u5, u6, u7, u8, u9, u10, u11, rfl⟩ := rog 12 h9 rfl; clear h9; simp only [DepG, AtG, and_true, relG, eqG, eqG1, eqG2, eqG3, gdG, gdG1, gnG, gnG1, List.getD_cons_zero, List.getD_cons_succ, List.getElem?_cons_succ, List.getElem?_cons_zero, Option.map_some, Option.getD_some, valsG, List.map_cons, List.map_nil, List.length_cons, List.length_nil] at hd; have d4 := hd; clear hd; subst d4; clear hs; simp only [fillG, List.set_cons_zero, List.set_cons_succ]; have hKW := Keep.tr (Keep.dr (Keep.rf _)) (hE rfl); have e0 := Keep.cell hKW e0; have e1 := Keep.cell hKW e1; have e2 := Keep.cell hKW e2; refine want_y rfl ?_; go_wp2_with (first | fail); simp only [DoneG, fillG, List.set_cons_zero, List.set_cons_succ, relG, eqG, eqG1, eqG2, eqG3, gdG, gdG1, gnG, gnG1, List.getD_cons_zero, List.getD_cons_succ, List.getElem?_cons_succ, List.getElem?_cons_zero, Option.map_some, Option.getD_some, valsG, List.map_cons, List.map_nil, List.length_cons, List.length_nil]; exact ⟨_, rfl, (by first | with_reducible assumption | exact krg _ | exact Keep.al (krg _) _), fun _ _ => rfl⟩)
    · (intro us W h9 hW hE hd hs K hK; obtain ⟨u0, u1, u2, u3, u4, u5, u6, u7, u8, u9, u10, u11, rfl⟩ := rog 12 h9 rfl; clear h9; simp only [DepG, AtG, and_true, relG, eqG, eqG1, eqG2, eqG3, gdG, gdG1, gnG, gnG1, List.getD_cons_zero, List.getD_cons_succ, List.getElem?_cons_succ, List.getElem?_cons_zero, Option.map_some, Option.getD_some, valsG, List.map_cons, List.map_nil, List.length_cons, List.length_nil] at hd; obtain ⟨d4, d5⟩ := hd; subst d4; subst d5; clear hs; simp only [fillG, List.set_cons_zero, List.set_cons_succ]; have hKW := Keep.tr (Keep.dr (Keep.rf _)) (hE rfl); have e0 := Keep.cell hKW e0; have e1 := Keep.cell hKW e1; have e2 := Keep.cell hKW e2; refine want_y rfl ?_; go_wp2_with (first | (go_at_call 50; refine (markOf 2 intList _ _ (HT.out.keep hKW)).mono ?_; rintro e w9 ⟨rfl, hk9⟩; rw [hbt]) | fail); simp only [DoneG, fillG, List.set_cons_zero, List.set_cons_succ, relG, eqG, eqG1, eqG2, eqG3, gdG, gdG1, gnG, gnG1, List.getD_cons_zero, List.getD_cons_succ, List.getElem?_cons_succ, List.getElem?_cons_zero, Option.map_some, Option.getD_some, valsG, List.map_cons, List.map_nil, List.length_cons, List.length_nil]; exact ⟨_, rfl, (by first | with_reducible assumption | exact krg _ | exact Keep.al (krg _) _), fun _ _ => rfl⟩)
    · (intro us W h9 hW hE hd hs K hK; obtain ⟨u0, u1, u2, u3, u4, u5, u6, u7, u8, u9, u10, u11, rfl⟩ := rog 12 h9 rfl; clear h9; simp only [DepG, AtG, and_true, relG, eqG, eqG1, eqG2, eqG3, gdG, gdG1, gnG, gnG1, List.getD_cons_zero, List.getD_cons_succ, List.getElem?_cons_succ, List.getElem?_cons_zero, Option.map_some, Option.getD_some, valsG, List.map_cons, List.map_nil, List.length_cons, List.length_nil] at hd; have d4 := hd; clear hd; subst d4; clear hs; simp only [fillG, List.set_cons_zero, List.set_cons_succ]; have hKW := Keep.tr (Keep.dr (Keep.rf _)) (hE rfl); have e0 := Keep.cell hKW e0; have e1 := Keep.cell hKW e1; have e2 := Keep.cell hKW e2; refine want_y rfl ?_; go_wp2_with (first | fail); simp only [DoneG, fillG, List.set_cons_zero, List.set_cons_succ, relG, eqG, eqG1, eqG2, eqG3, gdG, gdG1, gnG, gnG1, List.getD_cons_zero, List.getD_cons_succ, List.getElem?_cons_succ, List.getElem?_cons_zero, Option.map_some, Option.getD_some, valsG, List.map_cons, List.map_nil, List.length_cons, List.length_nil]; exact ⟨_, rfl, (by first | with_reducible assumption | exact krg _ | exact Keep.al (krg _) _), fun _ _ => rfl⟩)
    · (intro us W h9 hW hE hd hs K hK; obtain ⟨u0, u1, u2, u3, u4, u5, u6, u7, u8, u9, u10, u11, rfl⟩ := rog 12 h9 rfl; clear h9; simp only [DepG, AtG, and_true, relG, eqG, eqG1, eqG2, eqG3, gdG, gdG1, gnG, gnG1, List.getD_cons_zero, List.getD_cons_succ, List.getElem?_cons_succ, List.getElem?_cons_zero, Option.map_some, Option.getD_some, valsG, List.map_cons, List.map_nil, List.length_cons, List.length_nil] at hd; obtain ⟨d4, d7⟩ := hd; subst d4; subst d7; clear hs; simp only [fillG, List.set_cons_zero, List.set_cons_succ]; have hKW := Keep.tr (Keep.dr (Keep.rf _)) (hE rfl); have e0 := Keep.cell hKW e0; have e1 := Keep.cell hKW e1; have e2 := Keep.cell hKW e2; refine want_y rfl ?_; go_wp2_with (first | (go_at_call 51; refine (refOf12 2 intList _ _ (HT.out.keep hKW)).mono ?_; rintro e w9 ⟨rfl, hk9⟩; rw [hbt]) | fail); simp only [DoneG, fillG, List.set_cons_zero, List.set_cons_succ, relG, eqG, eqG1, eqG2, eqG3, gdG, gdG1, gnG, gnG1, List.getD_cons_zero, List.getD_cons_succ, List.getElem?_cons_succ, List.getElem?_cons_zero, Option.map_some, Option.getD_some, valsG, List.map_cons, List.map_nil, List.length_cons, List.length_nil]; exact ⟨_, rfl, (by first | with_reducible assumption | exact krg _ | exact Keep.al (krg _) _), fun _ _ => rfl⟩)
    · (intro us W h9 hW hE hd hs K hK; obtain ⟨u0, u1, u2, u3, u4, u5, u6, u7, u8, u9, u10, u11, rfl⟩ := rog 12 h9 rfl; clear h9; simp only [DepG, AtG, and_true, relG, eqG, eqG1, eqG2, eqG3, gdG, gdG1, gnG, gnG1, List.getD_cons_zero, List.getD_cons_succ, List.getElem?_cons_succ, List.getElem?_cons_zero, Option.map_some, Option.getD_some, valsG, List.map_cons, List.map_nil, List.length_cons, List.length_nil] at hd; obtain ⟨d4, d6, d8⟩ := hd; subst d4; subst d6; subst d8; clear hs; simp only [fillG, List.set_cons_zero, List.set_cons_succ]; refine want_y rfl ?_; go_wp2_with (first | fail); simp only [DoneG, fillG, List.set_cons_zero, List.set_cons_succ, relG, eqG, eqG1, eqG2, eqG3, gdG, gdG1, gnG, gnG1, List.getD_cons_zero, List.getD_cons_succ, List.getElem?_cons_succ, List.getElem?_cons_zero, Option.map_some, Option.getD_some, valsG, List.map_cons, List.map_nil, List.length_cons, List.length_nil]; exact ⟨_, rfl, (by first | with_reducible assumption | exact krg _ | exact Keep.al (krg _) _), fun _ _ => rfl⟩)
    · (intro us W h9 hW hE hd hs K hK; obtain ⟨u0, u1, u2, u3, u4, u5, u6, u7, u8, u9, u10, u11, rfl⟩ := rog 12 h9 rfl; clear h9; simp only [DepG, AtG, and_true, relG, eqG, eqG1, eqG2, eqG3, gdG, gdG1, gnG, gnG1, List.getD_cons_zero, List.getD_cons_succ, List.getElem?_cons_succ, List.getElem?_cons_zero, Option.map_some, Option.getD_some, valsG, List.map_cons, List.map_nil, List.length_cons, List.length_nil] at hd; obtain ⟨d4, d9⟩ := hd; subst d4; subst d9; clear hs; simp only [fillG, List.set_cons_zero, List.set_cons_succ]; refine want_n rfl ?_; go_wp2_with (first | fail); simp only [DoneG, fillG, List.set_cons_zero, List.set_cons_succ, relG, eqG, eqG1, eqG2, eqG3, gdG, gdG1, gnG, gnG1, List.getD_cons_zero, List.getD_cons_succ, List.getElem?_cons_succ, List.getElem?_cons_zero, Option.map_some, Option.getD_some, valsG, List.map_cons, List.map_nil, List.length_cons, List.length_nil]; exact ⟨_, rfl, (by first | with_reducible assumption | exact krg _ | exact Keep.al (krg _) _), fun _ _ => rfl⟩)
    · (intro us W h9 hW hE hd hs K hK; obtain ⟨u0, u1, u2, u3, u4, u5, u6, u7, u8, u9, u10, u11, rfl⟩ := rog 12 h9 rfl; clear h9; simp only [DepG, AtG, and_true, relG, eqG, eqG1, eqG2, eqG3, gdG, gdG1, gnG, gnG1, List.getD_cons_zero, List.getD_cons_succ, List.getElem?_cons_succ, List.getElem?_cons_zero, Option.map_some, Option.getD_some, valsG, List.map_cons, List.map_nil, List.length_cons, List.length_nil] at hd; have d10 := hd; clear hd; subst d10; clear hs; simp only [fillG, List.set_cons_zero, List.set_cons_succ]; refine want_n rfl ?_; go_wp2_with (first | fail); simp only [DoneG, fillG, List.set_cons_zero, List.set_cons_succ, relG, eqG, eqG1, eqG2, eqG3, gdG, gdG1, gnG, gnG1, List.getD_cons_zero, List.getD_cons_succ, List.getElem?_cons_succ, List.getElem?_cons_zero, Option.map_some, Option.getD_some, valsG, List.map_cons, List.map_nil, List.length_cons, List.length_nil]; exact ⟨_, rfl, (by first | with_reducible assumption | exact krg _ | exact Keep.al (krg _) _), fun _ _ => rfl⟩)
  (intro us W7 h9 hW hE hA; obtain ⟨u0, u1, u2, u3, u4, u5, u6, u7, u8, u9, u10, u11, rfl⟩ := rog 12 h9 rfl; clear h9; simp only [AllG, AtG, and_true, relG, eqG, eqG1, eqG2, eqG3, gdG, gdG1, gnG, gnG1, List.getD_cons_zero, List.getD_cons_succ, List.getElem?_cons_succ, List.getElem?_cons_zero, Option.map_some, Option.getD_some, valsG, List.map_cons, List.map_nil, List.length_cons, List.length_nil] at hA; obtain ⟨d1, d11⟩ := hA; obtain ⟨A1, n1, c1, rfl, i1⟩ := d1; subst d11; simp only [fillG, List.set_cons_zero, List.set_cons_succ]; have k7 := Keep.tr (Keep.dr (Keep.rf _)) hW; clear hW hE)
  go_wp2_with fail
  go_ret
  exact ⟨by simp, Keep.tr kw3 k7⟩
end Go.Proofs.Ytcbkklfdeloeeaa
