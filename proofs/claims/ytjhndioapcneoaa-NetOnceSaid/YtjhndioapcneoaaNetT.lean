/- Walks: Twice (package net, and the reference). -/
import Derived.Test.YtjhndioapcneoaaNetZ
import Derived.Test.YtjhndioapcneoaaOpen3
namespace Go.Proofs.Ytjhndioapcneoaa
open Go.RowKit
set_option linter.unusedVariables false
set_option linter.unusedSimpArgs false
set_option maxRecDepth 100000
theorem NRaw.read {tn te tb : TypeId} {w : World} {p : Nat} {vs : Nat → Value} {ms : Nat → List (Value × Bool)} {R : Em.Nt} (h : NRaw tn te tb w p vs ms R) (j k : Nat) (hk : k < (R j).length) :
    ∃ ad c A n cc f l, vs j = .slice (some ad) (ms j).length c ∧ (ms j)[k]? = some (.slice A n cc, f) ∧ (R j)[k]? = some (l, f) ∧ w.cell? (ad.add (k * 2)) = some (.slice A n cc) ∧ w.cell? ⟨(ad.add (k * 2)).block, (ad.add (k * 2)).off + 1, none⟩ = some (.bool f) ∧
      n = l.length ∧ w.ownsRow 0 tb 1 (.slice A n cc) l.length (l.map bv) := by
  have hl := h.len j
  have hs : Sl 2 (fun _ cs (m : Value × Bool) => cs = encM m) w (vs j) (ms j) := sl_of_own (h.row j) rfl (by simp) (fun cs hcs => by
    obtain ⟨m, _, rfl⟩ := List.mem_map.1 hcs
    rfl) (fun i h1 h2 => by rw [List.getElem_map])
  obtain ⟨A, c, e, _, _, hr⟩ := hs
  obtain ⟨ad, rfl, hcell⟩ := hr (by omega)
  obtain ⟨cs, _, hcl, rfl⟩ := hcell k (by omega)
  have hp := h.part j k (ms j)[k] (R j)[k] (List.getElem?_eq_getElem (by omega)) (List.getElem?_eq_getElem hk)
  have h0 := hcl 0 _ rfl
  have h1 := cell_off (hcl 1 _ rfl)
  rw [Nat.add_zero] at h0
  have hm : (ms j)[k]? = some (ms j)[k] := List.getElem?_eq_getElem (by omega)
  have hR : (R j)[k]? = some (R j)[k] := List.getElem?_eq_getElem hk
  generalize (ms j)[k] = x at *
  generalize (R j)[k] = a at *
  obtain ⟨x1, x2⟩ := x
  obtain ⟨l, f⟩ := a
  obtain ⟨hp1, hp2⟩ := hp
  simp only at hp1 hp2
  subst hp2
  obtain ⟨A, cc, rfl⟩ := own_slice hp1
  exact ⟨ad, c, A, _, cc, x2, l, e, hm, hR, h0, h1, rfl, hp1⟩
theorem Em.Nt.at_get {R : Em.Nt} {j k : Nat} {m : Em.Msg} (h : (R j)[k]? = some m) : R.at (j : Int) (k : Int) = m := by
  show (R (Int.toNat (j : Int))).getD (Int.toNat (k : Int)) _ = m
  rw [Int.toNat_natCast, Int.toNat_natCast, List.getD_eq_getElem?_getD, h]
  rfl
theorem has_lt {R : Em.Nt} {w i : Int} (h : R.has w i = true) : ∃ (j k : Nat), w = j ∧ i = k ∧ (j = 0 ∨ j = 1) ∧ k < (R j).length := by
  obtain ⟨h1, h2, h3⟩ := of_decide_eq_true h
  obtain ⟨k, rfl⟩ := Int.eq_ofNat_of_zero_le h2
  rcases h1 with rfl | rfl
  · exact ⟨0, k, rfl, rfl, .inl rfl, Int.ofNat_lt.1 h3⟩
  · exact ⟨1, k, rfl, rfl, .inr rfl, Int.ofNat_lt.1 h3⟩
set_option maxHeartbeats 4000000 in
theorem netTwice0 {p : Nat} {S : Nat → Prop} {R : Em.Nt} (w : World) (h : NetP w p S R) (k : Nat) (hkl : k < (R 0).length) (hh : R.has 0 k = true) (hr : R.room 0 = true) (hsm : ∀ m ∈ R 0, m.1.length ≤ 1000000) : Calls Try.prog 19 #[.pointer (some ⟨p, 0, none⟩), .int .i64 0, .int .i64 k] w fun e w' => e = .returned (.bool true) ∧ AftP w p S (R.twice 0 k) w' := by
  have his := netIs w h 0 k
  have hroom := netRoom w h 0
  rw [hh] at his
  rw [hr] at hroom
  obtain ⟨vs, ms, h, hS, hl⟩ := h
  obtain ⟨ad, rc, bA, bn, bc, f, l, hre, hmk, hRk, b0, b1, hbn, hbo⟩ := h.read 0 k hkl
  have hs : R.twice 0 k = up R 0 (R 0 ++ [(l, f)]) := by
    rw [Em.Nt.twice, hh, hr, show R.at 0 k = (l, f) from Em.Nt.at_get hRk]
    rfl
  rw [hs]
  have hlt : (R 0).length < 64 := (of_decide_eq_true hr).2
  have hlen := h.len 0
  have hlm : l.length ≤ 1000000 := hsm _ (List.mem_of_getElem? hRk)
  have hpl : p < w.heap.size := hl p (hS .top p rfl)
  have tp := top_cells h.top 0
  have c0 : w.cell? ⟨p, 0, none⟩ = some (vs 0) := tp
  have hrow := h.row 0
  have HP := hide fun (W : World) (v' u : Value) (hp : MPush 70 5 w (vs 0) (ms 0) l f u W v') => MPush.after h hS hl (j := 0) (by omega) hp
  have HT := hide fun (W : World) (v' u : Value) (hp : MPush 70 5 w (vs 0) (ms 0) l f u W v') => MPush.top h (j := 0) hp
  have HB := hide (Bs.of_own hbo)
  have hml : (ms 0).length < 64 := by omega
  have hkm : k < (ms 0).length := by omega
  clear hs hh hr hlt hlen hbo hsm hRk hmk hkl
  generalize hmsj : ms 0 = mj at *
  generalize hvj : vs 0 = vj at *
  subst hre hbn
  clear h tp hS hl
  go_enter Try.func19, Try.ntmps19
  go_wp2_with fail
  refine his.mono ?_
  rintro e w' ⟨rfl, rfl⟩
  go_wp2_with fail
  refine hroom.mono ?_
  rintro e w' ⟨rfl, rfl⟩
  go_wp2_with fail
  have k1 : Keep w (w.alloc (.cells #[.slice bA l.length bc, .bool f] 70)) := (by repeat (first | exact Keep.rf _ | assumption | apply Keep.al | apply Keep.dr | apply Keep.dn))
  refine (netClone _ l _ (HB.out.keep k1) hlm).mono ?_
  rintro e w2 ⟨A9, c9, rfl, o9, k2⟩
  have kk2 := Keep.tr k1 k2
  have tb := (k2.frm fun _ => False).heap (fun h => h) (heap_alloc_new w (.cells #[.slice bA l.length bc, .bool f] 70))
  have tbc := top_cells tb 0
  have tbf := top_free tb 0
  simp only [List.getElem?_toArray, List.getElem?_cons_succ, List.getElem?_cons_zero] at tbc
  have hne : ∀ q, (Value.slice A9 l.length c9).ownBlock = some q → q ≠ w.heap.size := fun q hq e => by
    have := (World.ownsRow.lt (clone_own o9) q hq).1
    simp at this
    omega
  have o3 : Ob (w2.setCell ⟨w.heap.size, 0, none⟩ (.slice A9 l.length c9)) w.heap.size 5 (.slice A9 l.length c9) l := set_own (own_lower (clone_own o9) (by simp)) hne
  have k3 : Keep w (w2.setCell ⟨w.heap.size, 0, none⟩ (.slice A9 l.length c9)) := Keep.st kk2 (p := ⟨w.heap.size, 0, none⟩) (Nat.le_refl _) _
  have t3 := heap_set1 (j := 0) tb (.slice A9 l.length c9)
  have t30 := top_cells t3 0
  have t31 := top_cells t3 1
  have O3 := hide o3
  have K3 := hide k3
  have c3 := Keep.cell k3 c0
  have T30 := hide t30
  have T31 := hide t31
  clear tb o9 hne o3 t3 k3 t30 t31 kk2 k2 k1 HB b0 b1
  go_wp2_with fail
  generalize World.setCell _ _ _ = W3 at *
  have t30 : W3.cell? ⟨w.heap.size, 0, none⟩ = some (.slice A9 l.length c9) := T30.out
  have t31 : W3.cell? ⟨w.heap.size, 1, none⟩ = some (.bool f) := T31.out
  have k3 := K3.out
  have o3 := O3.out
  clear tbc tbf c0
  apply region_last 14 _ (by kernel_rfl) Keep AnyW krg ktg anyrf anytr anyk [some 32, some 33, some 34, some 35, some 36, some 37, some 38, some 39, some 40, some 41, some 42, some 43, some 44, some 45, none] [eqG _ , eqG _ , eqG _ , eqG _ , eqG _ , eqG _ , eqG _ , eqG _ , eqG _ , fun us W v => ∃ g, v = .slice (some ⟨g, 0, none⟩) 1 1 ∧ W.heap[g]? = some (.cells #[.slice A9 l.length c9, .bool f] 70), fun us W v => MPush 70 5 w (.slice (some ad) mj.length rc) mj l f (.slice A9 l.length c9) W v, eqG _ , eqG _ , eqG _ , fun _ _ _ => True] [⟨[], [], false, false, false⟩, ⟨[], [], false, false, false⟩, ⟨[], [], true, false, false⟩, ⟨[], [], true, false, false⟩, ⟨[2], [], true, false, false⟩, ⟨[4], [], true, false, false⟩, ⟨[3, 5], [], true, false, false⟩, ⟨[6], [], true, false, false⟩, ⟨[], [], true, false, false⟩, ⟨[8], [], true, false, true⟩, ⟨[7, 9], [], true, true, true⟩, ⟨[0], [], false, false, false⟩, ⟨[11], [], false, false, false⟩, ⟨[1, 12], [], false, false, false⟩, ⟨[10, 13], [], false, false, false⟩] [10, 13] (by kernel_rfl) (by kernel_rfl) (by kernel_rfl) rfl (by kernel_rfl)
  · refine ⟨?_, ?_, ?_, ?_, ?_, ?_, ?_, ?_, ?_, ?_, ?_, ?_, ?_, ?_, trivial⟩
    · (intro us W h9 hW hE hd hs K hK; obtain ⟨u0, u1, u2, u3, u4, u5, u6, u7, u8, u9, u10, u11, u12, u13, u14, rfl⟩ := rog 15 h9 rfl; clear h9; clear hd; clear hs; simp only [fillG, List.set_cons_zero, List.set_cons_succ]; refine want_n rfl ?_; go_wp2_with (first | fail); simp only [DoneG, fillG, List.set_cons_zero, List.set_cons_succ, relG, eqG, eqG1, eqG2, eqG3, gdG, gdG1, gnG, gnG1, List.getD_cons_zero, List.getD_cons_succ, List.getElem?_cons_succ, List.getElem?_cons_zero, Option.map_some, Option.getD_some, valsG, List.map_cons, List.map_nil, List.length_cons, List.length_nil]; exact ⟨_, rfl, (by first | with_reducible assumption | exact krg _ | exact Keep.al (krg _) _), fun _ _ => rfl⟩)
    · (intro us W h9 hW hE hd hs K hK; obtain ⟨u0, u1, u2, u3, u4, u5, u6, u7, u8, u9, u10, u11, u12, u13, u14, rfl⟩ := rog 15 h9 rfl; clear h9; clear hd; clear hs; simp only [fillG, List.set_cons_zero, List.set_cons_succ]; refine want_n rfl ?_; go_wp2_with (first | fail); simp only [DoneG, fillG, List.set_cons_zero, List.set_cons_succ, relG, eqG, eqG1, eqG2, eqG3, gdG, gdG1, gnG, gnG1, List.getD_cons_zero, List.getD_cons_succ, List.getElem?_cons_succ, List.getElem?_cons_zero, Option.map_some, Option.getD_some, valsG, List.map_cons, List.map_nil, List.length_cons, List.length_nil]; exact ⟨_, rfl, (by first | with_reducible assumption | exact krg _ | exact Keep.al (krg _) _), fun _ _ => rfl⟩)
    · (intro us W h9 hW hE hd hs K hK; obtain ⟨u0, u1, u2, u3, u4, u5, u6, u7, u8, u9, u10, u11, u12, u13, u14, rfl⟩ := rog 15 h9 rfl; clear h9; clear hd; clear hs; simp only [fillG, List.set_cons_zero, List.set_cons_succ]; refine want_n rfl ?_; go_wp2_with (first | fail); simp only [DoneG, fillG, List.set_cons_zero, List.set_cons_succ, relG, eqG, eqG1, eqG2, eqG3, gdG, gdG1, gnG, gnG1, List.getD_cons_zero, List.getD_cons_succ, List.getElem?_cons_succ, List.getElem?_cons_zero, Option.map_some, Option.getD_some, valsG, List.map_cons, List.map_nil, List.length_cons, List.length_nil]; exact ⟨_, rfl, (by first | with_reducible assumption | exact krg _ | exact Keep.al (krg _) _), fun _ _ => rfl⟩)
    · (intro us W h9 hW hE hd hs K hK; obtain ⟨u0, u1, u2, u3, u4, u5, u6, u7, u8, u9, u10, u11, u12, u13, u14, rfl⟩ := rog 15 h9 rfl; clear h9; clear hd; clear hs; simp only [fillG, List.set_cons_zero, List.set_cons_succ]; refine want_n rfl ?_; go_wp2_with (first | fail); simp only [DoneG, fillG, List.set_cons_zero, List.set_cons_succ, relG, eqG, eqG1, eqG2, eqG3, gdG, gdG1, gnG, gnG1, List.getD_cons_zero, List.getD_cons_succ, List.getElem?_cons_succ, List.getElem?_cons_zero, Option.map_some, Option.getD_some, valsG, List.map_cons, List.map_nil, List.length_cons, List.length_nil]; exact ⟨_, rfl, (by first | with_reducible assumption | exact krg _ | exact Keep.al (krg _) _), fun _ _ => rfl⟩)
    · (intro us W h9 hW hE hd hs K hK; obtain ⟨u0, u1, u2, u3, u4, u5, u6, u7, u8, u9, u10, u11, u12, u13, u14, rfl⟩ := rog 15 h9 rfl; clear h9; simp only [DepG, AtG, and_true, relG, eqG, eqG1, eqG2, eqG3, gdG, gdG1, gnG, gnG1, List.getD_cons_zero, List.getD_cons_succ, List.getElem?_cons_succ, List.getElem?_cons_zero, Option.map_some, Option.getD_some, valsG, List.map_cons, List.map_nil, List.length_cons, List.length_nil] at hd; have d2 := hd; clear hd; subst d2; clear hs; simp only [fillG, List.set_cons_zero, List.set_cons_succ]; refine want_n rfl ?_; go_wp2_with (first | fail); simp only [DoneG, fillG, List.set_cons_zero, List.set_cons_succ, relG, eqG, eqG1, eqG2, eqG3, gdG, gdG1, gnG, gnG1, List.getD_cons_zero, List.getD_cons_succ, List.getElem?_cons_succ, List.getElem?_cons_zero, Option.map_some, Option.getD_some, valsG, List.map_cons, List.map_nil, List.length_cons, List.length_nil]; exact ⟨_, rfl, (by first | with_reducible assumption | exact krg _ | exact Keep.al (krg _) _), fun _ _ => rfl⟩)
    · (intro us W h9 hW hE hd hs K hK; obtain ⟨u0, u1, u2, u3, u4, u5, u6, u7, u8, u9, u10, u11, u12, u13, u14, rfl⟩ := rog 15 h9 rfl; clear h9; simp only [DepG, AtG, and_true, relG, eqG, eqG1, eqG2, eqG3, gdG, gdG1, gnG, gnG1, List.getD_cons_zero, List.getD_cons_succ, List.getElem?_cons_succ, List.getElem?_cons_zero, Option.map_some, Option.getD_some, valsG, List.map_cons, List.map_nil, List.length_cons, List.length_nil] at hd; have d4 := hd; clear hd; subst d4; clear hs; simp only [fillG, List.set_cons_zero, List.set_cons_succ]; refine want_n rfl ?_; go_wp2_with (first | fail); simp only [DoneG, fillG, List.set_cons_zero, List.set_cons_succ, relG, eqG, eqG1, eqG2, eqG3, gdG, gdG1, gnG, gnG1, List.getD_cons_zero, List.getD_cons_succ, List.getElem?_cons_succ, List.getElem?_cons_zero, Option.map_some, Option.getD_some, valsG, List.map_cons, List.map_nil, List.length_cons, List.length_nil]; exact ⟨_, rfl, (by first | with_reducible assumption | exact krg _ | exact Keep.al (krg _) _), fun _ _ => rfl⟩)
    · (intro us W h9 hW hE hd hs K hK; obtain ⟨u0, u1, u2, u3, u4, u5, u6, u7, u8, u9, u10, u11, u12, u13, u14, rfl⟩ := rog 15 h9 rfl; clear h9; simp only [DepG, AtG, and_true, relG, eqG, eqG1, eqG2, eqG3, gdG, gdG1, gnG, gnG1, List.getD_cons_zero, List.getD_cons_succ, List.getElem?_cons_succ, List.getElem?_cons_zero, Option.map_some, Option.getD_some, valsG, List.map_cons, List.map_nil, List.length_cons, List.length_nil] at hd; obtain ⟨d3, d5⟩ := hd; subst d3; subst d5; clear hs; simp only [fillG, List.set_cons_zero, List.set_cons_succ]; refine want_n rfl ?_; go_wp2_with (first | fail); simp only [DoneG, fillG, List.set_cons_zero, List.set_cons_succ, relG, eqG, eqG1, eqG2, eqG3, gdG, gdG1, gnG, gnG1, List.getD_cons_zero, List.getD_cons_succ, List.getElem?_cons_succ, List.getElem?_cons_zero, Option.map_some, Option.getD_some, valsG, List.map_cons, List.map_nil, List.length_cons, List.length_nil]; exact ⟨_, rfl, (by first | with_reducible assumption | exact krg _ | exact Keep.al (krg _) _), fun _ _ => rfl⟩)
    · (intro us W h9 hW hE hd hs K hK; obtain ⟨u0, u1, u2, u3, u4, u5, u6, u7, u8, u9, u10, u11, u12, u13, u14, rfl⟩ := rog 15 h9 rfl; clear h9; simp only [DepG, AtG, and_true, relG, eqG, eqG1, eqG2, eqG3, gdG, gdG1, gnG, gnG1, List.getD_cons_zero, List.getD_cons_succ, List.getElem?_cons_succ, List.getElem?_cons_zero, Option.map_some, Option.getD_some, valsG, List.map_cons, List.map_nil, List.length_cons, List.length_nil] at hd; have d6 := hd; clear hd; subst d6; clear hs; simp only [fillG, List.set_cons_zero, List.set_cons_succ]; have hKW := Keep.tr (Keep.dr (Keep.rf _)) (hE rfl); have c3 := Keep.cell hKW c3; have t30 := Keep.cell hKW t30; have t31 := Keep.cell hKW t31; refine want_n rfl ?_; go_wp2_with (first | fail); simp only [DoneG, fillG, List.set_cons_zero, List.set_cons_succ, relG, eqG, eqG1, eqG2, eqG3, gdG, gdG1, gnG, gnG1, List.getD_cons_zero, List.getD_cons_succ, List.getElem?_cons_succ, List.getElem?_cons_zero, Option.map_some, Option.getD_some, valsG, List.map_cons, List.map_nil, List.length_cons, List.length_nil]; exact ⟨_, rfl, (by first | with_reducible assumption | exact krg _ | exact Keep.al (krg _) _), fun _ _ => rfl⟩)
    · (intro us W h9 hW hE hd hs K hK; obtain ⟨u0, u1, u2, u3, u4, u5, u6, u7, u8, u9, u10, u11, u12, u13, u14, rfl⟩ := rog 15 h9 rfl; clear h9; clear hd; clear hs; simp only [fillG, List.set_cons_zero, List.set_cons_succ]; have hKW := Keep.tr (Keep.dr (Keep.rf _)) (hE rfl); have c3 := Keep.cell hKW c3; have t30 := Keep.cell hKW t30; have t31 := Keep.cell hKW t31; refine want_n rfl ?_; go_wp2_with (first | fail); simp only [DoneG, fillG, List.set_cons_zero, List.set_cons_succ, relG, eqG, eqG1, eqG2, eqG3, gdG, gdG1, gnG, gnG1, List.getD_cons_zero, List.getD_cons_succ, List.getElem?_cons_succ, List.getElem?_cons_zero, Option.map_some, Option.getD_some, valsG, List.map_cons, List.map_nil, List.length_cons, List.length_nil]; exact ⟨_, rfl, (by first | with_reducible assumption | exact krg _ | exact Keep.al (krg _) _), fun _ _ => rfl⟩)
    · (intro us W h9 hW hE hd hs K hK; obtain ⟨u0, u1, u2, u3, u4, u5, u6, u7, u8, u9, u10, u11, u12, u13, u14, rfl⟩ := rog 15 h9 rfl; clear h9; simp only [DepG, AtG, and_true, relG, eqG, eqG1, eqG2, eqG3, gdG, gdG1, gnG, gnG1, List.getD_cons_zero, List.getD_cons_succ, List.getElem?_cons_succ, List.getElem?_cons_zero, Option.map_some, Option.getD_some, valsG, List.map_cons, List.map_nil, List.length_cons, List.length_nil] at hd; have d8 := hd; clear hd; subst d8; clear hs; simp only [fillG, List.set_cons_zero, List.set_cons_succ]; have hKW := Keep.tr (Keep.dr (Keep.rf _)) (hE rfl); have c3 := Keep.cell hKW c3; have t30 := Keep.cell hKW t30; have t31 := Keep.cell hKW t31; refine want_n rfl ?_; go_wp2_with (first | fail); simp only [DoneG, fillG, List.set_cons_zero, List.set_cons_succ, relG, eqG, eqG1, eqG2, eqG3, gdG, gdG1, gnG, gnG1, List.getD_cons_zero, List.getD_cons_succ, List.getElem?_cons_succ, List.getElem?_cons_zero, Option.map_some, Option.getD_some, valsG, List.map_cons, List.map_nil, List.length_cons, List.length_nil]; exact ⟨_, rfl, (by first | with_reducible assumption | exact krg _ | exact Keep.al (krg _) _), fun W9 hk9 => ⟨_, rfl, (hk9.frm fun _ => False).heap (fun h => h) (heap_alloc_new _ _)⟩⟩)
    · (intro us W h9 hW hE hd hs K hK; obtain ⟨u0, u1, u2, u3, u4, u5, u6, u7, u8, u9, u10, u11, u12, u13, u14, rfl⟩ := rog 15 h9 rfl; clear h9; simp only [DepG, AtG, and_true, relG, eqG, eqG1, eqG2, eqG3, gdG, gdG1, gnG, gnG1, List.getD_cons_zero, List.getD_cons_succ, List.getElem?_cons_succ, List.getElem?_cons_zero, Option.map_some, Option.getD_some, valsG, List.map_cons, List.map_nil, List.length_cons, List.length_nil] at hd; obtain ⟨d7, d9⟩ := hd; subst d7; obtain ⟨g9, rfl, d9⟩ := d9; clear hs; simp only [fillG, List.set_cons_zero, List.set_cons_succ]; have hKW := Keep.tr (Keep.dr (Keep.rf _)) (hE rfl); have c3 := Keep.cell hKW c3; have t30 := Keep.cell hKW t30; have t31 := Keep.cell hKW t31; refine want_n rfl ?_; refine wp_app (.tmp 39) (.tmp 41) 64 rfl 0 70 _ 2 32 Try.underlying64 infoM rfl (by omega) _ mj.length _ rfl (own_keep hrow (Keep.tr k3 hKW)) _ 1 _ rfl (src_pair d9) (one_pair _ _ ⟨_, _, _, rfl⟩) (by simp only [maxLen]; omega) (by omega) (Nat.zero_le _) ?_; intro v12 w12 ha; refine hK _ _ ?_; simp only [DoneG, fillG, List.set_cons_zero, List.set_cons_succ, relG, eqG, eqG1, eqG2, eqG3, gdG, gdG1, gnG, gnG1, List.getD_cons_zero, List.getD_cons_succ, List.getElem?_cons_succ, List.getElem?_cons_zero, Option.map_some, Option.getD_some, valsG, List.map_cons, List.map_nil, List.length_cons, List.length_nil]; exact ⟨_, rfl, (by first | with_reducible assumption | exact trivial), fun W9 hk9 => (MPush.mk (Keep.tr k3 hKW) (clone_own (o3.keep hKW)) ha).keep hk9⟩)
    · (intro us W h9 hW hE hd hs K hK; obtain ⟨u0, u1, u2, u3, u4, u5, u6, u7, u8, u9, u10, u11, u12, u13, u14, rfl⟩ := rog 15 h9 rfl; clear h9; simp only [DepG, AtG, and_true, relG, eqG, eqG1, eqG2, eqG3, gdG, gdG1, gnG, gnG1, List.getD_cons_zero, List.getD_cons_succ, List.getElem?_cons_succ, List.getElem?_cons_zero, Option.map_some, Option.getD_some, valsG, List.map_cons, List.map_nil, List.length_cons, List.length_nil] at hd; have d0 := hd; clear hd; subst d0; clear hs; simp only [fillG, List.set_cons_zero, List.set_cons_succ]; refine want_n rfl ?_; go_wp2_with (first | fail); simp only [DoneG, fillG, List.set_cons_zero, List.set_cons_succ, relG, eqG, eqG1, eqG2, eqG3, gdG, gdG1, gnG, gnG1, List.getD_cons_zero, List.getD_cons_succ, List.getElem?_cons_succ, List.getElem?_cons_zero, Option.map_some, Option.getD_some, valsG, List.map_cons, List.map_nil, List.length_cons, List.length_nil]; exact ⟨_, rfl, (by first | with_reducible assumption | exact krg _ | exact Keep.al (krg _) _), fun _ _ => rfl⟩)
    · (intro us W h9 hW hE hd hs K hK; obtain ⟨u0, u1, u2, u3, u4, u5, u6, u7, u8, u9, u10, u11, u12, u13, u14, rfl⟩ := rog 15 h9 rfl; clear h9; simp only [DepG, AtG, and_true, relG, eqG, eqG1, eqG2, eqG3, gdG, gdG1, gnG, gnG1, List.getD_cons_zero, List.getD_cons_succ, List.getElem?_cons_succ, List.getElem?_cons_zero, Option.map_some, Option.getD_some, valsG, List.map_cons, List.map_nil, List.length_cons, List.length_nil] at hd; have d11 := hd; clear hd; subst d11; clear hs; simp only [fillG, List.set_cons_zero, List.set_cons_succ]; refine want_n rfl ?_; go_wp2_with (first | fail); simp only [DoneG, fillG, List.set_cons_zero, List.set_cons_succ, relG, eqG, eqG1, eqG2, eqG3, gdG, gdG1, gnG, gnG1, List.getD_cons_zero, List.getD_cons_succ, List.getElem?_cons_succ, List.getElem?_cons_zero, Option.map_some, Option.getD_some, valsG, List.map_cons, List.map_nil, List.length_cons, List.length_nil]; exact ⟨_, rfl, (by first | with_reducible assumption | exact krg _ | exact Keep.al (krg _) _), fun _ _ => rfl⟩)
    · (intro us W h9 hW hE hd hs K hK; obtain ⟨u0, u1, u2, u3, u4, u5, u6, u7, u8, u9, u10, u11, u12, u13, u14, rfl⟩ := rog 15 h9 rfl; clear h9; simp only [DepG, AtG, and_true, relG, eqG, eqG1, eqG2, eqG3, gdG, gdG1, gnG, gnG1, List.getD_cons_zero, List.getD_cons_succ, List.getElem?_cons_succ, List.getElem?_cons_zero, Option.map_some, Option.getD_some, valsG, List.map_cons, List.map_nil, List.length_cons, List.length_nil] at hd; obtain ⟨d1, d12⟩ := hd; subst d1; subst d12; clear hs; simp only [fillG, List.set_cons_zero, List.set_cons_succ]; refine want_n rfl ?_; go_wp2_with (first | fail); simp only [DoneG, fillG, List.set_cons_zero, List.set_cons_succ, relG, eqG, eqG1, eqG2, eqG3, gdG, gdG1, gnG, gnG1, List.getD_cons_zero, List.getD_cons_succ, List.getElem?_cons_succ, List.getElem?_cons_zero, Option.map_some, Option.getD_some, valsG, List.map_cons, List.map_nil, List.length_cons, List.length_nil]; exact ⟨_, rfl, (by first | with_reducible assumption | exact krg _ | exact Keep.al (krg _) _), fun _ _ => rfl⟩)
  (intro us W5 h9 hW hE hA hl9; obtain ⟨u0, u1, u2, u3, u4, u5, u6, u7, u8, u9, u10, u11, u12, u13, u14, rfl⟩ := rog 15 h9 rfl; clear h9; clear hl9; simp only [AllG, AtG, and_true, relG, eqG, eqG1, eqG2, eqG3, gdG, gdG1, gnG, gnG1, List.getD_cons_zero, List.getD_cons_succ, List.getElem?_cons_succ, List.getElem?_cons_zero, Option.map_some, Option.getD_some, valsG, List.map_cons, List.map_nil, List.length_cons, List.length_nil] at hA; obtain ⟨d10, d13⟩ := hA; subst d13; simp only [fillG, List.set_cons_zero, List.set_cons_succ]; refine want_n rfl ?_)
  have tp := HT.out _ _ _ d10
  have tpc := top_cells tp 0
  have tpf := top_free tp 0
  have HA := hide (HP.out _ _ _ d10)
  have hsl : ∃ n A c, u10 = Value.slice A n c := by
    obtain ⟨Wb, _, _, _, ho, _⟩ := d10
    obtain ⟨A, c, e⟩ := own_slice ho
    exact ⟨_, A, c, e⟩
  obtain ⟨n9, A8, c8, e8⟩ := hsl
  subst e8
  clear d10 HT HP tp hW hE c3 hrow hroom his t30 t31 T30 T31
  simp only [List.getElem?_toArray, List.getElem?_cons_succ, List.getElem?_cons_zero] at tpc
  go_wp2
  go_ret
  exact ⟨rfl, HA.out⟩
set_option maxHeartbeats 4000000 in
theorem netTwice1 {p : Nat} {S : Nat → Prop} {R : Em.Nt} (w : World) (h : NetP w p S R) (k : Nat) (hkl : k < (R 1).length) (hh : R.has 1 k = true) (hr : R.room 1 = true) (hsm : ∀ m ∈ R 1, m.1.length ≤ 1000000) : Calls Try.prog 19 #[.pointer (some ⟨p, 0, none⟩), .int .i64 1, .int .i64 k] w fun e w' => e = .returned (.bool true) ∧ AftP w p S (R.twice 1 k) w' := by
  have his := netIs w h 1 k
  have hroom := netRoom w h 1
  rw [hh] at his
  rw [hr] at hroom
  obtain ⟨vs, ms, h, hS, hl⟩ := h
  obtain ⟨ad, rc, bA, bn, bc, f, l, hre, hmk, hRk, b0, b1, hbn, hbo⟩ := h.read 1 k hkl
  have hs : R.twice 1 k = up R 1 (R 1 ++ [(l, f)]) := by
    rw [Em.Nt.twice, hh, hr, show R.at 1 k = (l, f) from Em.Nt.at_get hRk]
    rfl
  rw [hs]
  have hlt : (R 1).length < 64 := (of_decide_eq_true hr).2
  have hlen := h.len 1
  have hlm : l.length ≤ 1000000 := hsm _ (List.mem_of_getElem? hRk)
  have hpl : p < w.heap.size := hl p (hS .top p rfl)
  have tp := top_cells h.top 1
  have c0 : w.cell? ⟨p, 1, none⟩ = some (vs 1) := tp
  have hrow := h.row 1
  have HP := hide fun (W : World) (v' u : Value) (hp : MPush 70 5 w (vs 1) (ms 1) l f u W v') => MPush.after h hS hl (j := 1) (by omega) hp
  have HT := hide fun (W : World) (v' u : Value) (hp : MPush 70 5 w (vs 1) (ms 1) l f u W v') => MPush.top h (j := 1) hp
  have HB := hide (Bs.of_own hbo)
  have hml : (ms 1).length < 64 := by omega
  have hkm : k < (ms 1).length := by omega
  clear hs hh hr hlt hlen hbo hsm hRk hmk hkl
  generalize hmsj : ms 1 = mj at *
  generalize hvj : vs 1 = vj at *
  subst hre hbn
  clear h tp hS hl
  go_enter Try.func19, Try.ntmps19
  go_wp2_with fail
  refine his.mono ?_
  rintro e w' ⟨rfl, rfl⟩
  go_wp2_with fail
  refine hroom.mono ?_
  rintro e w' ⟨rfl, rfl⟩
  go_wp2_with fail
  have k1 : Keep w (w.alloc (.cells #[.slice bA l.length bc, .bool f] 70)) := (by repeat (first | exact Keep.rf _ | assumption | apply Keep.al | apply Keep.dr | apply Keep.dn))
  refine (netClone _ l _ (HB.out.keep k1) hlm).mono ?_
  rintro e w2 ⟨A9, c9, rfl, o9, k2⟩
  have kk2 := Keep.tr k1 k2
  have tb := (k2.frm fun _ => False).heap (fun h => h) (heap_alloc_new w (.cells #[.slice bA l.length bc, .bool f] 70))
  have tbc := top_cells tb 0
  have tbf := top_free tb 0
  simp only [List.getElem?_toArray, List.getElem?_cons_succ, List.getElem?_cons_zero] at tbc
  have hne : ∀ q, (Value.slice A9 l.length c9).ownBlock = some q → q ≠ w.heap.size := fun q hq e => by
    have := (World.ownsRow.lt (clone_own o9) q hq).1
    simp at this
    omega
  have o3 : Ob (w2.setCell ⟨w.heap.size, 0, none⟩ (.slice A9 l.length c9)) w.heap.size 5 (.slice A9 l.length c9) l := set_own (own_lower (clone_own o9) (by simp)) hne
  have k3 : Keep w (w2.setCell ⟨w.heap.size, 0, none⟩ (.slice A9 l.length c9)) := Keep.st kk2 (p := ⟨w.heap.size, 0, none⟩) (Nat.le_refl _) _
  have t3 := heap_set1 (j := 0) tb (.slice A9 l.length c9)
  have t30 := top_cells t3 0
  have t31 := top_cells t3 1
  have O3 := hide o3
  have K3 := hide k3
  have c3 := Keep.cell k3 c0
  have T30 := hide t30
  have T31 := hide t31
  clear tb o9 hne o3 t3 k3 t30 t31 kk2 k2 k1 HB b0 b1
  go_wp2_with fail
  generalize World.setCell _ _ _ = W3 at *
  have t30 : W3.cell? ⟨w.heap.size, 0, none⟩ = some (.slice A9 l.length c9) := T30.out
  have t31 : W3.cell? ⟨w.heap.size, 1, none⟩ = some (.bool f) := T31.out
  have k3 := K3.out
  have o3 := O3.out
  clear tbc tbf c0
  apply region_last 14 _ (by kernel_rfl) Keep AnyW krg ktg anyrf anytr anyk [some 32, some 33, some 34, some 35, some 36, some 37, some 38, some 39, some 40, some 41, some 42, some 43, some 44, some 45, none] [eqG _ , eqG _ , eqG _ , eqG _ , eqG _ , eqG _ , eqG _ , eqG _ , eqG _ , fun us W v => ∃ g, v = .slice (some ⟨g, 0, none⟩) 1 1 ∧ W.heap[g]? = some (.cells #[.slice A9 l.length c9, .bool f] 70), fun us W v => MPush 70 5 w (.slice (some ad) mj.length rc) mj l f (.slice A9 l.length c9) W v, eqG _ , eqG _ , eqG _ , fun _ _ _ => True] [⟨[], [], false, false, false⟩, ⟨[], [], false, false, false⟩, ⟨[], [], true, false, false⟩, ⟨[], [], true, false, false⟩, ⟨[2], [], true, false, false⟩, ⟨[4], [], true, false, false⟩, ⟨[3, 5], [], true, false, false⟩, ⟨[6], [], true, false, false⟩, ⟨[], [], true, false, false⟩, ⟨[8], [], true, false, true⟩, ⟨[7, 9], [], true, true, true⟩, ⟨[0], [], false, false, false⟩, ⟨[11], [], false, false, false⟩, ⟨[1, 12], [], false, false, false⟩, ⟨[10, 13], [], false, false, false⟩] [10, 13] (by kernel_rfl) (by kernel_rfl) (by kernel_rfl) rfl (by kernel_rfl)
  · refine ⟨?_, ?_, ?_, ?_, ?_, ?_, ?_, ?_, ?_, ?_, ?_, ?_, ?_, ?_, trivial⟩
    · (intro us W h9 hW hE hd hs K hK; obtain ⟨u0, u1, u2, u3, u4, u5, u6, u7, u8, u9, u10, u11, u12, u13, u14, rfl⟩ := rog 15 h9 rfl; clear h9; clear hd; clear hs; simp only [fillG, List.set_cons_zero, List.set_cons_succ]; refine want_n rfl ?_; go_wp2_with (first | fail); simp only [DoneG, fillG, List.set_cons_zero, List.set_cons_succ, relG, eqG, eqG1, eqG2, eqG3, gdG, gdG1, gnG, gnG1, List.getD_cons_zero, List.getD_cons_succ, List.getElem?_cons_succ, List.getElem?_cons_zero, Option.map_some, Option.getD_some, valsG, List.map_cons, List.map_nil, List.length_cons, List.length_nil]; exact ⟨_, rfl, (by first | with_reducible assumption | exact krg _ | exact Keep.al (krg _) _), fun _ _ => rfl⟩)
    · (intro us W h9 hW hE hd hs K hK; obtain ⟨u0, u1, u2, u3, u4, u5, u6, u7, u8, u9, u10, u11, u12, u13, u14, rfl⟩ := rog 15 h9 rfl; clear h9; clear hd; clear hs; simp only [fillG, List.set_cons_zero, List.set_cons_succ]; refine want_n rfl ?_; go_wp2_with (first | fail); simp only [DoneG, fillG, List.set_cons_zero, List.set_cons_succ, relG, eqG, eqG1, eqG2, eqG3, gdG, gdG1, gnG, gnG1, List.getD_cons_zero, List.getD_cons_succ, List.getElem?_cons_succ, List.getElem?_cons_zero, Option.map_some, Option.getD_some, valsG, List.map_cons, List.map_nil, List.length_cons, List.length_nil]; exact ⟨_, rfl, (by first | with_reducible assumption | exact krg _ | exact Keep.al (krg _) _), fun _ _ => rfl⟩)
    · (intro us W h9 hW hE hd hs K hK; obtain ⟨u0, u1, u2, u3, u4, u5, u6, u7, u8, u9, u10, u11, u12, u13, u14, rfl⟩ := rog 15 h9 rfl; clear h9; clear hd; clear hs; simp only [fillG, List.set_cons_zero, List.set_cons_succ]; refine want_n rfl ?_; go_wp2_with (first | fail); simp only [DoneG, fillG, List.set_cons_zero, List.set_cons_succ, relG, eqG, eqG1, eqG2, eqG3, gdG, gdG1, gnG, gnG1, List.getD_cons_zero, List.getD_cons_succ, List.getElem?_cons_succ, List.getElem?_cons_zero, Option.map_some, Option.getD_some, valsG, List.map_cons, List.map_nil, List.length_cons, List.length_nil]; exact ⟨_, rfl, (by first | with_reducible assumption | exact krg _ | exact Keep.al (krg _) _), fun _ _ => rfl⟩)
    · (intro us W h9 hW hE hd hs K hK; obtain ⟨u0, u1, u2, u3, u4, u5, u6, u7, u8, u9, u10, u11, u12, u13, u14, rfl⟩ := rog 15 h9 rfl; clear h9; clear hd; clear hs; simp only [fillG, List.set_cons_zero, List.set_cons_succ]; refine want_n rfl ?_; go_wp2_with (first | fail); simp only [DoneG, fillG, List.set_cons_zero, List.set_cons_succ, relG, eqG, eqG1, eqG2, eqG3, gdG, gdG1, gnG, gnG1, List.getD_cons_zero, List.getD_cons_succ, List.getElem?_cons_succ, List.getElem?_cons_zero, Option.map_some, Option.getD_some, valsG, List.map_cons, List.map_nil, List.length_cons, List.length_nil]; exact ⟨_, rfl, (by first | with_reducible assumption | exact krg _ | exact Keep.al (krg _) _), fun _ _ => rfl⟩)
    · (intro us W h9 hW hE hd hs K hK; obtain ⟨u0, u1, u2, u3, u4, u5, u6, u7, u8, u9, u10, u11, u12, u13, u14, rfl⟩ := rog 15 h9 rfl; clear h9; simp only [DepG, AtG, and_true, relG, eqG, eqG1, eqG2, eqG3, gdG, gdG1, gnG, gnG1, List.getD_cons_zero, List.getD_cons_succ, List.getElem?_cons_succ, List.getElem?_cons_zero, Option.map_some, Option.getD_some, valsG, List.map_cons, List.map_nil, List.length_cons, List.length_nil] at hd; have d2 := hd; clear hd; subst d2; clear hs; simp only [fillG, List.set_cons_zero, List.set_cons_succ]; refine want_n rfl ?_; go_wp2_with (first | fail); simp only [DoneG, fillG, List.set_cons_zero, List.set_cons_succ, relG, eqG, eqG1, eqG2, eqG3, gdG, gdG1, gnG, gnG1, List.getD_cons_zero, List.getD_cons_succ, List.getElem?_cons_succ, List.getElem?_cons_zero, Option.map_some, Option.getD_some, valsG, List.map_cons, List.map_nil, List.length_cons, List.length_nil]; exact ⟨_, rfl, (by first | with_reducible assumption | exact krg _ | exact Keep.al (krg _) _), fun _ _ => rfl⟩)
    · (intro us W h9 hW hE hd hs K hK; obtain ⟨u0, u1, u2, u3, u4, u5, u6, u7, u8, u9, u10, u11, u12, u13, u14, rfl⟩ := rog 15 h9 rfl; clear h9; simp only [DepG, AtG, and_true, relG, eqG, eqG1, eqG2, eqG3, gdG, gdG1, gnG, gnG1, List.getD_cons_zero, List.getD_cons_succ, List.getElem?_cons_succ, List.getElem?_cons_zero, Option.map_some, Option.getD_some, valsG, List.map_cons, List.map_nil, List.length_cons, List.length_nil] at hd; have d4 := hd; clear hd; subst d4; clear hs; simp only [fillG, List.set_cons_zero, List.set_cons_succ]; refine want_n rfl ?_; go_wp2_with (first | fail); simp only [DoneG, fillG, List.set_cons_zero, List.set_cons_succ, relG, eqG, eqG1, eqG2, eqG3, gdG, gdG1, gnG, gnG1, List.getD_cons_zero, List.getD_cons_succ, List.getElem?_cons_succ, List.getElem?_cons_zero, Option.map_some, Option.getD_some, valsG, List.map_cons, List.map_nil, List.length_cons, List.length_nil]; exact ⟨_, rfl, (by first | with_reducible assumption | exact krg _ | exact Keep.al (krg _) _), fun _ _ => rfl⟩)
    · (intro us W h9 hW hE hd hs K hK; obtain ⟨u0, u1, u2, u3, u4, u5, u6, u7, u8, u9, u10, u11, u12, u13, u14, rfl⟩ := rog 15 h9 rfl; clear h9; simp only [DepG, AtG, and_true, relG, eqG, eqG1, eqG2, eqG3, gdG, gdG1, gnG, gnG1, List.getD_cons_zero, List.getD_cons_succ, List.getElem?_cons_succ, List.getElem?_cons_zero, Option.map_some, Option.getD_some, valsG, List.map_cons, List.map_nil, List.length_cons, List.length_nil] at hd; obtain ⟨d3, d5⟩ := hd; subst d3; subst d5; clear hs; simp only [fillG, List.set_cons_zero, List.set_cons_succ]; refine want_n rfl ?_; go_wp2_with (first | fail); simp only [DoneG, fillG, List.set_cons_zero, List.set_cons_succ, relG, eqG, eqG1, eqG2, eqG3, gdG, gdG1, gnG, gnG1, List.getD_cons_zero, List.getD_cons_succ, List.getElem?_cons_succ, List.getElem?_cons_zero, Option.map_some, Option.getD_some, valsG, List.map_cons, List.map_nil, List.length_cons, List.length_nil]; exact ⟨_, rfl, (by first | with_reducible assumption | exact krg _ | exact Keep.al (krg _) _), fun _ _ => rfl⟩)
    · (intro us W h9 hW hE hd hs K hK; obtain ⟨u0, u1, u2, u3, u4, u5, u6, u7, u8, u9, u10, u11, u12, u13, u14, rfl⟩ := rog 15 h9 rfl; clear h9; simp only [DepG, AtG, and_true, relG, eqG, eqG1, eqG2, eqG3, gdG, gdG1, gnG, gnG1, List.getD_cons_zero, List.getD_cons_succ, List.getElem?_cons_succ, List.getElem?_cons_zero, Option.map_some, Option.getD_some, valsG, List.map_cons, List.map_nil, List.length_cons, List.length_nil] at hd; have d6 := hd; clear hd; subst d6; clear hs; simp only [fillG, List.set_cons_zero, List.set_cons_succ]; have hKW := Keep.tr (Keep.dr (Keep.rf _)) (hE rfl); have c3 := Keep.cell hKW c3; have t30 := Keep.cell hKW t30; have t31 := Keep.cell hKW t31; refine want_n rfl ?_; go_wp2_with (first | fail); simp only [DoneG, fillG, List.set_cons_zero, List.set_cons_succ, relG, eqG, eqG1, eqG2, eqG3, gdG, gdG1, gnG, gnG1, List.getD_cons_zero, List.getD_cons_succ, List.getElem?_cons_succ, List.getElem?_cons_zero, Option.map_some, Option.getD_some, valsG, List.map_cons, List.map_nil, List.length_cons, List.length_nil]; exact ⟨_, rfl, (by first | with_reducible assumption | exact krg _ | exact Keep.al (krg _) _), fun _ _ => rfl⟩)
    · (intro us W h9 hW hE hd hs K hK; obtain ⟨u0, u1, u2, u3, u4, u5, u6, u7, u8, u9, u10, u11, u12, u13, u14, rfl⟩ := rog 15 h9 rfl; clear h9; clear hd; clear hs; simp only [fillG, List.set_cons_zero, List.set_cons_succ]; have hKW := Keep.tr (Keep.dr (Keep.rf _)) (hE rfl); have c3 := Keep.cell hKW c3; have t30 := Keep.cell hKW t30; have t31 := Keep.cell hKW t31; refine want_n rfl ?_; go_wp2_with (first | fail); simp only [DoneG, fillG, List.set_cons_zero, List.set_cons_succ, relG, eqG, eqG1, eqG2, eqG3, gdG, gdG1, gnG, gnG1, List.getD_cons_zero, List.getD_cons_succ, List.getElem?_cons_succ, List.getElem?_cons_zero, Option.map_some, Option.getD_some, valsG, List.map_cons, List.map_nil, List.length_cons, List.length_nil]; exact ⟨_, rfl, (by first | with_reducible assumption | exact krg _ | exact Keep.al (krg _) _), fun _ _ => rfl⟩)
    · (intro us W h9 hW hE hd hs K hK; obtain ⟨u0, u1, u2, u3, u4, u5, u6, u7, u8, u9, u10, u11, u12, u13, u14, rfl⟩ := rog 15 h9 rfl; clear h9; simp only [DepG, AtG, and_true, relG, eqG, eqG1, eqG2, eqG3, gdG, gdG1, gnG, gnG1, List.getD_cons_zero, List.getD_cons_succ, List.getElem?_cons_succ, List.getElem?_cons_zero, Option.map_some, Option.getD_some, valsG, List.map_cons, List.map_nil, List.length_cons, List.length_nil] at hd; have d8 := hd; clear hd; subst d8; clear hs; simp only [fillG, List.set_cons_zero, List.set_cons_succ]; have hKW := Keep.tr (Keep.dr (Keep.rf _)) (hE rfl); have c3 := Keep.cell hKW c3; have t30 := Keep.cell hKW t30; have t31 := Keep.cell hKW t31; refine want_n rfl ?_; go_wp2_with (first | fail); simp only [DoneG, fillG, List.set_cons_zero, List.set_cons_succ, relG, eqG, eqG1, eqG2, eqG3, gdG, gdG1, gnG, gnG1, List.getD_cons_zero, List.getD_cons_succ, List.getElem?_cons_succ, List.getElem?_cons_zero, Option.map_some, Option.getD_some, valsG, List.map_cons, List.map_nil, List.length_cons, List.length_nil]; exact ⟨_, rfl, (by first | with_reducible assumption | exact krg _ | exact Keep.al (krg _) _), fun W9 hk9 => ⟨_, rfl, (hk9.frm fun _ => False).heap (fun h => h) (heap_alloc_new _ _)⟩⟩)
    · (intro us W h9 hW hE hd hs K hK; obtain ⟨u0, u1, u2, u3, u4, u5, u6, u7, u8, u9, u10, u11, u12, u13, u14, rfl⟩ := rog 15 h9 rfl; clear h9; simp only [DepG, AtG, and_true, relG, eqG, eqG1, eqG2, eqG3, gdG, gdG1, gnG, gnG1, List.getD_cons_zero, List.getD_cons_succ, List.getElem?_cons_succ, List.getElem?_cons_zero, Option.map_some, Option.getD_some, valsG, List.map_cons, List.map_nil, List.length_cons, List.length_nil] at hd; obtain ⟨d7, d9⟩ := hd; subst d7; obtain ⟨g9, rfl, d9⟩ := d9; clear hs; simp only [fillG, List.set_cons_zero, List.set_cons_succ]; have hKW := Keep.tr (Keep.dr (Keep.rf _)) (hE rfl); have c3 := Keep.cell hKW c3; have t30 := Keep.cell hKW t30; have t31 := Keep.cell hKW t31; refine want_n rfl ?_; refine wp_app (.tmp 39) (.tmp 41) 64 rfl 0 70 _ 2 32 Try.underlying64 infoM rfl (by omega) _ mj.length _ rfl (own_keep hrow (Keep.tr k3 hKW)) _ 1 _ rfl (src_pair d9) (one_pair _ _ ⟨_, _, _, rfl⟩) (by simp only [maxLen]; omega) (by omega) (Nat.zero_le _) ?_; intro v12 w12 ha; refine hK _ _ ?_; simp only [DoneG, fillG, List.set_cons_zero, List.set_cons_succ, relG, eqG, eqG1, eqG2, eqG3, gdG, gdG1, gnG, gnG1, List.getD_cons_zero, List.getD_cons_succ, List.getElem?_cons_succ, List.getElem?_cons_zero, Option.map_some, Option.getD_some, valsG, List.map_cons, List.map_nil, List.length_cons, List.length_nil]; exact ⟨_, rfl, (by first | with_reducible assumption | exact trivial), fun W9 hk9 => (MPush.mk (Keep.tr k3 hKW) (clone_own (o3.keep hKW)) ha).keep hk9⟩)
    · (intro us W h9 hW hE hd hs K hK; obtain ⟨u0, u1, u2, u3, u4, u5, u6, u7, u8, u9, u10, u11, u12, u13, u14, rfl⟩ := rog 15 h9 rfl; clear h9; simp only [DepG, AtG, and_true, relG, eqG, eqG1, eqG2, eqG3, gdG, gdG1, gnG, gnG1, List.getD_cons_zero, List.getD_cons_succ, List.getElem?_cons_succ, List.getElem?_cons_zero, Option.map_some, Option.getD_some, valsG, List.map_cons, List.map_nil, List.length_cons, List.length_nil] at hd; have d0 := hd; clear hd; subst d0; clear hs; simp only [fillG, List.set_cons_zero, List.set_cons_succ]; refine want_n rfl ?_; go_wp2_with (first | fail); simp only [DoneG, fillG, List.set_cons_zero, List.set_cons_succ, relG, eqG, eqG1, eqG2, eqG3, gdG, gdG1, gnG, gnG1, List.getD_cons_zero, List.getD_cons_succ, List.getElem?_cons_succ, List.getElem?_cons_zero, Option.map_some, Option.getD_some, valsG, List.map_cons, List.map_nil, List.length_cons, List.length_nil]; exact ⟨_, rfl, (by first | with_reducible assumption | exact krg _ | exact Keep.al (krg _) _), fun _ _ => rfl⟩)
    · (intro us W h9 hW hE hd hs K hK; obtain ⟨u0, u1, u2, u3, u4, u5, u6, u7, u8, u9, u10, u11, u12, u13, u14, rfl⟩ := rog 15 h9 rfl; clear h9; simp only [DepG, AtG, and_true, relG, eqG, eqG1, eqG2, eqG3, gdG, gdG1, gnG, gnG1, List.getD_cons_zero, List.getD_cons_succ, List.getElem?_cons_succ, List.getElem?_cons_zero, Option.map_some, Option.getD_some, valsG, List.map_cons, List.map_nil, List.length_cons, List.length_nil] at hd; have d11 := hd; clear hd; subst d11; clear hs; simp only [fillG, List.set_cons_zero, List.set_cons_succ]; refine want_n rfl ?_; go_wp2_with (first | fail); simp only [DoneG, fillG, List.set_cons_zero, List.set_cons_succ, relG, eqG, eqG1, eqG2, eqG3, gdG, gdG1, gnG, gnG1, List.getD_cons_zero, List.getD_cons_succ, List.getElem?_cons_succ, List.getElem?_cons_zero, Option.map_some, Option.getD_some, valsG, List.map_cons, List.map_nil, List.length_cons, List.length_nil]; exact ⟨_, rfl, (by first | with_reducible assumption | exact krg _ | exact Keep.al (krg _) _), fun _ _ => rfl⟩)
    · (intro us W h9 hW hE hd hs K hK; obtain ⟨u0, u1, u2, u3, u4, u5, u6, u7, u8, u9, u10, u11, u12, u13, u14, rfl⟩ := rog 15 h9 rfl; clear h9; simp only [DepG, AtG, and_true, relG, eqG, eqG1, eqG2, eqG3, gdG, gdG1, gnG, gnG1, List.getD_cons_zero, List.getD_cons_succ, List.getElem?_cons_succ, List.getElem?_cons_zero, Option.map_some, Option.getD_some, valsG, List.map_cons, List.map_nil, List.length_cons, List.length_nil] at hd; obtain ⟨d1, d12⟩ := hd; subst d1; subst d12; clear hs; simp only [fillG, List.set_cons_zero, List.set_cons_succ]; refine want_n rfl ?_; go_wp2_with (first | fail); simp only [DoneG, fillG, List.set_cons_zero, List.set_cons_succ, relG, eqG, eqG1, eqG2, eqG3, gdG, gdG1, gnG, gnG1, List.getD_cons_zero, List.getD_cons_succ, List.getElem?_cons_succ, List.getElem?_cons_zero, Option.map_some, Option.getD_some, valsG, List.map_cons, List.map_nil, List.length_cons, List.length_nil]; exact ⟨_, rfl, (by first | with_reducible assumption | exact krg _ | exact Keep.al (krg _) _), fun _ _ => rfl⟩)
  (intro us W5 h9 hW hE hA hl9; obtain ⟨u0, u1, u2, u3, u4, u5, u6, u7, u8, u9, u10, u11, u12, u13, u14, rfl⟩ := rog 15 h9 rfl; clear h9; clear hl9; simp only [AllG, AtG, and_true, relG, eqG, eqG1, eqG2, eqG3, gdG, gdG1, gnG, gnG1, List.getD_cons_zero, List.getD_cons_succ, List.getElem?_cons_succ, List.getElem?_cons_zero, Option.map_some, Option.getD_some, valsG, List.map_cons, List.map_nil, List.length_cons, List.length_nil] at hA; obtain ⟨d10, d13⟩ := hA; subst d13; simp only [fillG, List.set_cons_zero, List.set_cons_succ]; refine want_n rfl ?_)
  have tp := HT.out _ _ _ d10
  have tpc := top_cells tp 1
  have tpf := top_free tp 1
  have HA := hide (HP.out _ _ _ d10)
  have hsl : ∃ n A c, u10 = Value.slice A n c := by
    obtain ⟨Wb, _, _, _, ho, _⟩ := d10
    obtain ⟨A, c, e⟩ := own_slice ho
    exact ⟨_, A, c, e⟩
  obtain ⟨n9, A8, c8, e8⟩ := hsl
  subst e8
  clear d10 HT HP tp hW hE c3 hrow hroom his t30 t31 T30 T31
  simp only [List.getElem?_toArray, List.getElem?_cons_succ, List.getElem?_cons_zero] at tpc
  go_wp2
  go_ret
  exact ⟨rfl, HA.out⟩
set_option maxHeartbeats 1000000 in
theorem netTwiceNo {p : Nat} {S : Nat → Prop} {R : Em.Nt} (w : World) (h : NetP w p S R) (way i : Int) (hr : (R.has way i && R.room way) = false) : Calls Try.prog 19 #[.pointer (some ⟨p, 0, none⟩), .int .i64 way, .int .i64 i] w fun e w' => e = .returned (.bool false) ∧ AftP w p S (R.twice way i) w' := by
  have his := netIs w h way i
  have hroom := netRoom w h way
  have hs : R.twice way i = R := by rw [Em.Nt.twice, hr]; rfl
  rw [hs]
  have HA := hide fun W (k : Keep w W) => h.after k
  clear h hs
  generalize R.has way i = x at *
  generalize R.room way = y at *
  cases x with
  | false =>
    clear hroom hr
    go_enter Try.func19, Try.ntmps19
    go_wp2_with fail
    refine his.mono ?_
    rintro e w' ⟨rfl, rfl⟩
    go_wp2_with fail
    go_ret
    exact ⟨rfl, HA.out _ (by repeat (first | exact Keep.rf _ | assumption | apply Keep.al | apply Keep.dr | apply Keep.dn))⟩
  | true =>
    have hy : y = false := by simpa using hr
    subst hy
    clear hr
    go_enter Try.func19, Try.ntmps19
    go_wp2_with fail
    refine his.mono ?_
    rintro e w' ⟨rfl, rfl⟩
    go_wp2_with fail
    refine hroom.mono ?_
    rintro e w' ⟨rfl, rfl⟩
    go_wp2_with fail
    go_ret
    exact ⟨rfl, HA.out _ (by repeat (first | exact Keep.rf _ | assumption | apply Keep.al | apply Keep.dr | apply Keep.dn))⟩
theorem netTwice {p : Nat} {S : Nat → Prop} {R : Em.Nt} (w : World) (h : NetP w p S R) (way i : Int) (hsm : ∀ j, ∀ m ∈ R j, m.1.length ≤ 1000000) : Calls Try.prog 19 #[.pointer (some ⟨p, 0, none⟩), .int .i64 way, .int .i64 i] w fun e w' => e = .returned (.bool (R.has way i && R.room way)) ∧ AftP w p S (R.twice way i) w' := by
  cases hr : (R.has way i && R.room way) with
  | false => exact netTwiceNo w h way i hr
  | true =>
    rw [Bool.and_eq_true] at hr
    obtain ⟨j, k, rfl, rfl, hj, hk⟩ := has_lt hr.1
    rcases hj with rfl | rfl
    · exact netTwice0 w h k hk hr.1 hr.2 (hsm 0)
    · exact netTwice1 w h k hk hr.1 hr.2 (hsm 1)
end Go.Proofs.Ytjhndioapcneoaa
