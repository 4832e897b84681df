/- Plain: a graph put into a heap, and drawn again. Walks: what a block needs; a value as a word (package shape, and its reference). Walks: a block is put (closures of Build, package shape; Put of the reference). A graph in memory that lies away from some blocks. -/
import Derived.Test.YtoehaijmkmdggaaGreatGBldU
import Derived.Test.YtoehaijmkmdggaaGreatGBldI
import Derived.Test.YtoehaijmkmdggaaGreatGDrawT
import Derived.Test.YtoehaijmkmdggaaGreatGHeapB
import Derived.Test.YtoehaijmkmdggaaGreatGBldK
set_option linter.unusedSimpArgs false
set_option linter.unusedVariables false
namespace Go.Proofs.YtoehaijmkmdggaaGreat
set_option linter.unusedVariables false
namespace Em
end Em
end Go.Proofs.YtoehaijmkmdggaaGreat
namespace Go.Proofs.YtoehaijmkmdggaaGreat
open Go.RowKit Go.Maps
set_option linter.unusedVariables false
set_option linter.unusedSimpArgs false
set_option maxRecDepth 100000
theorem shapeFields (w : World) (t : Int) (s : List UInt8) (A : Option Addr) (n c : Nat) (hs : s.length ≤ 100000) (hn : n ≤ 100000) : Calls Tryz.prog 26 #[.agg #[.int .i64 t, .string (str s), .slice A n c]] w fun e w' => e = .returned (.int .i64 ((s.length + n : Nat) : Int)) ∧ Keep w w' := by
  have hsz := str_size s
  go_enter Tryz.func26, Tryz.ntmps26
  go_wp2_with fail
  go_ret
  exact ⟨ret_int (by simp), (by repeat (first | exact Keep.rf _ | assumption | apply Keep.al | apply Keep.dr | apply Keep.dn))⟩
theorem is_cell {w : World} {A : Option Addr} {n c : Nat} {l : List Int} (h : Is w (.slice A n c) l) {k : Nat} (hk : k < l.length) : n = l.length ∧ ∃ ad, A = some ad ∧ w.cell? (ad.add k) = some (.int .i64 l[k]) := by
  obtain ⟨A', c', e, _, _, h3⟩ := h
  cases e
  simp only [List.length_map] at h3 ⊢
  obtain ⟨ad, rfl, h4⟩ := h3 (by simpa using (by omega : 0 < l.length))
  refine ⟨trivial, ad, rfl, ?_⟩
  have := h4 k (by simpa using hk)
  simpa using this
set_option maxHeartbeats 4000000 in
theorem refWord18 (w : World) (x : Bool × Int) (v : Value) (ws : List Int) (hv : Is w v ws) (hx : Em.refOk ws.length x) : Calls Tryz.prog 42 #[.agg #[.bool x.1, .int .i64 x.2], v] w fun e w' => e = .returned (.int .i64 (Em.wordG ws x)) ∧ Keep w w' := by
  obtain ⟨x1, x2⟩ := x
  obtain ⟨A, c, rfl, v1, v2, _⟩ := id hv
  simp only [List.length_map] at v1 ⊢
  cases x1 with
  | true =>
    have HX := hide (show Em.wordG ws (true, x2) = intW x2 from rfl)
    go_enter Tryz.func42, Tryz.ntmps42
    go_wp2_with fail
    refine (refInt x2 _).mono ?_
    rintro e w' ⟨rfl, rfl⟩
    generalize intW x2 = y at *
    go_wp2_with fail
    go_ret
    rw [HX.out]
    exact ⟨rfl, (by repeat (first | exact Keep.rf _ | assumption | apply Keep.al | apply Keep.dr | apply Keep.dn))⟩
  | false =>
    obtain ⟨k, rfl⟩ : ∃ k : Nat, x2 = (k : Int) := by
      rcases hx with ⟨h, _⟩ | ⟨_, h, _⟩
      · cases h
      · exact ⟨x2.toNat, by omega⟩
    have hk : k < ws.length := by
      rcases hx with ⟨h, _⟩ | ⟨_, _, h⟩
      · cases h
      · simpa using h
    have hki : (k : Int) < (ws.length : Int) := by omega
    simp only [List.length_map] at hv
    obtain ⟨_, ad, rfl, hc⟩ := is_cell hv hk
    have hc' := fun o => Keep.cell ((Keep.rf w).al o) hc
    have HX := hide (show Em.wordG ws (false, (k : Int)) = ws[k] from by simp [Em.wordG, List.getD_eq_getElem?_getD, hk])
    generalize ws[k] = y at *
    go_enter Tryz.func42, Tryz.ntmps42
    go_wp2_with fail
    go_ret
    rw [HX.out]
    exact ⟨rfl, (by repeat (first | exact Keep.rf _ | assumption | apply Keep.al | apply Keep.dr | apply Keep.dn))⟩
set_option maxHeartbeats 4000000 in
theorem wordClo (w : World) (x : Bool × Int) (b : Nat) (v : Value) (ws : List Int) (hb : w.cell? ⟨b, 0, none⟩ = some v) (hv : Is w v ws) (hx : Em.refOk ws.length x) : Calls Tryz.prog 31 #[.agg #[.bool x.1, .int .i64 x.2], .pointer (some ⟨b, 0, none⟩)] w fun e w' => e = .returned (.int .i64 (Em.wordG ws x)) ∧ Keep w w' := by
  obtain ⟨x1, x2⟩ := x
  obtain ⟨A, c, rfl, v1, v2, _⟩ := id hv
  simp only [List.length_map] at v1 hb ⊢
  have hb' := fun o => Keep.cell ((Keep.rf w).al o) hb
  cases x1 with
  | true =>
    have HX := hide (show Em.wordG ws (true, x2) = intW x2 from rfl)
    go_enter Tryz.func31, Tryz.ntmps31
    go_wp2_with fail
    refine (heapInt x2 _).mono ?_
    rintro e w' ⟨rfl, rfl⟩
    generalize intW x2 = y at *
    go_wp2_with fail
    go_ret
    rw [HX.out]
    exact ⟨rfl, (by repeat (first | exact Keep.rf _ | assumption | apply Keep.al | apply Keep.dr | apply Keep.dn))⟩
  | false =>
    obtain ⟨k, rfl⟩ : ∃ k : Nat, x2 = (k : Int) := by
      rcases hx with ⟨h, _⟩ | ⟨_, h, _⟩
      · cases h
      · exact ⟨x2.toNat, by omega⟩
    have hk : k < ws.length := by
      rcases hx with ⟨h, _⟩ | ⟨_, _, h⟩
      · cases h
      · simpa using h
    have hki : (k : Int) < (ws.length : Int) := by omega
    simp only [List.length_map] at hv
    obtain ⟨_, ad, rfl, hc⟩ := is_cell hv hk
    have hc' := fun o => Keep.cell ((Keep.rf w).al o) hc
    have HX := hide (show Em.wordG ws (false, (k : Int)) = ws[k] from by simp [Em.wordG, List.getD_eq_getElem?_getD, hk])
    generalize ws[k] = y at *
    go_enter Tryz.func31, Tryz.ntmps31
    go_wp2_with fail
    go_ret
    rw [HX.out]
    exact ⟨rfl, (by repeat (first | exact Keep.rf _ | assumption | apply Keep.al | apply Keep.dr | apply Keep.dn))⟩
theorem need_drop {bs : List Em.Blk} {j : Nat} (h : j < bs.length) : Em.needN (bs.drop j) = (1 + (bs[j].str.length + bs[j].kids.length)) + Em.needN (bs.drop (j + 1)) := by
  rw [List.drop_eq_getElem_cons h]
  rfl
theorem need_le {bs : List Em.Blk} {b : Em.Blk} (h : b ∈ bs) : 1 + (b.str.length + b.kids.length) ≤ Em.needN bs := by
  induction bs with
  | nil => cases h
  | cons c t ih =>
    rw [Em.needN]
    rcases List.mem_cons.1 h with rfl | h
    · omega
    · have := ih h
      omega
theorem need_len (bs : List Em.Blk) : bs.length ≤ Em.needN bs := by
  induction bs with
  | nil => simp
  | cons c t ih =>
    rw [Em.needN, List.length_cons]
    omega
set_option maxHeartbeats 8000000 in
theorem refWords18 (w : World) (gv : Value) (g : Em.Gr) (h : GrV w gv g) (hn : Em.needN g.blocks ≤ 100000) : Calls Tryz.prog 39 #[gv] w fun e w' => e = .returned (.int .i64 (Em.needN g.blocks : Int)) ∧ Keep w w' := by
  obtain ⟨u, rfl, hrw, hsl⟩ := h
  obtain ⟨uA, uc, rfl, hlc, hcm, hr⟩ := hsl
  obtain ⟨⟨g1, g2⟩, bs⟩ := g
  simp only at hrw hlc hr hn ⊢
  have hA := heap_alloc_new w (.cells #[.bool g1, .int .i64 g2, .slice uA bs.length uc] 62)
  have K1 : Keep w (w.alloc (.cells #[.bool g1, .int .i64 g2, .slice uA bs.length uc] 62)) := (by repeat (first | exact Keep.rf _ | assumption | apply Keep.al | apply Keep.dr | apply Keep.dn))
  have a2 := top_cells hA 2
  simp only [List.getElem?_toArray, List.getElem?_cons_succ, List.getElem?_cons_zero] at a2
  have HK1 := hide K1
  have hnl := need_len bs
  generalize hN : Em.needN bs = N at *
  have HN := hide hN
  clear K1 hA hN
  go_enter Tryz.func39, Tryz.ntmps39
  go_wp2_with fail
  generalize World.alloc w _ = w1 at *
  go_loopw [3, 4] (fun m i W => ∃ (j : Nat) (x : Nat), j ≤ bs.length ∧ i = .int .i64 (j : Int) ∧ m = .int .i64 (x : Int) ∧ x + Em.needN (bs.drop j) = N ∧ Keep w1 W) (fun _ i _ => bs.length - (intOf i).toNat)
  case atStart => exact ⟨0, 0, by omega, rfl, rfl, by rw [← HN.out]; simp, Keep.rf _⟩
  case round =>
    obtain ⟨j, x, hj, rfl, rfl, hx, hk⟩ := hrel
    have HX := hide hx
    have a2r := Keep.cell hk a2
    have HK := hide hk
    have HKW := hide (Keep.tr HK1.out hk)
    clear hx hk
    by_cases hlt : j < bs.length
    · have hlti : (j : Int) < (bs.length : Int) := by omega
      obtain ⟨ad, rfl, hcell⟩ := hr (by omega)
      obtain ⟨cs, hcs, hcl, hkt⟩ := hcell j hlt
      have hdr := need_drop hlt
      have hxx := HX.out
      rw [hdr] at hxx
      generalize bs[j] = b at *
      obtain ⟨kv, rfl, hbw, hks⟩ := hkt
      obtain ⟨kA, kc, rfl, kl, km, _⟩ := hks
      have q0 := Keep.cell HKW.out (hcl 0 _ rfl)
      rw [Nat.add_zero] at q0
      have q1 := cell_off (Keep.cell HKW.out (hcl 1 _ rfl))
      have q2 := cell_off (Keep.cell HKW.out (hcl 2 _ rfl))
      have hsz := str_size b.str
      have HR := hide hr
      have HXX := hide hxx
      have hb1 : x + 1 + b.str.length + b.kids.length ≤ 100000 := by omega
      clear hcell hcl hr hdr hcs hxx
      go_wp2_with fail
      apply region_all (by kernel_rfl) Keep Keep krg ktg krg ktg (fun _ _ h => h) [some 12, some 13, some 14, some 15, some 16, some 17, some 18, some 19, some 20, some 21, some 22, some 23, some 24, some 25, some 26, some 27, some 28, some 29, some 3] [eqG _ , eqG _ , eqG _ , eqG _ , eqG _ , eqG _ , eqG _ , eqG _ , eqG _ , eqG _ , eqG _ , eqG _ , eqG _ , eqG _ , eqG _ , eqG _ , eqG _ , eqG _ , eqG _ ] [⟨[], [18], true, false, false⟩, ⟨[0], [], true, false, false⟩, ⟨[], [], true, false, false⟩, ⟨[2], [], true, false, false⟩, ⟨[], [], true, false, false⟩, ⟨[3, 4], [], true, false, false⟩, ⟨[5], [], true, false, false⟩, ⟨[6], [], true, false, false⟩, ⟨[7], [], true, false, false⟩, ⟨[1, 8], [], true, false, false⟩, ⟨[], [], true, false, false⟩, ⟨[10], [], true, false, false⟩, ⟨[], [], true, false, false⟩, ⟨[11, 12], [], true, false, false⟩, ⟨[13], [], true, false, false⟩, ⟨[14], [], true, false, false⟩, ⟨[15], [], true, false, false⟩, ⟨[9, 16], [], true, false, false⟩, ⟨[17], [], true, false, false⟩] [18] (by kernel_rfl) (by kernel_rfl) 
      · refine ⟨?_, ?_, ?_, ?_, ?_, ?_, ?_, ?_, ?_, ?_, ?_, ?_, ?_, ?_, ?_, ?_, ?_, ?_, ?_, trivial⟩ <;> (intro us W h9 hW hE hd hs K hK; obtain ⟨u0, u1, u2, u3, u4, u5, u6, u7, u8, u9, u10, u11, u12, u13, u14, u15, u16, u17, u18, rfl⟩ := rog 19 h9 rfl; clear h9; try simp only [DepG, AtG, and_true, relG, eqG, eqG1, eqG2, eqG3, gdG, gdG1, gnG, gnG1, List.getD_cons_zero, List.getD_cons_succ, List.getElem?_cons_succ, List.getElem?_cons_zero, Option.map_some, Option.getD_some, valsG, List.map_cons, List.map_nil, List.length_cons, List.length_nil] at hd)
        · ((try clear hd); simp only [SameG, usG, and_true, relG, eqG, eqG1, eqG2, eqG3, gdG, gdG1, gnG, gnG1, List.getD_cons_zero, List.getD_cons_succ, List.getElem?_cons_succ, List.getElem?_cons_zero, Option.map_some, Option.getD_some, valsG, List.map_cons, List.map_nil, List.length_cons, List.length_nil] at hs; have s18 := hs; clear hs; subst s18; simp only [fillG, List.set_cons_zero, List.set_cons_succ]; refine want_n rfl ?_; go_wp2_with (first | fail); simp only [DoneG, fillG, List.set_cons_zero, List.set_cons_succ, relG, eqG, eqG1, eqG2, eqG3, gdG, gdG1, gnG, gnG1, List.getD_cons_zero, List.getD_cons_succ, List.getElem?_cons_succ, List.getElem?_cons_zero, Option.map_some, Option.getD_some, valsG, List.map_cons, List.map_nil, List.length_cons, List.length_nil]; exact ⟨_, rfl, (by first | with_reducible assumption | exact krg _ | exact Keep.al (krg _) _), fun _ _ => rfl⟩)
        · (have d0 := hd; clear hd; subst d0; clear hs; simp only [fillG, List.set_cons_zero, List.set_cons_succ]; refine want_n rfl ?_; go_wp2_with (first | fail); simp only [DoneG, fillG, List.set_cons_zero, List.set_cons_succ, relG, eqG, eqG1, eqG2, eqG3, gdG, gdG1, gnG, gnG1, List.getD_cons_zero, List.getD_cons_succ, List.getElem?_cons_succ, List.getElem?_cons_zero, Option.map_some, Option.getD_some, valsG, List.map_cons, List.map_nil, List.length_cons, List.length_nil]; exact ⟨_, rfl, (by first | with_reducible assumption | exact krg _ | exact Keep.al (krg _) _), fun _ _ => rfl⟩)
        · ((try clear hd); clear hs; simp only [fillG, List.set_cons_zero, List.set_cons_succ]; refine want_n rfl ?_; go_wp2_with (first | fail); simp only [DoneG, fillG, List.set_cons_zero, List.set_cons_succ, relG, eqG, eqG1, eqG2, eqG3, gdG, gdG1, gnG, gnG1, List.getD_cons_zero, List.getD_cons_succ, List.getElem?_cons_succ, List.getElem?_cons_zero, Option.map_some, Option.getD_some, valsG, List.map_cons, List.map_nil, List.length_cons, List.length_nil]; exact ⟨_, rfl, (by first | with_reducible assumption | exact krg _ | exact Keep.al (krg _) _), fun _ _ => rfl⟩)
        · (have d2 := hd; clear hd; subst d2; clear hs; simp only [fillG, List.set_cons_zero, List.set_cons_succ]; have hKW := Keep.tr (Keep.dr (Keep.rf _)) (hE rfl); have a2r := Keep.cell hKW a2r; have q0 := Keep.cell hKW q0; have q1 := Keep.cell hKW q1; have q2 := Keep.cell hKW q2; refine want_n rfl ?_; go_wp2_with (first | fail); simp only [DoneG, fillG, List.set_cons_zero, List.set_cons_succ, relG, eqG, eqG1, eqG2, eqG3, gdG, gdG1, gnG, gnG1, List.getD_cons_zero, List.getD_cons_succ, List.getElem?_cons_succ, List.getElem?_cons_zero, Option.map_some, Option.getD_some, valsG, List.map_cons, List.map_nil, List.length_cons, List.length_nil]; exact ⟨_, rfl, (by first | with_reducible assumption | exact krg _ | exact Keep.al (krg _) _), fun _ _ => rfl⟩)
        · ((try clear hd); clear hs; simp only [fillG, List.set_cons_zero, List.set_cons_succ]; refine want_n rfl ?_; go_wp2_with (first | fail); simp only [DoneG, fillG, List.set_cons_zero, List.set_cons_succ, relG, eqG, eqG1, eqG2, eqG3, gdG, gdG1, gnG, gnG1, List.getD_cons_zero, List.getD_cons_succ, List.getElem?_cons_succ, List.getElem?_cons_zero, Option.map_some, Option.getD_some, valsG, List.map_cons, List.map_nil, List.length_cons, List.length_nil]; exact ⟨_, rfl, (by first | with_reducible assumption | exact krg _ | exact Keep.al (krg _) _), fun _ _ => rfl⟩)
        · (obtain ⟨d3, d4⟩ := hd; subst d3; subst d4; clear hs; simp only [fillG, List.set_cons_zero, List.set_cons_succ]; refine want_n rfl ?_; go_wp2_with (first | fail); simp only [DoneG, fillG, List.set_cons_zero, List.set_cons_succ, relG, eqG, eqG1, eqG2, eqG3, gdG, gdG1, gnG, gnG1, List.getD_cons_zero, List.getD_cons_succ, List.getElem?_cons_succ, List.getElem?_cons_zero, Option.map_some, Option.getD_some, valsG, List.map_cons, List.map_nil, List.length_cons, List.length_nil]; exact ⟨_, rfl, (by first | with_reducible assumption | exact krg _ | exact Keep.al (krg _) _), fun _ _ => rfl⟩)
        · (have d5 := hd; clear hd; subst d5; clear hs; simp only [fillG, List.set_cons_zero, List.set_cons_succ]; refine want_n rfl ?_; go_wp2_with (first | fail); simp only [DoneG, fillG, List.set_cons_zero, List.set_cons_succ, relG, eqG, eqG1, eqG2, eqG3, gdG, gdG1, gnG, gnG1, List.getD_cons_zero, List.getD_cons_succ, List.getElem?_cons_succ, List.getElem?_cons_zero, Option.map_some, Option.getD_some, valsG, List.map_cons, List.map_nil, List.length_cons, List.length_nil]; exact ⟨_, rfl, (by first | with_reducible assumption | exact krg _ | exact Keep.al (krg _) _), fun _ _ => rfl⟩)
        · (have d6 := hd; clear hd; subst d6; clear hs; simp only [fillG, List.set_cons_zero, List.set_cons_succ]; have hKW := Keep.tr (Keep.dr (Keep.rf _)) (hE rfl); have a2r := Keep.cell hKW a2r; have q0 := Keep.cell hKW q0; have q1 := Keep.cell hKW q1; have q2 := Keep.cell hKW q2; refine want_n rfl ?_; go_wp2_with (first | fail); simp only [DoneG, fillG, List.set_cons_zero, List.set_cons_succ, relG, eqG, eqG1, eqG2, eqG3, gdG, gdG1, gnG, gnG1, List.getD_cons_zero, List.getD_cons_succ, List.getElem?_cons_succ, List.getElem?_cons_zero, Option.map_some, Option.getD_some, valsG, List.map_cons, List.map_nil, List.length_cons, List.length_nil]; exact ⟨_, rfl, (by first | with_reducible assumption | exact krg _ | exact Keep.al (krg _) _), fun _ _ => rfl⟩)
        · (have d7 := hd; clear hd; subst d7; clear hs; simp only [fillG, List.set_cons_zero, List.set_cons_succ]; have hKW := Keep.tr (Keep.dr (Keep.rf _)) (hE rfl); have a2r := Keep.cell hKW a2r; have q0 := Keep.cell hKW q0; have q1 := Keep.cell hKW q1; have q2 := Keep.cell hKW q2; refine want_n rfl ?_; go_wp2_with (first | fail); simp only [DoneG, fillG, List.set_cons_zero, List.set_cons_succ, relG, eqG, eqG1, eqG2, eqG3, gdG, gdG1, gnG, gnG1, List.getD_cons_zero, List.getD_cons_succ, List.getElem?_cons_succ, List.getElem?_cons_zero, Option.map_some, Option.getD_some, valsG, List.map_cons, List.map_nil, List.length_cons, List.length_nil]; exact ⟨_, rfl, (by first | with_reducible assumption | exact krg _ | exact Keep.al (krg _) _), fun _ _ => rfl⟩)
        · (obtain ⟨d1, d8⟩ := hd; subst d1; subst d8; clear hs; simp only [fillG, List.set_cons_zero, List.set_cons_succ]; refine want_n rfl ?_; go_wp2_with (first | fail); simp only [DoneG, fillG, List.set_cons_zero, List.set_cons_succ, relG, eqG, eqG1, eqG2, eqG3, gdG, gdG1, gnG, gnG1, List.getD_cons_zero, List.getD_cons_succ, List.getElem?_cons_succ, List.getElem?_cons_zero, Option.map_some, Option.getD_some, valsG, List.map_cons, List.map_nil, List.length_cons, List.length_nil]; exact ⟨_, rfl, (by first | with_reducible assumption | exact krg _ | exact Keep.al (krg _) _), fun _ _ => rfl⟩)
        · ((try clear hd); clear hs; simp only [fillG, List.set_cons_zero, List.set_cons_succ]; refine want_n rfl ?_; go_wp2_with (first | fail); simp only [DoneG, fillG, List.set_cons_zero, List.set_cons_succ, relG, eqG, eqG1, eqG2, eqG3, gdG, gdG1, gnG, gnG1, List.getD_cons_zero, List.getD_cons_succ, List.getElem?_cons_succ, List.getElem?_cons_zero, Option.map_some, Option.getD_some, valsG, List.map_cons, List.map_nil, List.length_cons, List.length_nil]; exact ⟨_, rfl, (by first | with_reducible assumption | exact krg _ | exact Keep.al (krg _) _), fun _ _ => rfl⟩)
        · (have d10 := hd; clear hd; subst d10; clear hs; simp only [fillG, List.set_cons_zero, List.set_cons_succ]; have hKW := Keep.tr (Keep.dr (Keep.rf _)) (hE rfl); have a2r := Keep.cell hKW a2r; have q0 := Keep.cell hKW q0; have q1 := Keep.cell hKW q1; have q2 := Keep.cell hKW q2; refine want_n rfl ?_; go_wp2_with (first | fail); simp only [DoneG, fillG, List.set_cons_zero, List.set_cons_succ, relG, eqG, eqG1, eqG2, eqG3, gdG, gdG1, gnG, gnG1, List.getD_cons_zero, List.getD_cons_succ, List.getElem?_cons_succ, List.getElem?_cons_zero, Option.map_some, Option.getD_some, valsG, List.map_cons, List.map_nil, List.length_cons, List.length_nil]; exact ⟨_, rfl, (by first | with_reducible assumption | exact krg _ | exact Keep.al (krg _) _), fun _ _ => rfl⟩)
        · ((try clear hd); clear hs; simp only [fillG, List.set_cons_zero, List.set_cons_succ]; refine want_n rfl ?_; go_wp2_with (first | fail); simp only [DoneG, fillG, List.set_cons_zero, List.set_cons_succ, relG, eqG, eqG1, eqG2, eqG3, gdG, gdG1, gnG, gnG1, List.getD_cons_zero, List.getD_cons_succ, List.getElem?_cons_succ, List.getElem?_cons_zero, Option.map_some, Option.getD_some, valsG, List.map_cons, List.map_nil, List.length_cons, List.length_nil]; exact ⟨_, rfl, (by first | with_reducible assumption | exact krg _ | exact Keep.al (krg _) _), fun _ _ => rfl⟩)
        · (obtain ⟨d11, d12⟩ := hd; subst d11; subst d12; clear hs; simp only [fillG, List.set_cons_zero, List.set_cons_succ]; refine want_n rfl ?_; go_wp2_with (first | fail); simp only [DoneG, fillG, List.set_cons_zero, List.set_cons_succ, relG, eqG, eqG1, eqG2, eqG3, gdG, gdG1, gnG, gnG1, List.getD_cons_zero, List.getD_cons_succ, List.getElem?_cons_succ, List.getElem?_cons_zero, Option.map_some, Option.getD_some, valsG, List.map_cons, List.map_nil, List.length_cons, List.length_nil]; exact ⟨_, rfl, (by first | with_reducible assumption | exact krg _ | exact Keep.al (krg _) _), fun _ _ => rfl⟩)
        · (have d13 := hd; clear hd; subst d13; clear hs; simp only [fillG, List.set_cons_zero, List.set_cons_succ]; refine want_n rfl ?_; go_wp2_with (first | fail); simp only [DoneG, fillG, List.set_cons_zero, List.set_cons_succ, relG, eqG, eqG1, eqG2, eqG3, gdG, gdG1, gnG, gnG1, List.getD_cons_zero, List.getD_cons_succ, List.getElem?_cons_succ, List.getElem?_cons_zero, Option.map_some, Option.getD_some, valsG, List.map_cons, List.map_nil, List.length_cons, List.length_nil]; exact ⟨_, rfl, (by first | with_reducible assumption | exact krg _ | exact Keep.al (krg _) _), fun _ _ => rfl⟩)
        · (have d14 := hd; clear hd; subst d14; clear hs; simp only [fillG, List.set_cons_zero, List.set_cons_succ]; have hKW := Keep.tr (Keep.dr (Keep.rf _)) (hE rfl); have a2r := Keep.cell hKW a2r; have q0 := Keep.cell hKW q0; have q1 := Keep.cell hKW q1; have q2 := Keep.cell hKW q2; refine want_n rfl ?_; go_wp2_with (first | fail); simp only [DoneG, fillG, List.set_cons_zero, List.set_cons_succ, relG, eqG, eqG1, eqG2, eqG3, gdG, gdG1, gnG, gnG1, List.getD_cons_zero, List.getD_cons_succ, List.getElem?_cons_succ, List.getElem?_cons_zero, Option.map_some, Option.getD_some, valsG, List.map_cons, List.map_nil, List.length_cons, List.length_nil]; exact ⟨_, rfl, (by first | with_reducible assumption | exact krg _ | exact Keep.al (krg _) _), fun _ _ => rfl⟩)
        · (have d15 := hd; clear hd; subst d15; clear hs; simp only [fillG, List.set_cons_zero, List.set_cons_succ]; have hKW := Keep.tr (Keep.dr (Keep.rf _)) (hE rfl); have a2r := Keep.cell hKW a2r; have q0 := Keep.cell hKW q0; have q1 := Keep.cell hKW q1; have q2 := Keep.cell hKW q2; refine want_n rfl ?_; go_wp2_with (first | fail); simp only [DoneG, fillG, List.set_cons_zero, List.set_cons_succ, relG, eqG, eqG1, eqG2, eqG3, gdG, gdG1, gnG, gnG1, List.getD_cons_zero, List.getD_cons_succ, List.getElem?_cons_succ, List.getElem?_cons_zero, Option.map_some, Option.getD_some, valsG, List.map_cons, List.map_nil, List.length_cons, List.length_nil]; exact ⟨_, rfl, (by first | with_reducible assumption | exact krg _ | exact Keep.al (krg _) _), fun _ _ => rfl⟩)
        · (obtain ⟨d9, d16⟩ := hd; subst d9; subst d16; clear hs; simp only [fillG, List.set_cons_zero, List.set_cons_succ]; refine want_n rfl ?_; go_wp2_with (first | fail); simp only [DoneG, fillG, List.set_cons_zero, List.set_cons_succ, relG, eqG, eqG1, eqG2, eqG3, gdG, gdG1, gnG, gnG1, List.getD_cons_zero, List.getD_cons_succ, List.getElem?_cons_succ, List.getElem?_cons_zero, Option.map_some, Option.getD_some, valsG, List.map_cons, List.map_nil, List.length_cons, List.length_nil]; exact ⟨_, rfl, (by first | with_reducible assumption | exact krg _ | exact Keep.al (krg _) _), fun _ _ => rfl⟩)
        · (have d17 := hd; clear hd; subst d17; clear hs; simp only [fillG, List.set_cons_zero, List.set_cons_succ]; refine want_n rfl ?_; go_wp2_with (first | fail); simp only [DoneG, fillG, List.set_cons_zero, List.set_cons_succ, relG, eqG, eqG1, eqG2, eqG3, gdG, gdG1, gnG, gnG1, List.getD_cons_zero, List.getD_cons_succ, List.getElem?_cons_succ, List.getElem?_cons_zero, Option.map_some, Option.getD_some, valsG, List.map_cons, List.map_nil, List.length_cons, List.length_nil]; exact ⟨_, rfl, (by first | with_reducible assumption | exact krg _ | exact Keep.al (krg _) _), fun _ _ => rfl⟩)
      (intro us W2 h9 hW hE hA; obtain ⟨u0, u1, u2, u3, u4, u5, u6, u7, u8, u9, u10, u11, u12, u13, u14, u15, u16, u17, u18, rfl⟩ := rog 19 h9 rfl; clear h9; simp only [AllG, AtG, and_true, relG, eqG, eqG1, eqG2, eqG3, gdG, gdG1, gnG, gnG1, List.getD_cons_zero, List.getD_cons_succ, List.getElem?_cons_succ, List.getElem?_cons_zero, Option.map_some, Option.getD_some, valsG, List.map_cons, List.map_nil, List.length_cons, List.length_nil] at hA; have d18 := hA; clear hA; subst d18; simp only [fillG, List.set_cons_zero, List.set_cons_succ]; have k2 := Keep.tr (Keep.dr (Keep.rf _)) hW; clear hW hE)
      go_wp2_with fail
      go_roundw
      case rel => exact ⟨j + 1, x + 1 + b.str.length + b.kids.length, by omega, by go_num, by go_num, by have := HXX.out; omega, Keep.tr HK.out k2⟩
      case measure => simp [intOf]; omega
    · have hlti : ¬ (j : Int) < (bs.length : Int) := by omega
      go_wp2_with fail
      go_ret
      have hx : x = N := by
        have := HX.out
        rw [List.drop_of_length_le (by omega)] at this
        simpa [Em.needN] using this
      exact ⟨by rw [hx]; rfl, HKW.out⟩
end Go.Proofs.YtoehaijmkmdggaaGreat
namespace Go.Proofs.YtoehaijmkmdggaaGreat
open Go.RowKit Go.Maps
set_option linter.unusedVariables false
set_option linter.unusedSimpArgs false
set_option maxRecDepth 100000
/-- An Alloc was answered. -/
def AllA (w : World) (p sz : Nat) (S : List Nat) (H : Em.Hp) (tag : Int) (fs : List Int) (e : Ending) (w' : World) : Prop :=
  e = .returned (.tuple #[.int .i64 (allocE sz H tag fs).1, .bool (allocE sz H tag fs).2.1]) ∧ ∃ S', HRep w' p S' sz (allocE sz H tag fs).2.2 ∧ Ext w w' S S'
def AllB (w : World) (p sz : Nat) (S : List Nat) (H : Em.Hp) (tag : Int) (fs : List Int) (e : Ending) (w' : World) : Prop :=
  e = .returned (.tuple #[.int .i64 (allocE sz H tag fs).1, .bool (allocE sz H tag fs).2.1]) ∧ ∃ S', RRep w' p S' sz (allocE sz H tag fs).2.2 ∧ Ext w w' S S'
def HalfQ (B : World) (p m : Nat) (S : List Nat) (H : Em.Hp) (W : World) : Prop := ∃ S', HRep W p S' m H ∧ Ext B W S S'
theorem HalfQ.keep {B W W' : World} {p m : Nat} {S : List Nat} {H : Em.Hp} (h : HalfQ B p m S H W) (k : Keep W W') : HalfQ B p m S H W' := by
  obtain ⟨S', h1, h2⟩ := h
  exact ⟨S', h1.keep k, h2.keep k⟩
set_option maxHeartbeats 4000000 in
theorem putClo2 {p sz : Nat} {S : List Nat} {H : Em.Hp} (w : World) (h : HRep w p S sz H) (b g : Nat) (s : List UInt8) (hb : w.cell? ⟨b, 0, none⟩ = some (.pointer (some ⟨p, 0, none⟩))) (hg : w.cell? ⟨g, 1, none⟩ = some (.string (str s))) (hs : s.length ≤ 100000) :
    Calls Tryz.prog 29 #[.pointer (some ⟨b, 0, none⟩), .pointer (some ⟨g, 0, none⟩)] w (AllA w p sz S H 1 (Em.fields0 ⟨1, s, []⟩)) := by
  have HA := hide (shapePut w h s hs)
  have HR := hide h
  have hfs : Em.fields0 ⟨1, s, []⟩ = wordsOf s := rfl
  rw [hfs]
  clear h hfs
  unfold AllA
  generalize hae : allocE sz H 1 (wordsOf s) = ae at *
  obtain ⟨an, ab, aH⟩ := ae
  have HAE := hide hae
  clear hae
  go_enter Tryz.func29, Tryz.ntmps29
  go_wp2_with fail
  refine HA.out.mono ?_
  rintro e w2 ⟨w1, k1, hA⟩
  obtain ⟨rfl, S2, r2, x2⟩ := hA.all (HR.out.keep k1)
  rw [HAE.out] at r2 ⊢
  have HZ := hide (And.intro r2 (Ext.of_keep k1 x2))
  clear r2 x2 hA k1
  simp only
  go_wp2_with fail
  go_ret2
  exact ⟨rfl, S2, HZ.out.1, HZ.out.2⟩
theorem wp_mkW {o : Oper} {a : Act} {W : World} {K : Act → World → Prop} {Q : Exit → Act → World → Prop} (x y : Operand) (ho : o.op = .makeSlice 31 x y) {n : Nat} (hx : a.eval x = .int .i64 (n : Int)) (hy : a.eval y = .int .i64 (n : Int)) (hn : n ≤ 1000000)
    (h : ∀ w', w'.ownsRow W.heap.size 32 1 (.slice (some ⟨W.heap.size, 0, none⟩) n n) n ((List.replicate n (0 : Int)).map (Value.int .i64)) → Keep W w' → K (a.put o.dst (.slice (some ⟨W.heap.size, 0, none⟩) n n)) w') : o.wp Tryz.prog a W K Q := by
  obtain ⟨w9, hm, ho9, hk9⟩ := run_makeW W n hn
  unfold Oper.wp execOp
  simp only [ho, hx, hy, Sem.run_bind, hm, Result.andThen_ok, Sem.run_pure]
  exact h w9 ho9 hk9
theorem zeros_wf0 (n : Nat) : ∀ f ∈ List.replicate n (0 : Int), (Lit.int .i64 f).wf = true := by
  intro f hf
  obtain ⟨_, rfl⟩ := List.mem_replicate.1 hf
  decide
set_option maxHeartbeats 8000000 in
theorem putClo1 {p sz : Nat} {S : List Nat} {H : Em.Hp} (w : World) (h : HRep w p S sz H) (b g : Nat) (t : Int) (A : Option Addr) (n c : Nat) (hb : w.cell? ⟨b, 0, none⟩ = some (.pointer (some ⟨p, 0, none⟩))) (hg0 : w.cell? ⟨g, 0, none⟩ = some (.int .i64 t)) (hg2 : w.cell? ⟨g, 2, none⟩ = some (.slice A n c)) (ht : (Lit.int .i64 t).wf = true) (hn : n ≤ 100000) :
    Calls Tryz.prog 28 #[.pointer (some ⟨b, 0, none⟩), .pointer (some ⟨g, 0, none⟩)] w (AllA w p sz S H t (List.replicate n 0)) := by
  have HR := hide h
  have hlr := hide (List.length_replicate (n := n) (a := (0 : Int)))
  clear h
  unfold AllA
  generalize hae : allocE sz H t (List.replicate n 0) = ae at *
  obtain ⟨an, ab, aH⟩ := ae
  have HAE := hide hae
  clear hae
  go_enter Tryz.func28, Tryz.ntmps28
  go_wp2_with fail
  apply region_all (by kernel_rfl) Keep AnyW krg ktg anyrf anytr anyk [some 4, some 5, some 6, some 7, some 8, some 9, some 10, some 11, some 12, some 13, some 2, some 3] [eqG _ , eqG _ , eqG _ , eqG _ , eqG _ , eqG _ , fun us W v => ∃ A c, v = .slice A n c ∧ W.ownsRow w.heap.size 32 1 (.slice A n c) n ((List.replicate n (0 : Int)).map (Value.int .i64)), fun us W v => v = .tuple #[.int .i64 an, .bool ab] ∧ HalfQ w p sz S aH W, eqG _ , eqG _ , eqG _ , eqG _ ] [⟨[], [], true, false, false⟩, ⟨[], [], true, false, false⟩, ⟨[1], [], true, false, false⟩, ⟨[], [], true, false, false⟩, ⟨[3], [], true, false, false⟩, ⟨[4], [], true, false, false⟩, ⟨[5], [], true, false, true⟩, ⟨[0, 2, 6], [], true, true, true⟩, ⟨[7], [], false, false, false⟩, ⟨[7], [], false, false, false⟩, ⟨[7, 8], [], false, false, false⟩, ⟨[7, 9], [], false, false, false⟩] [7, 10, 11] (by kernel_rfl) (by kernel_rfl) 
  · refine ⟨?_, ?_, ?_, ?_, ?_, ?_, ?_, ?_, ?_, ?_, ?_, ?_, trivial⟩ <;> (intro us W h9 hW hE hd hs K hK; obtain ⟨u0, u1, u2, u3, u4, u5, u6, u7, u8, u9, u10, u11, rfl⟩ := rog 12 h9 rfl; clear h9; try simp only [DepG, AtG, and_true, relG, eqG, eqG1, eqG2, eqG3, gdG, gdG1, gnG, gnG1, List.getD_cons_zero, List.getD_cons_succ, List.getElem?_cons_succ, List.getElem?_cons_zero, Option.map_some, Option.getD_some, valsG, List.map_cons, List.map_nil, List.length_cons, List.length_nil] at hd)
    · ((try clear hd); clear hs; simp only [fillG, List.set_cons_zero, List.set_cons_succ]; have hKW := Keep.tr (Keep.dr (Keep.rf _)) (hE rfl); have hb := Keep.cell hKW hb; have hg0 := Keep.cell hKW hg0; have hg2 := Keep.cell hKW hg2; refine want_n rfl ?_; go_wp2_with (first | fail); simp only [DoneG, fillG, List.set_cons_zero, List.set_cons_succ, relG, eqG, eqG1, eqG2, eqG3, gdG, gdG1, gnG, gnG1, List.getD_cons_zero, List.getD_cons_succ, List.getElem?_cons_succ, List.getElem?_cons_zero, Option.map_some, Option.getD_some, valsG, List.map_cons, List.map_nil, List.length_cons, List.length_nil]; exact ⟨_, rfl, (by first | with_reducible assumption | exact krg _ | exact Keep.al (krg _) _), fun _ _ => rfl⟩)
    · ((try clear hd); clear hs; simp only [fillG, List.set_cons_zero, List.set_cons_succ]; refine want_n rfl ?_; go_wp2_with (first | fail); simp only [DoneG, fillG, List.set_cons_zero, List.set_cons_succ, relG, eqG, eqG1, eqG2, eqG3, gdG, gdG1, gnG, gnG1, List.getD_cons_zero, List.getD_cons_succ, List.getElem?_cons_succ, List.getElem?_cons_zero, Option.map_some, Option.getD_some, valsG, List.map_cons, List.map_nil, List.length_cons, List.length_nil]; exact ⟨_, rfl, (by first | with_reducible assumption | exact krg _ | exact Keep.al (krg _) _), fun _ _ => rfl⟩)
    · (have d1 := hd; clear hd; subst d1; clear hs; simp only [fillG, List.set_cons_zero, List.set_cons_succ]; have hKW := Keep.tr (Keep.dr (Keep.rf _)) (hE rfl); have hb := Keep.cell hKW hb; have hg0 := Keep.cell hKW hg0; have hg2 := Keep.cell hKW hg2; refine want_n rfl ?_; go_wp2_with (first | fail); simp only [DoneG, fillG, List.set_cons_zero, List.set_cons_succ, relG, eqG, eqG1, eqG2, eqG3, gdG, gdG1, gnG, gnG1, List.getD_cons_zero, List.getD_cons_succ, List.getElem?_cons_succ, List.getElem?_cons_zero, Option.map_some, Option.getD_some, valsG, List.map_cons, List.map_nil, List.length_cons, List.length_nil]; exact ⟨_, rfl, (by first | with_reducible assumption | exact krg _ | exact Keep.al (krg _) _), fun _ _ => rfl⟩)
    · ((try clear hd); clear hs; simp only [fillG, List.set_cons_zero, List.set_cons_succ]; refine want_n rfl ?_; go_wp2_with (first | fail); simp only [DoneG, fillG, List.set_cons_zero, List.set_cons_succ, relG, eqG, eqG1, eqG2, eqG3, gdG, gdG1, gnG, gnG1, List.getD_cons_zero, List.getD_cons_succ, List.getElem?_cons_succ, List.getElem?_cons_zero, Option.map_some, Option.getD_some, valsG, List.map_cons, List.map_nil, List.length_cons, List.length_nil]; exact ⟨_, rfl, (by first | with_reducible assumption | exact krg _ | exact Keep.al (krg _) _), fun _ _ => rfl⟩)
    · (have d3 := hd; clear hd; subst d3; clear hs; simp only [fillG, List.set_cons_zero, List.set_cons_succ]; have hKW := Keep.tr (Keep.dr (Keep.rf _)) (hE rfl); have hb := Keep.cell hKW hb; have hg0 := Keep.cell hKW hg0; have hg2 := Keep.cell hKW hg2; refine want_n rfl ?_; go_wp2_with (first | fail); simp only [DoneG, fillG, List.set_cons_zero, List.set_cons_succ, relG, eqG, eqG1, eqG2, eqG3, gdG, gdG1, gnG, gnG1, List.getD_cons_zero, List.getD_cons_succ, List.getElem?_cons_succ, List.getElem?_cons_zero, Option.map_some, Option.getD_some, valsG, List.map_cons, List.map_nil, List.length_cons, List.length_nil]; exact ⟨_, rfl, (by first | with_reducible assumption | exact krg _ | exact Keep.al (krg _) _), fun _ _ => rfl⟩)
    · (have d4 := hd; clear hd; subst d4; clear hs; simp only [fillG, List.set_cons_zero, List.set_cons_succ]; have hKW := Keep.tr (Keep.dr (Keep.rf _)) (hE rfl); have hb := Keep.cell hKW hb; have hg0 := Keep.cell hKW hg0; have hg2 := Keep.cell hKW hg2; refine want_n rfl ?_; go_wp2_with (first | fail); simp only [DoneG, fillG, List.set_cons_zero, List.set_cons_succ, relG, eqG, eqG1, eqG2, eqG3, gdG, gdG1, gnG, gnG1, List.getD_cons_zero, List.getD_cons_succ, List.getElem?_cons_succ, List.getElem?_cons_zero, Option.map_some, Option.getD_some, valsG, List.map_cons, List.map_nil, List.length_cons, List.length_nil]; exact ⟨_, rfl, (by first | with_reducible assumption | exact krg _ | exact Keep.al (krg _) _), fun _ _ => rfl⟩)
    · (have d5 := hd; clear hd; subst d5; clear hs; simp only [fillG, List.set_cons_zero, List.set_cons_succ]; have hKW := Keep.tr (Keep.dr (Keep.rf _)) (hE rfl); have hb := Keep.cell hKW hb; have hg0 := Keep.cell hKW hg0; have hg2 := Keep.cell hKW hg2; refine want_n rfl ?_; refine wp_mkW (.tmp 9) (.tmp 9) rfl rfl rfl (by omega) ?_; intro w9 ho9 hk8; refine hK _ _ ?_; simp only [DoneG, fillG, List.set_cons_zero, List.set_cons_succ, relG, eqG, eqG1, eqG2, eqG3, gdG, gdG1, gnG, gnG1, List.getD_cons_zero, List.getD_cons_succ, List.getElem?_cons_succ, List.getElem?_cons_zero, Option.map_some, Option.getD_some, valsG, List.map_cons, List.map_nil, List.length_cons, List.length_nil]; exact ⟨_, rfl, (by first | with_reducible assumption | exact krg _ | exact Keep.al (krg _) _), fun W9 hk9 => ⟨_, _, rfl, own_keep (own_lower ho9 (Below.size hKW)) hk9⟩⟩)
    · (obtain ⟨d0, d2, d6⟩ := hd; subst d0; subst d2; obtain ⟨A6, c6, rfl, o6⟩ := d6; clear hs; simp only [fillG, List.set_cons_zero, List.set_cons_succ]; have hKW := Keep.tr (Keep.dr (Keep.rf _)) (hE rfl); have hb := Keep.cell hKW hb; have hg0 := Keep.cell hKW hg0; have hg2 := Keep.cell hKW hg2; refine want_n rfl ?_; go_wp2_with (first | (go_at_call 8; refine (heapAlloc _ (HR.out.keep hKW) t ht _ (List.replicate n 0) (by have := (Cs.of_own o6).1; exact this) (zeros_wf0 n) (by rw [hlr.out]; omega)).mono ?_; intro e w9 hA; obtain ⟨rfl, S9, r9, x9⟩ := hA.all (HR.out.keep hKW); rw [HAE.out] at r9 ⊢) | fail); simp only [DoneG, fillG, List.set_cons_zero, List.set_cons_succ, relG, eqG, eqG1, eqG2, eqG3, gdG, gdG1, gnG, gnG1, List.getD_cons_zero, List.getD_cons_succ, List.getElem?_cons_succ, List.getElem?_cons_zero, Option.map_some, Option.getD_some, valsG, List.map_cons, List.map_nil, List.length_cons, List.length_nil]; exact ⟨_, rfl, (by first | with_reducible assumption | exact trivial), fun W9 hk9 => ⟨rfl, HalfQ.keep ⟨S9, r9, Ext.of_keep hKW x9⟩ hk9⟩⟩)
    · (have d7 := hd; clear hd; obtain ⟨rfl, d7⟩ := d7; clear hs; simp only [fillG, List.set_cons_zero, List.set_cons_succ]; refine want_n rfl ?_; go_wp2_with (first | fail); simp only [DoneG, fillG, List.set_cons_zero, List.set_cons_succ, relG, eqG, eqG1, eqG2, eqG3, gdG, gdG1, gnG, gnG1, List.getD_cons_zero, List.getD_cons_succ, List.getElem?_cons_succ, List.getElem?_cons_zero, Option.map_some, Option.getD_some, valsG, List.map_cons, List.map_nil, List.length_cons, List.length_nil]; exact ⟨_, rfl, (by first | with_reducible assumption | exact krg _ | exact Keep.al (krg _) _), fun _ _ => rfl⟩)
    · (have d7 := hd; clear hd; obtain ⟨rfl, d7⟩ := d7; clear hs; simp only [fillG, List.set_cons_zero, List.set_cons_succ]; refine want_n rfl ?_; go_wp2_with (first | fail); simp only [DoneG, fillG, List.set_cons_zero, List.set_cons_succ, relG, eqG, eqG1, eqG2, eqG3, gdG, gdG1, gnG, gnG1, List.getD_cons_zero, List.getD_cons_succ, List.getElem?_cons_succ, List.getElem?_cons_zero, Option.map_some, Option.getD_some, valsG, List.map_cons, List.map_nil, List.length_cons, List.length_nil]; exact ⟨_, rfl, (by first | with_reducible assumption | exact krg _ | exact Keep.al (krg _) _), fun _ _ => rfl⟩)
    · (obtain ⟨d7, d8⟩ := hd; obtain ⟨rfl, d7⟩ := d7; subst d8; clear hs; simp only [fillG, List.set_cons_zero, List.set_cons_succ]; refine want_n rfl ?_; go_wp2_with (first | fail); simp only [DoneG, fillG, List.set_cons_zero, List.set_cons_succ, relG, eqG, eqG1, eqG2, eqG3, gdG, gdG1, gnG, gnG1, List.getD_cons_zero, List.getD_cons_succ, List.getElem?_cons_succ, List.getElem?_cons_zero, Option.map_some, Option.getD_some, valsG, List.map_cons, List.map_nil, List.length_cons, List.length_nil]; exact ⟨_, rfl, (by first | with_reducible assumption | exact krg _ | exact Keep.al (krg _) _), fun _ _ => rfl⟩)
    · (obtain ⟨d7, d9⟩ := hd; obtain ⟨rfl, d7⟩ := d7; subst d9; clear hs; simp only [fillG, List.set_cons_zero, List.set_cons_succ]; refine want_n rfl ?_; go_wp2_with (first | fail); simp only [DoneG, fillG, List.set_cons_zero, List.set_cons_succ, relG, eqG, eqG1, eqG2, eqG3, gdG, gdG1, gnG, gnG1, List.getD_cons_zero, List.getD_cons_succ, List.getElem?_cons_succ, List.getElem?_cons_zero, Option.map_some, Option.getD_some, valsG, List.map_cons, List.map_nil, List.length_cons, List.length_nil]; exact ⟨_, rfl, (by first | with_reducible assumption | exact krg _ | exact Keep.al (krg _) _), fun _ _ => rfl⟩)
  (intro us W2 h9 hW hE hA; obtain ⟨u0, u1, u2, u3, u4, u5, u6, u7, u8, u9, u10, u11, rfl⟩ := rog 12 h9 rfl; clear h9; simp only [AllG, AtG, and_true, relG, eqG, eqG1, eqG2, eqG3, gdG, gdG1, gnG, gnG1, List.getD_cons_zero, List.getD_cons_succ, List.getElem?_cons_succ, List.getElem?_cons_zero, Option.map_some, Option.getD_some, valsG, List.map_cons, List.map_nil, List.length_cons, List.length_nil] at hA; obtain ⟨d7, d10, d11⟩ := hA; obtain ⟨rfl, d7⟩ := d7; subst d10; subst d11; simp only [fillG, List.set_cons_zero, List.set_cons_succ])
  go_wp2_with fail
  go_ret2
  obtain ⟨S9, r9, x9⟩ := d7
  exact ⟨rfl, S9, r9, x9⟩
theorem own_is {w : World} {B : Nat} {v : Value} {l : List Int} (h : w.ownsRow B 32 1 v l.length (l.map (Value.int .i64))) : Is w v l := by
  have := (Cs.of_own (n := (l.map (Value.int .i64)).length) (l := l.map (Value.int .i64)) (by simpa using h)).1
  exact this
set_option maxHeartbeats 8000000 in
theorem refPut18 {p sz : Nat} {S : List Nat} {H : Em.Hp} (w : World) (h : RRep w p S sz H) (s : List UInt8) (hs : s.length ≤ 100000) : Calls Tryz.prog 40 #[.pointer (some ⟨p, 0, none⟩), .string (str s)] w (AllB w p sz S H 1 (wordsOf s)) := by
  have HR := hide h
  have hsz := str_size s
  have hlt := hide h.lt
  clear h
  unfold AllB
  generalize hae : allocE sz H 1 (wordsOf s) = ae at *
  obtain ⟨an, ab, aH⟩ := ae
  have HAE := hide hae
  have hwl := hide (Em.wordsOf_len s)
  clear hae
  go_enter Tryz.func40, Tryz.ntmps40
  go_wp2_with fail
  go_loopw [6, 7] (fun lv i W => ∃ k : Nat, k ≤ s.length ∧ i = .int .i64 (k : Int) ∧ W.ownsRow w.heap.size 32 1 lv (wordsOf (s.take k)).length ((wordsOf (s.take k)).map (Value.int .i64)) ∧ Keep w W) (fun _ i _ => s.length - (intOf i).toNat)
  case atStart => exact ⟨0, Nat.zero_le _, rfl, ⟨by simp, .inl ⟨rfl, rfl⟩⟩, Keep.rf _⟩
  case round =>
    obtain ⟨k, hk, rfl, ho, kw⟩ := hrel
    obtain ⟨lA, lc, rfl⟩ := own_slice ho
    have HO := hide ho
    clear ho
    by_cases hlt2 : k < s.length
    · have hlti : (k : Int) < (s.length : Int) := by omega
      have hlk : (wordsOf (s.take k)).length = k := by rw [Em.wordsOf_len, List.length_take, Nat.min_eq_left hk]
      have hnx : wordsOf (s.take (k + 1)) = wordsOf (s.take k) ++ [intW (s[k].toNat : Int)] := by
        unfold wordsOf
        rw [List.take_succ_eq_append_getElem hlt2, List.map_append]
        rfl
      have HNX := hide hnx
      clear hnx
      have hw : wrap64 (((str s)[k]'(by rw [str_size]; exact hlt2)).toNat : Int) = (s[k].toNat : Int) := by
        have hb : (str s)[k]'(by rw [str_size]; exact hlt2) = s[k] := by simp [str]; rfl
        rw [hb]
        have := s[k].toNat_lt
        simp only [wrap64]
        omega
      have HW := hide hw
      clear hw
      have HLK := hide hlk
      clear hlk
      generalize wordsOf (s.take k) = l at *
      go_wp2_with fail
      rw [HW.out]
      refine (refInt _ _).mono ?_
      rintro e w2 ⟨rfl, rfl⟩
      generalize intW (s[k].toNat : Int) = y at *
      go_wp2_with (first
        | (at_builtin; go_loud (refine appI l [y] rfl (.tmp 14) (.tmp 20) _ _ _ _ Tryz.underlying31 infoW rfl (by omega) rfl w.heap.size _ rfl (own_keep HO.out (by repeat (first | exact Keep.rf _ | assumption | apply Keep.al | apply Keep.dr | apply Keep.dn))) _ rfl (Cs.lit _ rfl rfl rfl (by simp) (by simp)) (by rw [size_alloc]; exact Nat.le_trans kw.size (Nat.le_succ _)) (by simp; have := HLK.out; omega) ?_); intro v3 w3 ho3 hg3 hat3; have HO3 := hide ho3; have HG3 := hide hg3; obtain ⟨A3, c3, e3⟩ := own_slice ho3; subst e3; clear ho3 hg3 hat3)
        | fail)
      have HK3 := hide (Frm.keep (Keep.al kw (.cells #[.int .i64 y] 32)) (Frm.of_grown (S := fun k => w.heap.size ≤ k) HG3.out fun k e => (World.ownsRow.lt HO.out k e).1) fun _ h => h)
      go_roundw
      case rel => exact ⟨k + 1, by omega, by go_num, by rw [HNX.out]; simpa using HO3.out, HK3.out⟩
      case measure => simp [intOf]; omega
    · have hlti : ¬ (k : Int) < (s.length : Int) := by omega
      have hkn : k = s.length := by omega
      have hO : wr.ownsRow w.heap.size 32 1 (.slice lA (wordsOf (s.take k)).length lc) (wordsOf s).length ((wordsOf s).map (Value.int .i64)) := by
        have := HO.out
        rw [hkn, List.take_length] at this
        rw [hkn, List.take_length]
        exact this
      have hIs := own_is hO
      have HIS := hide hIs
      have HOO := hide hO
      have hlk : (wordsOf (s.take k)).length = s.length := by rw [Em.wordsOf_len, List.length_take]; omega
      rw [hlk] at HOO HIS hO ⊢
      clear hkn hIs hO hlk HO
      go_wp2_with fail
      refine (refAlloc wr (HR.out.keep kw) 1 (by decide) _ (wordsOf s) HIS.out (fun W F => own_is (F.own HOO.out fun k e hm => by have := (World.ownsRow.lt HOO.out k e).1; have := hlt.out k hm; omega)) (wordsOf_wf s) (by rw [hwl.out]; omega)).mono ?_
      intro e w3 hA
      obtain ⟨rfl, S3, r3, x3⟩ := hA.all (HR.out.keep kw)
      rw [HAE.out] at r3 ⊢
      have HZ := hide (And.intro r3 (Ext.of_keep kw x3))
      clear r3 x3 hA
      simp only
      go_wp2_with fail
      go_ret2
      exact ⟨rfl, S3, HZ.out.1, HZ.out.2⟩
end Go.Proofs.YtoehaijmkmdggaaGreat
