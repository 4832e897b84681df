/- The law ShapeCells: walk. -/
import Derived.Test.YtilhglnfjaablaaShapeC
import Derived.Test.YtilhglnfjaablaaShapeR
import Derived.Test.YtilhglnfjaablaaHeapB
import Derived.Deep.RegionHeld3
namespace Go.Proofs.Ytilhglnfjaablaa
open Go.RowKit Go.Maps
set_option linter.unusedVariables false
set_option linter.unusedSimpArgs false
set_option maxRecDepth 100000
theorem intW_wf (n : Int) : (Lit.int .i64 (intW n)).wf = true := by
  unfold intW
  rw [IntKind.wrap_i64]
  simp [Lit.wf, IntKind.min, IntKind.max, IntKind.bits, IntKind.signed]
  omega
theorem intW_zero : intW 0 = 1 := by decide
theorem is_lit2 {w : World} {t : TypeId} {fr : Nat × Nat} {g : Nat} (a b : Int) (hg : w.heap.size = g) : Is (w.alloc (.cells #[.int .i64 a, .int .i64 b] t fr)) (.slice (some ⟨g, 0, none⟩) 2 2) [a, b] := Cs.lit _ rfl hg rfl (by simp) (by simp)
/-- A block of the graph, with its two kids, as it lies. -/
def B2 (W : World) (v : Value) (tag : Int) (a b : Bool × Int) : Prop := ∃ g A c, v = .pointer (some ⟨g, 0, none⟩) ∧ W.heap[g]? = some (.cells #[.int .i64 tag, .string (str []), .slice A 2 c] 53) ∧ Sl 2 KRf W (.slice A 2 c) [a, b]
theorem b2_cells {W : World} {v : Value} {tag : Int} {a b : Bool × Int} (h : B2 W v tag a b) : ∃ g ad c, v = .pointer (some ⟨g, 0, none⟩) ∧ W.cell? ⟨g, 0, none⟩ = some (.int .i64 tag) ∧ W.cell? ⟨g, 2, none⟩ = some (.slice (some ad) 2 c) ∧ (2 ≤ c ∧ c ≤ 9223372036854775807) ∧
    W.cell? ad = some (.bool a.1) ∧ W.cell? ⟨ad.block, ad.off + 1, none⟩ = some (.int .i64 a.2) ∧ W.cell? ⟨ad.block, ad.off + 2, none⟩ = some (.bool b.1) ∧ W.cell? ⟨ad.block, ad.off + 2 + 1, none⟩ = some (.int .i64 b.2) := by
  obtain ⟨g, A, c, rfl, hg, hs⟩ := h
  obtain ⟨A', c', e, h1, h2, h3⟩ := hs
  cases e
  obtain ⟨ad, rfl, hc⟩ := h3 (by simp)
  obtain ⟨cs0, l0, hc0, v0, _⟩ := hc 0 (by simp)
  obtain ⟨cs1, l1, hc1, v1, _⟩ := hc 1 (by simp)
  simp only [List.getElem_cons_zero, List.getElem_cons_succ] at v0 v1
  subst v0 v1
  have e0 := hc0 0 _ rfl
  have e1 := cell_off (hc0 1 _ rfl)
  have e2 := hc1 0 _ rfl
  have e3 := cell_off (hc1 1 _ rfl)
  have p0 := top_cells hg 0
  have p2 := top_cells hg 2
  have hadd : ad.add 0 = ad := by simp [Addr.add]
  have hadd2 : ad.add 2 = ⟨ad.block, ad.off + 2, none⟩ := by simp [Addr.add]
  simp only [List.getElem?_toArray, List.getElem?_cons_succ, List.getElem?_cons_zero] at p0 p2
  simp only [Nat.zero_mul, Nat.add_zero, Nat.zero_add, Nat.one_mul, Nat.reduceMul, Nat.reduceAdd, hadd, hadd2] at e0 e1 e2 e3
  exact ⟨g, ad, c, rfl, p0, p2, ⟨h1, h2⟩, e0, e1, e2, e3⟩
theorem new1 (w : World) (o o' o'' : Obj) : (((w.alloc o).alloc o').alloc o'').heap[w.heap.size]? = some o := ((Keep.al (Keep.al (Keep.rf (w.alloc o)) o') o'').frm fun _ => False).heap (fun h => h) (heap_alloc_new w o)
theorem new2 (w : World) (o o' o'' : Obj) : (((w.alloc o).alloc o').alloc o'').heap[w.heap.size + 1]? = some o' := ((Keep.al (Keep.rf ((w.alloc o).alloc o')) o'').frm fun _ => False).heap (fun h => h) (new_second w o o')
theorem new3 (w : World) (o o' o'' : Obj) : (((w.alloc o).alloc o').alloc o'').heap[w.heap.size + 1 + 1]? = some o'' := by
  have := new_second (w.alloc o) o' o''
  rwa [size_alloc] at this
set_option maxHeartbeats 16000000 in
theorem ShapeCells_walk (w : World) (n : Int) (hn : (Lit.int .i64 n).wf = true) (m : Int) (hm : (Lit.int .i64 m).wf = true) : Calls Try.prog 4 #[.int .i64 n, .int .i64 m] w fun e w' => e = .returned (.bool true) ∧ Keep w w' := by
  have hnb := in_i64 hn
  have hmb := in_i64 hm
  by_cases hc : n < 0 ∨ n > 1099511627776 ∨ m < 0 ∨ m > 1099511627776
  · have f1 : ((n < 0 ∨ n > 1099511627776) ∨ m < 0) ∨ m > 1099511627776 := by omega
    by_cases c1 : n < 0
    · go_enter Try.func4, Try.ntmps4
      go_wp2_with fail
      go_ret
      exact ⟨rfl, (by repeat (first | exact Keep.rf _ | assumption | apply Keep.al | apply Keep.dr | apply Keep.dn))⟩
    by_cases c2 : n > 1099511627776
    · go_enter Try.func4, Try.ntmps4
      go_wp2_with fail
      go_ret
      exact ⟨rfl, (by repeat (first | exact Keep.rf _ | assumption | apply Keep.al | apply Keep.dr | apply Keep.dn))⟩
    by_cases c3 : m < 0
    · go_enter Try.func4, Try.ntmps4
      go_wp2_with fail
      go_ret
      exact ⟨rfl, (by repeat (first | exact Keep.rf _ | assumption | apply Keep.al | apply Keep.dr | apply Keep.dn))⟩
    · have c4 : m > 1099511627776 := by omega
      go_enter Try.func4, Try.ntmps4
      go_wp2_with fail
      go_ret
      exact ⟨rfl, (by repeat (first | exact Keep.rf _ | assumption | apply Keep.al | apply Keep.dr | apply Keep.dn))⟩
  obtain ⟨c1, c2, c3, c4⟩ : ¬ n < 0 ∧ ¬ n > 1099511627776 ∧ ¬ m < 0 ∧ ¬ m > 1099511627776 := by omega
  have hx := hide (intW_odd n)
  have hy := hide (intW_odd m)
  have hxb := hide (intW_back n (by omega) (by omega))
  have hyb := hide (intW_back m (by omega) (by omega))
  have hxw := hide (intW_wf n)
  have hyw := hide (intW_wf m)
  have hOF := hide (cells_of (intW n) (intW m) hx.out hy.out)
  rw [hxb.out, hyb.out] at hOF
  clear hc hnb hmb
  go_enter Try.func4, Try.ntmps4
  go_wp2_with fail
  refine (heapNew 50 _ (by omega)).mono ?_
  rintro e w1 ⟨p, S, rfl, hR, hS, k1⟩
  go_wp2_with fail
  refine (heapInt n _).mono ?_
  rintro e w2 ⟨rfl, rfl⟩
  go_wp2_with fail
  refine (heapInt 0 _).mono ?_
  rintro e w2 ⟨rfl, rfl⟩
  rw [intW_zero]
  generalize intW n = x at *
  go_wp2_with fail
  refine (heapAlloc _ (hR.keep ((Keep.rf w1).al _)) 5 (by decide) _ [x, 1] (is_lit2 x 1 rfl) (by simpa using ⟨hxw.out, by decide⟩) (by simp)).mono ?_
  intro e w2 R
  obtain ⟨rfl, S2, hR2, F2, hS2⟩ := R.yes (n := 0) (H' := [(5, [x, 1])]) rfl
  have k12 : Keep w w2 := Frm.keep (Keep.tr k1 ((Keep.rf w1).al _)) F2 hS
  have hS2w : ∀ k ∈ S2, w.heap.size ≤ k := fun k hk => by
    rcases hS2 k hk with e | e
    · exact hS k e
    · exact Nat.le_trans (Nat.le_trans k1.size (by simp)) e
  clear R F2 hR hS hS2 k1
  go_wp2_with fail
  refine (heapInt 0 _).mono ?_
  rintro e w3 ⟨rfl, rfl⟩
  rw [intW_zero]
  go_wp2_with fail
  refine (heapAlloc _ (hR2.keep ((Keep.rf w2).al _)) 2 (by decide) _ [0, 1] (is_lit2 0 1 rfl) (by simp; decide) (by simp)).mono ?_
  intro e w3 R
  obtain ⟨rfl, S3, hR3, F3, hS3⟩ := R.yes (n := 6) (H' := [(5, [x, 1]), (2, [0, 1])]) rfl
  have k13 : Keep w w3 := Frm.keep (Keep.tr k12 ((Keep.rf w2).al _)) F3 hS2w
  have hS3w : ∀ k ∈ S3, w.heap.size ≤ k := fun k hk => by
    rcases hS3 k hk with e | e
    · exact hS2w k e
    · exact Nat.le_trans (Nat.le_trans k12.size (by simp)) e
  clear R F3 hR2 hS2w hS3 k12
  go_wp2_with fail
  refine (heapSet _ hR3 0 (by decide) 1 6 (by decide)).mono ?_
  intro e w4 R
  obtain ⟨rfl, hR4, x4⟩ := R.all hR3
  have hR4' : HRep w4 p S3 50 [(5, [x, 6]), (2, [0, 1])] := hR4
  have k14 : Keep w w4 := Frm.keep k13 x4.1 hS3w
  clear R x4 hR3 hR4 k13
  go_wp2_with fail
  refine (heapInt m _).mono ?_
  rintro e w5 ⟨rfl, rfl⟩
  generalize intW m = y at *
  go_wp2_with fail
  refine (heapAlloc _ (hR4'.keep ((Keep.rf w4).al _)) 3 (by decide) _ [6, y] (is_lit2 6 y rfl) (by simpa using ⟨by decide, hyw.out⟩) (by simp)).mono ?_
  intro e w5 R
  obtain ⟨rfl, S5, hR5, F5, hS5⟩ := R.yes (n := 12) (H' := [(5, [x, 6]), (2, [0, 1]), (3, [6, y])]) rfl
  have k15 : Keep w w5 := Frm.keep (Keep.tr k14 ((Keep.rf w4).al _)) F5 hS3w
  clear R F5 hR4' hS3w hS5 k14
  go_wp2_with fail
  refine (shapeOf _ hR5 12 (by decide)).mono ?_
  rintro e w6 ⟨a, rfl, hga, k6⟩
  rw [hOF.out] at hga ⊢
  obtain ⟨ua, rfl, _, hsl⟩ := hga
  have HSL := hide hsl
  obtain ⟨aA, ac, rfl, a1, a2, a3⟩ := hsl
  obtain ⟨ad, rfl, hcell⟩ := a3 (by simp)
  simp only [List.length_cons, List.length_nil] at hcell ⊢
  obtain ⟨cs0, l0, hc0, v0, rfl, _, hs0⟩ := hcell 0 (by omega)
  obtain ⟨cs1, l1, hc1, v1, rfl, _, hs1⟩ := hcell 1 (by omega)
  obtain ⟨cs2, l2, hc2, v2, rfl, _, hs2⟩ := hcell 2 (by omega)
  simp only [List.getElem_cons_zero, List.getElem_cons_succ] at hc0 hc1 hc2 hs0 hs1 hs2
  obtain ⟨A0, q0, rfl, _⟩ := id hs0
  obtain ⟨A1, q1, rfl, _⟩ := id hs1
  obtain ⟨A2, q2, rfl, _⟩ := id hs2
  simp only [List.length_cons, List.length_nil] at hs0 hs1 hs2 hc0 hc1 hc2
  have i00 := hc0 0 _ rfl
  have i01 := cell_off (hc0 1 _ rfl)
  have i02 := cell_off (hc0 2 _ rfl)
  have i10 := hc1 0 _ rfl
  have i11 := cell_off (hc1 1 _ rfl)
  have i12 := cell_off (hc1 2 _ rfl)
  have i20 := hc2 0 _ rfl
  have i21 := cell_off (hc2 1 _ rfl)
  have i22 := cell_off (hc2 2 _ rfl)
  simp only [Nat.zero_mul, Nat.add_zero, Nat.zero_add, Nat.one_mul, Nat.reduceMul, Nat.reduceAdd] at i00 i01 i02 i10 i11 i12 i20 i21 i22
  have hadd : ad.add 0 = ad := by simp [Addr.add]
  rw [hadd] at i00 i01 i02
  have hadd3 : ad.add 3 = ⟨ad.block, ad.off + 3, none⟩ := by simp [Addr.add]
  have hadd6 : ad.add 6 = ⟨ad.block, ad.off + 6, none⟩ := by simp [Addr.add]
  rw [hadd3] at i10 i11 i12
  rw [hadd6] at i20 i21 i22
  simp only at i11 i12 i21 i22
  clear hadd hadd3 hadd6
  have kal := Keep.al (Keep.rf w6) (.cells #[.bool false, .int .i64 0, .slice (some ad) 3 ac] 34)
  have hX := heap_alloc_new w6 (.cells #[.bool false, .int .i64 0, .slice (some ad) 3 ac] 34)
  have x0 := top_cells hX 0
  have x1 := top_cells hX 1
  have x2 := top_cells hX 2
  simp only [List.getElem?_toArray, List.getElem?_cons_succ, List.getElem?_cons_zero] at x0 x1 x2
  have j00 := Keep.cell kal i00
  have j01 := Keep.cell kal i01
  have j02 := Keep.cell kal i02
  have j10 := Keep.cell kal i10
  have j11 := Keep.cell kal i11
  have j12 := Keep.cell kal i12
  have j20 := Keep.cell kal i20
  have j21 := Keep.cell kal i21
  have j22 := Keep.cell kal i22
  have k17 := hide (Keep.tr k15 (Keep.tr k6 kal))
  have HS0 := hide (hs0.keep kal fun _ _ h => h)
  have HS1 := hide (hs1.keep kal fun _ _ h => h)
  have HS2 := hide (hs2.keep kal fun _ _ h => h)
  clear hcell hc0 hc1 hc2 hs0 hs1 hs2 i00 i01 i02 i10 i11 i12 i20 i21 i22 hX kal k15 k6 hR5 a3
  go_wp2_with fail
  generalize World.alloc w6 _ = w7 at *
  have hJ := And.intro x2 (And.intro j00 (And.intro j01 (And.intro j02 (And.intro j10 (And.intro j11 (And.intro j12 (And.intro j20 (And.intro j21 j22))))))))
  have HSK := hide (fun (W : World) (k : Keep w7 W) => And.intro (Keep.cell k x2) (And.intro (Keep.cell k j00) (And.intro (Keep.cell k j01) (And.intro (Keep.cell k j02) (And.intro (Keep.cell k j10) (And.intro (Keep.cell k j11) (And.intro (Keep.cell k j12) (And.intro (Keep.cell k j20) (And.intro (Keep.cell k j21) (Keep.cell k j22))))))))))
  clear hJ x0 x1 x2 j00 j01 j02 j10 j11 j12 j20 j21 j22
  go_cut [14, 15, 16] (fun p14 p15 p16 W => B2 W p14 3 (false, 1) (true, m) ∧ B2 W p15 2 (false, 2) (true, 0) ∧ B2 W p16 5 (true, n) (false, 1) ∧ Keep w7 W)
  case first =>
    go_region_held3 (fun W => W.cell? ⟨w6.heap.size, 2, none⟩ = some (.slice (some ad) 3 ac) ∧ W.cell? ad = some (.int .i64 3) ∧ W.cell? ⟨ad.block, ad.off + 1, none⟩ = some (.string (str [])) ∧ W.cell? ⟨ad.block, ad.off + 2, none⟩ = some (.slice A0 2 q0) ∧ W.cell? ⟨ad.block, ad.off + 3, none⟩ = some (.int .i64 2) ∧ W.cell? ⟨ad.block, ad.off + 3 + 1, none⟩ = some (.string (str [])) ∧ W.cell? ⟨ad.block, ad.off + 3 + 2, none⟩ = some (.slice A1 2 q1) ∧ W.cell? ⟨ad.block, ad.off + 6, none⟩ = some (.int .i64 5) ∧ W.cell? ⟨ad.block, ad.off + 6 + 1, none⟩ = some (.string (str [])) ∧ W.cell? ⟨ad.block, ad.off + 6 + 2, none⟩ = some (.slice A2 2 q2)) (first | exact HSK.out _ (by repeat (first | exact Keep.rf _ | assumption | apply Keep.al | apply Keep.dr | apply Keep.dn)) | (refine HSK.out _ ?_; repeat (first | exact Keep.rf _ | apply Keep.al | apply Keep.dr | (refine Keep.st ?_ (by first | exact Nat.le_refl _ | (simp; done) | (simp; omega)) _)))) (first | fail)
    all_goals
      go_wp2_with fail
      go_meet
      refine ⟨⟨_, _, _, rfl, ?_, HS0.out.keep (by repeat (first | exact Keep.rf _ | assumption | apply Keep.al | apply Keep.dr | apply Keep.dn)) fun _ _ h => h⟩, ⟨_, _, _, rfl, ?_, HS1.out.keep (by repeat (first | exact Keep.rf _ | assumption | apply Keep.al | apply Keep.dr | apply Keep.dn)) fun _ _ h => h⟩, ⟨_, _, _, rfl, ?_, HS2.out.keep (by repeat (first | exact Keep.rf _ | assumption | apply Keep.al | apply Keep.dr | apply Keep.dn)) fun _ _ h => h⟩, (by repeat (first | exact Keep.rf _ | assumption | apply Keep.al | apply Keep.dr | apply Keep.dn))⟩
      all_goals first
        | exact new1 w7 _ _ _
        | exact new2 w7 _ _ _
        | exact new3 w7 _ _ _
  case rest =>
    obtain ⟨h14, h15, h16, kc7⟩ := hcut
    obtain ⟨g14, a14, c14, rfl, p0, p2, ⟨p3, p4⟩, p5, p6, p7, p8⟩ := b2_cells h14
    obtain ⟨g15, a15, c15, rfl, q0, q2, ⟨q3, q4⟩, q5, q6, q7, q8⟩ := b2_cells h15
    obtain ⟨g16, a16, c16, rfl, r0, r2, ⟨r3, r4⟩, r5, r6, r7, r8⟩ := b2_cells h16
    simp only at p5 p6 p7 p8 q5 q6 q7 q8 r5 r6 r7 r8
    have KC := hide (Keep.tr k17.out kc7)
    clear h14 h15 h16 kc7 HS0 HS1 HS2 HSK HSL hOF hx hxb hxw hy hyb hyw l0 l1 l2 a1
    go_wp2_with fail
    refine (law18Known wc).mono ?_
    rintro e w9 ⟨rfl, k9⟩
    go_wp2_with fail
    go_ret
    exact ⟨rfl, Keep.tr KC.out k9⟩
end Go.Proofs.Ytilhglnfjaablaa
