/- The law PickKinds: walk. -/
import Derived.Test.YtoehaijmkmdggaaPkK
import Derived.Test.YtoehaijmkmdggaaRvN
namespace Go.Proofs.Ytoehaijmkmdggaa
open Go.RowKit
open Em (Ty)
set_option linter.unusedVariables false
set_option linter.unusedSimpArgs false
set_option maxRecDepth 100000
theorem tagT_pos (o : List UInt8) : ¬ (0 : Int) = Em.tagT o := by
  unfold Em.tagT
  split
  · decide
  · split
    · decide
    · split
      · decide
      · split <;> decide
/-- A number, in an empty heap, by any type. -/
theorem kinds_no {n : Int} {t : Ty} (h : (Em.isT t && Em.sentT t) = false) : (Em.bytesK [] n t).2 = 6 := by
  unfold Em.bytesK
  rw [if_neg (by rw [h]; decide)]
theorem kinds_yes {n : Int} {t : Ty} (h : (Em.isT t && Em.sentT t) = true) : ¬ (Em.bytesK [] n t).2 = 6 ∧ ((Em.bytesK [] n t).2 = 0 → Em.isPl t.op ∨ (t.op = Em.wList ∧ n = 1)) := by
  have key : (∃ c, Em.valK [] 2001 n t ⟨[], [], []⟩ = .err c ∧ c = 1) ∨ ((Em.isPl t.op ∨ (t.op = Em.wList ∧ n = 1)) ∧ ∃ s, Em.valK [] 2001 n t ⟨[], [], []⟩ = .ok s) := by
    rw [Em.valK]
    by_cases hp : Em.isPl t.op
    · rw [if_pos hp]
      unfold Em.numK
      split
      · exact .inl ⟨_, rfl, rfl⟩
      · split
        · exact .inr ⟨.inl hp, _, rfl⟩
        · split
          · exact .inr ⟨.inl hp, _, rfl⟩
          · exact .inr ⟨.inl hp, _, rfl⟩
    · rw [if_neg hp]
      by_cases hl : t.op = Em.wList ∧ n = 1
      · rw [if_pos hl]
        exact .inr ⟨.inr hl, _, rfl⟩
      · rw [if_neg hl]
        refine .inl ⟨1, ?_, rfl⟩
        show Em.blkK _ [] n t _ _ = _
        unfold Em.blkK
        exact if_pos (tagT_pos t.op)
  unfold Em.bytesK
  rw [if_pos h]
  rcases key with ⟨c, e, rfl⟩ | ⟨hx, s, e⟩
  · rw [e]
    exact ⟨by decide, fun h => by cases h⟩
  · rw [e]
    simp only []
    split
    · exact ⟨by decide, fun h => by cases h⟩
    · exact ⟨fun h => (by cases h), fun _ => hx⟩
set_option maxHeartbeats 8000000 in
theorem PickKinds_walk (w : World) (tv : Value) (t : Ty) (ht0 : TyV w tv t) (_ht1 : True) (n : Int) (hn : (Lit.int .i64 n).wf = true) : Calls Try.prog 4 #[tv, .int .i64 n] w fun e w' => e = .returned (.bool true) ∧ Keep w w' := by
  obtain ⟨d, cs, rfl, ht⟩ := ht0
  cases d with
  | zero => exact ht.elim
  | succ d =>
    have HT := hide ht
    obtain ⟨v9, rfl, hn9, hs⟩ := ht
    obtain ⟨Ak, ck, rfl, _⟩ := id hs
    have SZ := hide fun W (k : Keep w W) => refSizeT (d + 1) t W _ 100 (HT.out.keep k) (by omega) (by omega)
    have IS := hide fun W (k : Keep w W) => refIsT t W _ ⟨d + 1, _, rfl, HT.out.keep k⟩
    have SE := hide fun W (k : Keep w W) => refSentT t W _ ⟨d + 1, _, rfl, HT.out.keep k⟩
    have PL := hide fun (hok : Em.okS t = true) W (k : Keep w W) => refPlain22 (HT.out.keep k) hok
    have hwn : (Lit.int .i64 (intW n)).wf = true := by unfold intW; exact imm_wf (by have := IntKind.wrap_i64 (2 * n); omega) (by have := IntKind.wrap_i64 (2 * n); omega)
    have hB := heap_alloc_new w (.cells #[.string (str t.op), .int .i64 t.n, .slice Ak t.kids.length ck] 25)
    have kB : Keep w (w.alloc (.cells #[.string (str t.op), .int .i64 t.n, .slice Ak t.kids.length ck] 25)) := (by repeat (first | exact Keep.rf _ | assumption | apply Keep.al | apply Keep.dr | apply Keep.dn))
    have HBX := hide hB
    have KB := hide kB
    have HB := hide fun W (k : Keep (w.alloc (.cells #[.string (str t.op), .int .i64 t.n, .slice Ak t.kids.length ck] 25)) W) => (by
      have h := (k.frm fun _ => False).heap (fun h => h) hB
      have b0 := top_cells h 0
      have b1 := top_cells h 1
      have b2 := top_cells h 2
      simp only [List.getElem?_toArray, List.getElem?_cons_succ, List.getElem?_cons_zero] at b0 b1 b2
      exact And.intro b0 (And.intro b1 b2))
    clear hs hn9 hB kB
    obtain ⟨b0, b1, b2⟩ := HB.out _ (Keep.rf _)
    go_enter Try.func4, Try.ntmps4
    go_wp2_with fail
    generalize World.alloc w _ = wa at *
    refine (SZ.out _ KB.out).mono ?_
    rintro e w1 ⟨rfl, k1⟩
    generalize hsz : Em.sz 100 t = sz
    have K1 := hide k1
    clear k1 hsz b0 b1 b2
    by_cases g2 : 50 < sz
    · go_wp2_with fail
      go_ret
      exact ⟨rfl, Keep.tr KB.out K1.out⟩
    go_wp2_with fail
    refine (heapNew 9 _ (by omega)).mono ?_
    rintro e w2 ⟨p, S, rfl, hR, hS, k2⟩
    have HR := hide hR
    have K2 := hide (Keep.tr K1.out k2)
    obtain ⟨b0, b1, b2⟩ := HB.out _ (Keep.tr K1.out k2)
    obtain ⟨gb, hgb⟩ : ∃ gb, Em.bytesK [] (intW n) t = gb := ⟨_, rfl⟩
    have HGB := hide hgb
    have HNO := hide (fun (h : (Em.isT t && Em.sentT t) = false) => (hgb ▸ kinds_no h : gb.2 = 6))
    have HYES := hide (fun (h : (Em.isT t && Em.sentT t) = true) => (hgb ▸ kinds_yes h : ¬ gb.2 = 6 ∧ (gb.2 = 0 → Em.isPl t.op ∨ (t.op = Em.wList ∧ intW n = 1))))
    clear hR hS k2 hgb
    go_wp2_with fail
    apply region_all (by kernel_rfl) Keep Keep krg ktg krg ktg (fun _ _ h => h) [some 14, some 15, some 16, some 17, some 18, some 13, some 19, some 20, some 6, some 7] [eqG _ , eqG _ , fun us _ v => v = .int .i64 (intW n), eqG _ , fun us W v => ∃ A c, v = .tuple #[.slice A gb.1.length c, .int .i64 gb.2], eqG1 _ 0, fun us W v => ∃ A c, v = .slice A gb.1.length c, fun us _ v => v = .int .i64 gb.2, eqG1 _ 0, eqG _ ] [⟨[], [], true, false, false⟩, ⟨[], [], true, false, false⟩, ⟨[1], [], true, false, false⟩, ⟨[], [], true, false, false⟩, ⟨[0, 2, 3], [], true, false, false⟩, ⟨[4], [], true, false, false⟩, ⟨[4, 5], [], true, false, false⟩, ⟨[4, 5], [], true, false, false⟩, ⟨[6], [], true, false, false⟩, ⟨[7], [], true, false, false⟩] [4, 6, 9] (by kernel_rfl) (by kernel_rfl) 
    · refine ⟨?_, ?_, ?_, ?_, ?_, ?_, ?_, ?_, ?_, ?_, trivial⟩
      · (intro us W h9 hW hE hd hs K hK; obtain ⟨u0, u1, u2, u3, u4, u5, u6, u7, u8, u9, rfl⟩ := rog 10 h9 rfl; clear h9; clear hd; clear hs; simp only [fillG, List.set_cons_zero, List.set_cons_succ]; refine want_n rfl ?_; go_wp2_with (first | fail); simp only [DoneG, fillG, List.set_cons_zero, List.set_cons_succ, relG, eqG, eqG1, eqG2, eqG3, gdG, gdG1, gnG, gnG1, List.getD_cons_zero, List.getD_cons_succ, List.getElem?_cons_succ, List.getElem?_cons_zero, Option.map_some, Option.getD_some, valsG, List.map_cons, List.map_nil, List.length_cons, List.length_nil]; exact ⟨_, rfl, (by first | with_reducible assumption | exact krg _ | exact Keep.al (krg _) _), fun _ _ => rfl⟩)
      · (intro us W h9 hW hE hd hs K hK; obtain ⟨u0, u1, u2, u3, u4, u5, u6, u7, u8, u9, rfl⟩ := rog 10 h9 rfl; clear h9; clear hd; clear hs; simp only [fillG, List.set_cons_zero, List.set_cons_succ]; refine want_n rfl ?_; go_wp2_with (first | fail); simp only [DoneG, fillG, List.set_cons_zero, List.set_cons_succ, relG, eqG, eqG1, eqG2, eqG3, gdG, gdG1, gnG, gnG1, List.getD_cons_zero, List.getD_cons_succ, List.getElem?_cons_succ, List.getElem?_cons_zero, Option.map_some, Option.getD_some, valsG, List.map_cons, List.map_nil, List.length_cons, List.length_nil]; exact ⟨_, rfl, (by first | with_reducible assumption | exact krg _ | exact Keep.al (krg _) _), fun _ _ => rfl⟩)
      · (intro us W h9 hW hE hd hs K hK; obtain ⟨u0, u1, u2, u3, u4, u5, u6, u7, u8, u9, rfl⟩ := rog 10 h9 rfl; clear h9; simp only [DepG, AtG, and_true, relG, eqG, eqG1, eqG2, eqG3, gdG, gdG1, gnG, gnG1, List.getD_cons_zero, List.getD_cons_succ, List.getElem?_cons_succ, List.getElem?_cons_zero, Option.map_some, Option.getD_some, valsG, List.map_cons, List.map_nil, List.length_cons, List.length_nil] at hd; have d1 := hd; clear hd; subst d1; clear hs; simp only [fillG, List.set_cons_zero, List.set_cons_succ]; have hKW := Keep.tr (Keep.dr (Keep.rf _)) (hE rfl); have b0 := Keep.cell hKW b0; have b1 := Keep.cell hKW b1; have b2 := Keep.cell hKW b2; refine want_n rfl ?_; go_wp2_with (first | (go_at_call 20; refine (heapInt n _).mono ?_; rintro e w' ⟨rfl, rfl⟩) | fail); simp only [DoneG, fillG, List.set_cons_zero, List.set_cons_succ, relG, eqG, eqG1, eqG2, eqG3, gdG, gdG1, gnG, gnG1, List.getD_cons_zero, List.getD_cons_succ, List.getElem?_cons_succ, List.getElem?_cons_zero, Option.map_some, Option.getD_some, valsG, List.map_cons, List.map_nil, List.length_cons, List.length_nil]; exact ⟨_, rfl, (by first | with_reducible assumption | exact krg _ | exact Keep.al (krg _) _), fun W9 hk9 => rfl⟩)
      · (intro us W h9 hW hE hd hs K hK; obtain ⟨u0, u1, u2, u3, u4, u5, u6, u7, u8, u9, rfl⟩ := rog 10 h9 rfl; clear h9; clear hd; clear hs; simp only [fillG, List.set_cons_zero, List.set_cons_succ]; have hKW := Keep.tr (Keep.dr (Keep.rf _)) (hE rfl); have b0 := Keep.cell hKW b0; have b1 := Keep.cell hKW b1; have b2 := Keep.cell hKW b2; refine want_n rfl ?_; go_wp2_with (first | fail); simp only [DoneG, fillG, List.set_cons_zero, List.set_cons_succ, relG, eqG, eqG1, eqG2, eqG3, gdG, gdG1, gnG, gnG1, List.getD_cons_zero, List.getD_cons_succ, List.getElem?_cons_succ, List.getElem?_cons_zero, Option.map_some, Option.getD_some, valsG, List.map_cons, List.map_nil, List.length_cons, List.length_nil]; exact ⟨_, rfl, (by first | with_reducible assumption | exact krg _ | exact Keep.al (krg _) _), fun _ _ => rfl⟩)
      · (intro us W h9 hW hE hd hs K hK; obtain ⟨u0, u1, u2, u3, u4, u5, u6, u7, u8, u9, rfl⟩ := rog 10 h9 rfl; clear h9; simp only [DepG, AtG, and_true, relG, eqG, eqG1, eqG2, eqG3, gdG, gdG1, gnG, gnG1, List.getD_cons_zero, List.getD_cons_succ, List.getElem?_cons_succ, List.getElem?_cons_zero, Option.map_some, Option.getD_some, valsG, List.map_cons, List.map_nil, List.length_cons, List.length_nil] at hd; obtain ⟨d0, d2, d3⟩ := hd; subst d0; subst d2; subst d3; clear hs; simp only [fillG, List.set_cons_zero, List.set_cons_succ]; have hKW := Keep.tr (Keep.dr (Keep.rf _)) (hE rfl); have b0 := Keep.cell hKW b0; have b1 := Keep.cell hKW b1; have b2 := Keep.cell hKW b2; refine want_n rfl ?_; go_wp2_with (first | (go_at_call 17; refine (pickBytes _ (HR.out.keep hKW) _ hwn t (d + 1) _ (HT.out.keep (Keep.tr KB.out (Keep.tr K2.out hKW)))).mono ?_; rw [HGB.out]; rintro e w' ⟨A4, c4, rfl, _, k4⟩) | fail); simp only [DoneG, fillG, List.set_cons_zero, List.set_cons_succ, relG, eqG, eqG1, eqG2, eqG3, gdG, gdG1, gnG, gnG1, List.getD_cons_zero, List.getD_cons_succ, List.getElem?_cons_succ, List.getElem?_cons_zero, Option.map_some, Option.getD_some, valsG, List.map_cons, List.map_nil, List.length_cons, List.length_nil]; exact ⟨_, rfl, (by first | with_reducible assumption | exact krg _ | exact Keep.al (krg _) _), fun W9 hk9 => ⟨A4, c4, rfl⟩⟩)
      · (intro us W h9 hW hE hd hs K hK; obtain ⟨u0, u1, u2, u3, u4, u5, u6, u7, u8, u9, rfl⟩ := rog 10 h9 rfl; clear h9; simp only [DepG, AtG, and_true, relG, eqG, eqG1, eqG2, eqG3, gdG, gdG1, gnG, gnG1, List.getD_cons_zero, List.getD_cons_succ, List.getElem?_cons_succ, List.getElem?_cons_zero, Option.map_some, Option.getD_some, valsG, List.map_cons, List.map_nil, List.length_cons, List.length_nil] at hd; have d4 := hd; clear hd; clear hs; simp only [fillG, List.set_cons_zero, List.set_cons_succ]; refine want_n rfl ?_; go_wp2_with (first | fail); simp only [DoneG, fillG, List.set_cons_zero, List.set_cons_succ, relG, eqG, eqG1, eqG2, eqG3, gdG, gdG1, gnG, gnG1, List.getD_cons_zero, List.getD_cons_succ, List.getElem?_cons_succ, List.getElem?_cons_zero, Option.map_some, Option.getD_some, valsG, List.map_cons, List.map_nil, List.length_cons, List.length_nil]; exact ⟨_, rfl, (by first | with_reducible assumption | exact krg _ | exact Keep.al (krg _) _), fun _ _ => rfl⟩)
      · (intro us W h9 hW hE hd hs K hK; obtain ⟨u0, u1, u2, u3, u4, u5, u6, u7, u8, u9, rfl⟩ := rog 10 h9 rfl; clear h9; simp only [DepG, AtG, and_true, relG, eqG, eqG1, eqG2, eqG3, gdG, gdG1, gnG, gnG1, List.getD_cons_zero, List.getD_cons_succ, List.getElem?_cons_succ, List.getElem?_cons_zero, Option.map_some, Option.getD_some, valsG, List.map_cons, List.map_nil, List.length_cons, List.length_nil] at hd; obtain ⟨d4, d5⟩ := hd; obtain ⟨A4, c4, rfl⟩ := d4; subst d5; clear hs; simp only [fillG, List.set_cons_zero, List.set_cons_succ]; have hKW := Keep.tr (Keep.dr (Keep.rf _)) (hE rfl); have b0 := Keep.cell hKW b0; have b1 := Keep.cell hKW b1; have b2 := Keep.cell hKW b2; refine want_n rfl ?_; go_wp2_with (first | fail); simp only [DoneG, fillG, List.set_cons_zero, List.set_cons_succ, relG, eqG, eqG1, eqG2, eqG3, gdG, gdG1, gnG, gnG1, List.getD_cons_zero, List.getD_cons_succ, List.getElem?_cons_succ, List.getElem?_cons_zero, Option.map_some, Option.getD_some, valsG, List.map_cons, List.map_nil, List.length_cons, List.length_nil]; exact ⟨_, rfl, (by first | with_reducible assumption | exact krg _ | exact Keep.al (krg _) _), fun W9 hk9 => ⟨A4, c4, rfl⟩⟩)
      · (intro us W h9 hW hE hd hs K hK; obtain ⟨u0, u1, u2, u3, u4, u5, u6, u7, u8, u9, rfl⟩ := rog 10 h9 rfl; clear h9; simp only [DepG, AtG, and_true, relG, eqG, eqG1, eqG2, eqG3, gdG, gdG1, gnG, gnG1, List.getD_cons_zero, List.getD_cons_succ, List.getElem?_cons_succ, List.getElem?_cons_zero, Option.map_some, Option.getD_some, valsG, List.map_cons, List.map_nil, List.length_cons, List.length_nil] at hd; obtain ⟨d4, d5⟩ := hd; obtain ⟨A4, c4, rfl⟩ := d4; subst d5; clear hs; simp only [fillG, List.set_cons_zero, List.set_cons_succ]; have hKW := Keep.tr (Keep.dr (Keep.rf _)) (hE rfl); have b0 := Keep.cell hKW b0; have b1 := Keep.cell hKW b1; have b2 := Keep.cell hKW b2; refine want_n rfl ?_; go_wp2_with (first | fail); simp only [DoneG, fillG, List.set_cons_zero, List.set_cons_succ, relG, eqG, eqG1, eqG2, eqG3, gdG, gdG1, gnG, gnG1, List.getD_cons_zero, List.getD_cons_succ, List.getElem?_cons_succ, List.getElem?_cons_zero, Option.map_some, Option.getD_some, valsG, List.map_cons, List.map_nil, List.length_cons, List.length_nil]; exact ⟨_, rfl, (by first | with_reducible assumption | exact krg _ | exact Keep.al (krg _) _), fun _ _ => rfl⟩)
      · (intro us W h9 hW hE hd hs K hK; obtain ⟨u0, u1, u2, u3, u4, u5, u6, u7, u8, u9, rfl⟩ := rog 10 h9 rfl; clear h9; simp only [DepG, AtG, and_true, relG, eqG, eqG1, eqG2, eqG3, gdG, gdG1, gnG, gnG1, List.getD_cons_zero, List.getD_cons_succ, List.getElem?_cons_succ, List.getElem?_cons_zero, Option.map_some, Option.getD_some, valsG, List.map_cons, List.map_nil, List.length_cons, List.length_nil] at hd; have d6 := hd; clear hd; clear hs; simp only [fillG, List.set_cons_zero, List.set_cons_succ]; refine want_n rfl ?_; go_wp2_with (first | fail); simp only [DoneG, fillG, List.set_cons_zero, List.set_cons_succ, relG, eqG, eqG1, eqG2, eqG3, gdG, gdG1, gnG, gnG1, List.getD_cons_zero, List.getD_cons_succ, List.getElem?_cons_succ, List.getElem?_cons_zero, Option.map_some, Option.getD_some, valsG, List.map_cons, List.map_nil, List.length_cons, List.length_nil]; exact ⟨_, rfl, (by first | with_reducible assumption | exact krg _ | exact Keep.al (krg _) _), fun _ _ => rfl⟩)
      · (intro us W h9 hW hE hd hs K hK; obtain ⟨u0, u1, u2, u3, u4, u5, u6, u7, u8, u9, rfl⟩ := rog 10 h9 rfl; clear h9; simp only [DepG, AtG, and_true, relG, eqG, eqG1, eqG2, eqG3, gdG, gdG1, gnG, gnG1, List.getD_cons_zero, List.getD_cons_succ, List.getElem?_cons_succ, List.getElem?_cons_zero, Option.map_some, Option.getD_some, valsG, List.map_cons, List.map_nil, List.length_cons, List.length_nil] at hd; have d7 := hd; clear hd; subst d7; clear hs; simp only [fillG, List.set_cons_zero, List.set_cons_succ]; refine want_n rfl ?_; go_wp2_with (first | fail); simp only [DoneG, fillG, List.set_cons_zero, List.set_cons_succ, relG, eqG, eqG1, eqG2, eqG3, gdG, gdG1, gnG, gnG1, List.getD_cons_zero, List.getD_cons_succ, List.getElem?_cons_succ, List.getElem?_cons_zero, Option.map_some, Option.getD_some, valsG, List.map_cons, List.map_nil, List.length_cons, List.length_nil]; exact ⟨_, rfl, (by first | with_reducible assumption | exact krg _ | exact Keep.al (krg _) _), fun _ _ => rfl⟩)
    (intro us W5 h9 hW hE hA; obtain ⟨u0, u1, u2, u3, u4, u5, u6, u7, u8, u9, rfl⟩ := rog 10 h9 rfl; clear h9; simp only [AllG, AtG, and_true, relG, eqG, eqG1, eqG2, eqG3, gdG, gdG1, gnG, gnG1, List.getD_cons_zero, List.getD_cons_succ, List.getElem?_cons_succ, List.getElem?_cons_zero, Option.map_some, Option.getD_some, valsG, List.map_cons, List.map_nil, List.length_cons, List.length_nil] at hA; obtain ⟨d4, d6, d9⟩ := hA; obtain ⟨A4, c4, rfl⟩ := d4; subst d9; simp only [fillG, List.set_cons_zero, List.set_cons_succ]; have k5 := Keep.tr (Keep.dr (Keep.rf _)) hW; clear hW hE)
    have K5 := hide (Keep.tr K2.out k5)
    obtain ⟨gl, gc⟩ := gb
    simp only at *
    obtain ⟨b0, b1, b2⟩ := HB.out _ K5.out
    clear d6 k5
    go_wp2_with fail
    refine (IS.out W5 (Keep.tr KB.out K5.out)).mono ?_
    rintro e w6 ⟨rfl, k6⟩
    have K6 := hide (Keep.tr K5.out k6)
    obtain ⟨b0, b1, b2⟩ := HB.out _ K6.out
    clear k6
    cases hT : Em.isT t with
    | false =>
      have hc : gc = 6 := HNO.out (by rw [hT]; rfl)
      subst hc
      have KK := hide (Keep.tr KB.out K6.out)
      clear b0 b1 b2
      go_wp2_with fail
      refine (law22Known _).mono ?_
      rintro e w9 ⟨rfl, k9⟩
      go_wp2_with fail
      go_ret
      exact ⟨rfl, Keep.tr KK.out k9⟩
    | true =>
      go_wp2_with fail
      refine (SE.out w6 (Keep.tr KB.out K6.out)).mono ?_
      rintro e w7 ⟨rfl, k7⟩
      have K7 := hide (Keep.tr K6.out k7)
      obtain ⟨b0, b1, b2⟩ := HB.out _ K7.out
      clear k7
      cases hS : Em.sentT t with
      | false =>
        have hc : gc = 6 := HNO.out (by rw [hT, hS]; rfl)
        subst hc
        have KK := hide (Keep.tr KB.out K7.out)
        clear b0 b1 b2
        go_wp2_with fail
        refine (law22Known _).mono ?_
        rintro e w9 ⟨rfl, k9⟩
        go_wp2_with fail
        go_ret
        exact ⟨rfl, Keep.tr KK.out k9⟩
      | true =>
        obtain ⟨h6, h0⟩ := HYES.out (by rw [hT, hS]; rfl)
        have h6b : (gc == 6) = false := by rw [beq_eq_false_iff_ne]; exact h6
        have hokS : Em.okS t = true := by
          unfold Em.okS
          rw [hS, Bool.and_true]
          unfold Em.isT at hT
          exact (Bool.and_eq_true _ _ ▸ hT).2
        by_cases hz : gc = 0
        · have hyz := hide (h0 hz)
          subst hz
          have PLX := hide (PL.out hokS w7 (Keep.tr KB.out K7.out))
          clear h6 h0 h6b
          go_wp2_with fail
          refine PLX.out.mono ?_
          rintro e w8 ⟨rfl, k8⟩
          have K8 := hide (Keep.tr K7.out k8)
          obtain ⟨b0, b1, b2⟩ := HB.out _ K8.out
          have KZ := Keep.tr KB.out K8.out
          clear k8
          by_cases hp : Em.isPl t.op
          · rw [decide_eq_true hp]
            clear b0 b1 b2
            go_wp2_with fail
            refine (law22Known _).mono ?_
            rintro e w9 ⟨rfl, k9⟩
            go_wp2_with fail
            go_ret
            exact ⟨rfl, Keep.tr KZ k9⟩
          · rw [decide_eq_false hp]
            obtain ⟨hop, hw1⟩ : t.op = Em.wList ∧ intW n = 1 := by
              rcases hyz.out with h | h
              · exact absurd h hp
              · exact h
            rw [hop] at b0
            have hO := opB Em.wList
            unfold Em.wList at *
            have HW := hide hw1
            clear hp hop hw1 b1 b2
            go_wp2_with fail
            refine (refWrap n w8).mono ?_
            rintro e w' ⟨rfl, rfl⟩
            rw [HW.out]
            clear b0
            go_wp2_with fail
            refine (law22Known _).mono ?_
            rintro e w9 ⟨rfl, k9⟩
            go_wp2_with fail
            go_ret
            exact ⟨rfl, Keep.tr KZ k9⟩
        · have hzb : (gc != 0) = true := by rw [bne_iff_ne]; exact hz
          have KZ := Keep.tr KB.out K7.out
          clear b0 b1 b2 h0 hz h6
          go_wp2_with fail
          refine (law22Known _).mono ?_
          rintro e w9 ⟨rfl, k9⟩
          go_wp2_with fail
          go_ret
          exact ⟨rfl, Keep.tr KZ k9⟩
end Go.Proofs.Ytoehaijmkmdggaa
