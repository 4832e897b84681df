/- Walks: a value's graph (package shape, and its reference). -/
import Derived.Test.YtilhglnfjaablaaDrawU
import Derived.Test.YtilhglnfjaablaaShapeK
namespace Go.Proofs.Ytilhglnfjaablaa
open Go.RowKit Go.Maps
set_option linter.unusedVariables false
set_option linter.unusedSimpArgs false
set_option maxRecDepth 100000
namespace Em
/-- The words that may come. -/
def univ (H : Hp) (n : Int) : List Int := n :: H.flatMap (·.2)
/-- What Of answers, by what was drawn. -/
def ofD (r : (Bool × Int) × Dw) : Gr × Int := if r.2.bad = true then (⟨(false, 0), []⟩, 1) else if 2000 < r.2.bl.length then (⟨(false, 0), []⟩, 7) else (⟨r.1, r.2.bl⟩, 0)
def ofH (H : Hp) (n : Int) : Gr × Int := ofD (refP ((univ H n).length + 1) H n ⟨[], [], false⟩)
theorem ofQ (H : Hp) (n : Int) : ofD (refQ ((univ H n).length + 1) H n ⟨[], [], false⟩) = ofH H n := by
  unfold ofH
  rcases ref_alike ((univ H n).length + 1) H n ⟨[], [], false⟩ with e | ⟨e1, e2⟩
  · rw [e]
  · unfold ofD
    rw [if_pos e1, if_pos e2]
end Em
theorem flat_used (H : Em.Hp) : (H.flatMap (·.2)).length ≤ Em.used H := by
  induction H with
  | nil => simp
  | cons b t ih =>
    rw [List.flatMap_cons, List.length_append, Em.used]
    omega
theorem univ_len (H : Em.Hp) (n : Int) : (Em.univ H n).length ≤ Em.used H + 1 := by
  have := flat_used H
  simp only [Em.univ, List.length_cons]
  omega
theorem univ_kid (H : Em.Hp) (n m : Int) (x : Int) (h : x ∈ (Em.blk H m).2) : x ∈ Em.univ H n := by
  rcases blk_mem H m with e | e
  · rw [e] at h
    cases h
  · exact List.mem_cons_of_mem _ (List.mem_flatMap.2 ⟨_, e, h⟩)
theorem telRef {B : Nat} {U : List Int} {dp mb p : Nat} {w0 : World} {H : Em.Hp} {sz : Nat} {S : List Nat} (hrep : RRep w0 p S sz H) (hB : w0.heap.size ≤ B) (hU : ∀ n, ∀ x ∈ (Em.blk H n).2, x ∈ U) (f : Nat) : TelC B U dp mb p w0 H f := by
  induction f with
  | zero =>
    intro w l its s n k0 hd hn hw hf
    omega
  | succ f ih => exact telRef_step hrep hB hU ih
theorem DR.start {tt B : Nat} {U : List Int} {w : World} {dp mb : Nat} {hv : Value} (ht : w.heap[dp]? = some (.cells #[hv, .map (some mb), .slice none 0 0, .bool false] tt)) (hm : MapF w mb (fun _ => none)) (h1 : B ≤ dp) (h2 : B ≤ mb) (h3 : dp ≠ mb) (hU : U.length ≤ 60000) :
    DR tt B U w dp mb hv (.slice none 0 0) [] ⟨[], [], false⟩ := by
  refine ⟨{ top := ht, map := hm, row := ⟨by simp, .inl ⟨rfl, rfl⟩⟩, kid := by simp, wf := by simp, d1 := ⟨h1, h2, h3⟩, d2 := by simp [Value.ownBlock], d3 := by simp }, rfl, rfl, ?_⟩
  have : Em.uns U [] ≤ U.length := List.countP_le_length
  simpa using Nat.le_trans this hU
theorem uns_nil (U : List Int) : Em.uns U [] < U.length + 1 := by
  have : Em.uns U [] ≤ U.length := List.countP_le_length
  omega
/-- A graph that was answered. -/
def RetG (w : World) (o : Em.Gr × Int) (e : Ending) (w' : World) : Prop := ∃ v, e = .returned (.tuple #[v, .int .i64 o.2]) ∧ GrV w' v o.1 ∧ Keep w w'
theorem RetG.none {w w' : World} {o : Em.Gr × Int} {c : Int} (h : o = (⟨(false, 0), []⟩, c)) (k : Keep w w') : RetG w o (.returned (.tuple #[.agg #[.bool false, .int .i64 0, .slice none 0 0], .int .i64 c])) w' := by
  subst h
  exact ⟨_, rfl, ⟨_, rfl, (by decide : (Lit.int .i64 0).wf = true), Sl.nil _⟩, k⟩
theorem RRep.smallR {w : World} {p sz : Nat} {S : List Nat} {H : Em.Hp} (h : RRep w p S sz H) : Em.used H ≤ sz ∧ sz ≤ 20000 := by
  obtain ⟨a, t, f, fv, rfl, h, r, h1, h2⟩ := h
  exact ⟨h1, h2⟩
set_option maxHeartbeats 8000000 in
theorem shapeOf {p sz : Nat} {S : List Nat} {H : Em.Hp} (w : World) (h : HRep w p S sz H) (n : Int) (hn : (Lit.int .i64 n).wf = true) : Calls Try.prog 13 #[.pointer (some ⟨p, 0, none⟩), .int .i64 n] w (RetG w (Em.ofH H n)) := by
  have hmm := @run_makeMap Try.prog
  have hul := univ_len H n
  have hus := h.small
  have HREF := fun dp mb => drawRef (B := w.heap.size + 1) (U := Em.univ H n) (dp := dp) (mb := mb) h (Nat.le_succ _) (univ_kid H n) ((Em.univ H n).length + 1)
  have HO := hide (show Em.ofH H n = Em.ofD (Em.refP ((Em.univ H n).length + 1) H n ⟨[], [], false⟩) from rfl)
  have hG := (((Keep.al (Keep.al (Keep.rf (w.alloc (.cells #[.bool false, .int .i64 0, .slice none 0 0] 34))) (.map #[] 0)) (.cells #[.pointer (some ⟨p, 0, none⟩), .map (some (w.heap.size + 1)), .slice none 0 0, .bool false] 88)) : Keep (w.alloc (.cells #[.bool false, .int .i64 0, .slice none 0 0] 34)) _).frm fun _ => False).heap (fun h => h) (heap_alloc_new w _)
  have hM := (MapF.new (w.alloc (.cells #[.bool false, .int .i64 0, .slice none 0 0] 34)) (b := w.heap.size + 1) (by simp)).frm (S := fun _ => False) ((Keep.al (Keep.rf ((w.alloc (.cells #[.bool false, .int .i64 0, .slice none 0 0] 34)).alloc (.map #[] 0))) (.cells #[.pointer (some ⟨p, 0, none⟩), .map (some (w.heap.size + 1)), .slice none 0 0, .bool false] 88)).frm _) (fun h => h)
  have hD : ((((w.alloc (.cells #[.bool false, .int .i64 0, .slice none 0 0] 34)).alloc (.map #[] 0)).alloc (.cells #[.pointer (some ⟨p, 0, none⟩), .map (some (w.heap.size + 1)), .slice none 0 0, .bool false] 88))).heap[w.heap.size + 1 + 1]? = some (.cells #[.pointer (some ⟨p, 0, none⟩), .map (some (w.heap.size + 1)), .slice none 0 0, .bool false] 88) := by
    have := heap_alloc_new ((w.alloc (.cells #[.bool false, .int .i64 0, .slice none 0 0] 34)).alloc (.map #[] 0)) (.cells #[.pointer (some ⟨p, 0, none⟩), .map (some (w.heap.size + 1)), .slice none 0 0, .bool false] 88)
    simpa using this
  have k0 : Keep w (((w.alloc (.cells #[.bool false, .int .i64 0, .slice none 0 0] 34)).alloc (.map #[] 0)).alloc (.cells #[.pointer (some ⟨p, 0, none⟩), .map (some (w.heap.size + 1)), .slice none 0 0, .bool false] 88)) := (by repeat (first | exact Keep.rf _ | assumption | apply Keep.al | apply Keep.dr | apply Keep.dn))
  have hdr := DR.start (B := w.heap.size + 1) (U := Em.univ H n) hD hM (by omega) (by omega) (by omega) (by omega)
  have hnG : ¬ HasD (w.heap.size + 1 + 1) (w.heap.size + 1) (.slice none 0 0) [] w.heap.size := fun e => by have := (hdr.raw.lt _ e).1; omega
  go_enter Try.func13, Try.ntmps13
  go_wp2_with fail
  clear hmm hD hM
  generalize World.alloc (World.alloc (World.alloc w _) _) _ = W1 at *
  refine (HREF _ _ W1 _ _ _ n k0 hdr List.mem_cons_self hn (uns_nil _)).mono ?_
  rintro e w2 ⟨l', its', rfl, hrw, hd2, hw2⟩
  have hG2 := hw2.heap hnG hG
  have k2 := hw2.low hdr k0 (Nat.le_succ _)
  generalize Em.refP ((Em.univ H n).length + 1) H n ⟨[], [], false⟩ = r at *
  obtain ⟨⟨r1, r2⟩, σ⟩ := r
  obtain ⟨A, c, rfl⟩ := own_slice hd2.raw.row
  have hbl : σ.bl.length = its'.length := by rw [hd2.bl]; simp
  have kal := Keep.al (Keep.rf w2) (.cells #[.bool r1, .int .i64 r2] 31)
  have hx := heap_alloc_new w2 (.cells #[.bool r1, .int .i64 r2] 31)
  have hG3 := (kal.frm fun _ => False).heap (fun h => h) hG2
  have hD3 := (hd2.keep kal).raw.top
  have k03 := Keep.tr k2 kal
  have x0 := top_cells hx 0
  have x1 := top_cells hx 1
  have d2 := top_cells hD3 2
  have d3 := top_cells hD3 3
  have g0 := top_cells hG3 0
  have g1 := top_cells hG3 1
  have g2 := top_cells hG3 2
  have f0 := top_free hG3 0
  have f1 := top_free hG3 1
  have f2 := top_free hG3 2
  simp only [List.getElem?_toArray, List.getElem?_cons_succ, List.getElem?_cons_zero] at x0 x1 d2 d3 g0 g1 g2
  have HG3 := hide hG3
  have HDR := hide (hd2.keep kal)
  have HNG := hide (hw2.out (Array.getElem?_eq_some_iff.1 hG).1 hnG)
  have HBL := hide hbl
  have hil := hd2.cnt
  have hwl := hd2.wl
  have hib : its'.length ≤ 100000 := by omega
  simp only at hrw
  clear hx hG hG2 hG3 hD3 hd2 hw2 hdr kal k2 k0 hnG hil hwl HREF hul hus hbl
  obtain ⟨ws, bl, bad⟩ := σ
  simp only at *
  cases bad with
  | true =>
    have HE := hide (show Em.ofH H n = (⟨(false, 0), []⟩, 1) from by rw [HO.out]; rfl)
    go_wp2_with fail
    refine bodyPost_ret_by (results_cell2 rfl _ _ w.heap.size 34 _ (0, 0) _ rfl (heap_set3 HG3.out _ _ _) Try.underlying34 rfl ?_) rfl ?_
    · kernel_rfl
    · exact RetG.none HE.out (Frm.keep k03 (frm_set3 _ w.heap.size _ _ _) (fun i e => by have e : i = w.heap.size := e; omega))
  | false =>
    by_cases hbig : 2000 < its'.length
    · have hbi : (its'.length : Int) > 2000 := by omega
      have HE := hide (show Em.ofH H n = (⟨(false, 0), []⟩, 7) from by rw [HO.out]; unfold Em.ofD; rw [if_neg (by simp), if_pos (by rw [HBL.out]; exact hbig)])
      clear hbig
      go_wp2_with fail
      refine bodyPost_ret_by (results_cell2 rfl _ _ w.heap.size 34 _ (0, 0) _ rfl (heap_set3 HG3.out _ _ _) Try.underlying34 rfl ?_) rfl ?_
      · kernel_rfl
      · exact RetG.none HE.out (Frm.keep k03 (frm_set3 _ w.heap.size _ _ _) (fun i e => by have e : i = w.heap.size := e; omega))
    · have hbi : ¬ (its'.length : Int) > 2000 := by omega
      have HE := hide (show Em.ofH H n = (⟨(r1, r2), bl⟩, 0) from by rw [HO.out]; unfold Em.ofD; rw [if_neg (by simp), if_neg (by rw [HBL.out]; exact hbig)])
      clear hbig f0 f1 f2
      go_wp2_with fail
      generalize World.alloc w2 _ = W2 at *
      generalize w2.heap.size = rb at *
      apply region_all (by kernel_rfl) Keep (Frm (· = w.heap.size)) krg ktg (Frm.rf _) (fun _ _ _ => Frm.tr) (fun _ _ h => Keep.frm h _) [some 29, some 30, some 31, some 32, some 33, some 34, none, some 5] [eqG _ , eqG _ , eqG _ , eqG _ , eqG _ , eqG _ , fun us W v => W.heap[w.heap.size]? = some (.cells #[.bool r1, .int .i64 r2, .slice A its'.length c] 34), eqG _ ] [⟨[], [], true, false, false⟩, ⟨[], [], true, false, false⟩, ⟨[1], [], true, false, false⟩, ⟨[2], [], true, false, false⟩, ⟨[3], [], true, false, false⟩, ⟨[0, 4], [], true, false, false⟩, ⟨[5], [], true, true, true⟩, ⟨[], [], false, false, false⟩] [6, 7] (by kernel_rfl) (by kernel_rfl) 
      · refine ⟨?_, ?_, ?_, ?_, ?_, ?_, ?_, ?_, trivial⟩
        · (intro us W h9 hW hE hd hs K hK; obtain ⟨u0, u1, u2, u3, u4, u5, u6, u7, rfl⟩ := rog 8 h9 rfl; clear h9; clear hd; clear hs; simp only [fillG, List.set_cons_zero, List.set_cons_succ]; have hKW := Keep.tr (Keep.dr (Keep.rf _)) (hE rfl); have x0 := Keep.cell hKW x0; have x1 := Keep.cell hKW x1; have d2 := Keep.cell hKW d2; have g0 := Keep.cell hKW g0; have g1 := Keep.cell hKW g1; have g2 := Keep.cell hKW g2; refine want_n rfl ?_; go_wp2_with (first | fail); simp only [DoneG, fillG, List.set_cons_zero, List.set_cons_succ, relG, eqG, eqG1, eqG2, eqG3, gdG, gdG1, gnG, gnG1, List.getD_cons_zero, List.getD_cons_succ, List.getElem?_cons_succ, List.getElem?_cons_zero, Option.map_some, Option.getD_some, valsG, List.map_cons, List.map_nil, List.length_cons, List.length_nil]; exact ⟨_, rfl, (by first | with_reducible assumption | exact krg _ | exact Keep.al (krg _) _), fun _ _ => rfl⟩)
        · (intro us W h9 hW hE hd hs K hK; obtain ⟨u0, u1, u2, u3, u4, u5, u6, u7, rfl⟩ := rog 8 h9 rfl; clear h9; clear hd; clear hs; simp only [fillG, List.set_cons_zero, List.set_cons_succ]; refine want_n rfl ?_; go_wp2_with (first | fail); simp only [DoneG, fillG, List.set_cons_zero, List.set_cons_succ, relG, eqG, eqG1, eqG2, eqG3, gdG, gdG1, gnG, gnG1, List.getD_cons_zero, List.getD_cons_succ, List.getElem?_cons_succ, List.getElem?_cons_zero, Option.map_some, Option.getD_some, valsG, List.map_cons, List.map_nil, List.length_cons, List.length_nil]; exact ⟨_, rfl, (by first | with_reducible assumption | exact krg _ | exact Keep.al (krg _) _), fun _ _ => rfl⟩)
        · (intro us W h9 hW hE hd hs K hK; obtain ⟨u0, u1, u2, u3, u4, u5, u6, u7, rfl⟩ := rog 8 h9 rfl; clear h9; simp only [DepG, AtG, and_true, relG, eqG, eqG1, eqG2, eqG3, gdG, gdG1, gnG, gnG1, List.getD_cons_zero, List.getD_cons_succ, List.getElem?_cons_succ, List.getElem?_cons_zero, Option.map_some, Option.getD_some, valsG, List.map_cons, List.map_nil, List.length_cons, List.length_nil] at hd; have d1 := hd; clear hd; subst d1; clear hs; simp only [fillG, List.set_cons_zero, List.set_cons_succ]; refine want_n rfl ?_; go_wp2_with (first | fail); simp only [DoneG, fillG, List.set_cons_zero, List.set_cons_succ, relG, eqG, eqG1, eqG2, eqG3, gdG, gdG1, gnG, gnG1, List.getD_cons_zero, List.getD_cons_succ, List.getElem?_cons_succ, List.getElem?_cons_zero, Option.map_some, Option.getD_some, valsG, List.map_cons, List.map_nil, List.length_cons, List.length_nil]; exact ⟨_, rfl, (by first | with_reducible assumption | exact krg _ | exact Keep.al (krg _) _), fun _ _ => rfl⟩)
        · (intro us W h9 hW hE hd hs K hK; obtain ⟨u0, u1, u2, u3, u4, u5, u6, u7, rfl⟩ := rog 8 h9 rfl; clear h9; simp only [DepG, AtG, and_true, relG, eqG, eqG1, eqG2, eqG3, gdG, gdG1, gnG, gnG1, List.getD_cons_zero, List.getD_cons_succ, List.getElem?_cons_succ, List.getElem?_cons_zero, Option.map_some, Option.getD_some, valsG, List.map_cons, List.map_nil, List.length_cons, List.length_nil] at hd; have d2 := hd; clear hd; subst d2; clear hs; simp only [fillG, List.set_cons_zero, List.set_cons_succ]; refine want_n rfl ?_; go_wp2_with (first | fail); simp only [DoneG, fillG, List.set_cons_zero, List.set_cons_succ, relG, eqG, eqG1, eqG2, eqG3, gdG, gdG1, gnG, gnG1, List.getD_cons_zero, List.getD_cons_succ, List.getElem?_cons_succ, List.getElem?_cons_zero, Option.map_some, Option.getD_some, valsG, List.map_cons, List.map_nil, List.length_cons, List.length_nil]; exact ⟨_, rfl, (by first | with_reducible assumption | exact krg _ | exact Keep.al (krg _) _), fun _ _ => rfl⟩)
        · (intro us W h9 hW hE hd hs K hK; obtain ⟨u0, u1, u2, u3, u4, u5, u6, u7, rfl⟩ := rog 8 h9 rfl; clear h9; simp only [DepG, AtG, and_true, relG, eqG, eqG1, eqG2, eqG3, gdG, gdG1, gnG, gnG1, List.getD_cons_zero, List.getD_cons_succ, List.getElem?_cons_succ, List.getElem?_cons_zero, Option.map_some, Option.getD_some, valsG, List.map_cons, List.map_nil, List.length_cons, List.length_nil] at hd; have d3 := hd; clear hd; subst d3; clear hs; simp only [fillG, List.set_cons_zero, List.set_cons_succ]; have hKW := Keep.tr (Keep.dr (Keep.rf _)) (hE rfl); have x0 := Keep.cell hKW x0; have x1 := Keep.cell hKW x1; have d2 := Keep.cell hKW d2; have g0 := Keep.cell hKW g0; have g1 := Keep.cell hKW g1; have g2 := Keep.cell hKW g2; refine want_n rfl ?_; go_wp2_with (first | fail); simp only [DoneG, fillG, List.set_cons_zero, List.set_cons_succ, relG, eqG, eqG1, eqG2, eqG3, gdG, gdG1, gnG, gnG1, List.getD_cons_zero, List.getD_cons_succ, List.getElem?_cons_succ, List.getElem?_cons_zero, Option.map_some, Option.getD_some, valsG, List.map_cons, List.map_nil, List.length_cons, List.length_nil]; exact ⟨_, rfl, (by first | with_reducible assumption | exact krg _ | exact Keep.al (krg _) _), fun _ _ => rfl⟩)
        · (intro us W h9 hW hE hd hs K hK; obtain ⟨u0, u1, u2, u3, u4, u5, u6, u7, rfl⟩ := rog 8 h9 rfl; clear h9; simp only [DepG, AtG, and_true, relG, eqG, eqG1, eqG2, eqG3, gdG, gdG1, gnG, gnG1, List.getD_cons_zero, List.getD_cons_succ, List.getElem?_cons_succ, List.getElem?_cons_zero, Option.map_some, Option.getD_some, valsG, List.map_cons, List.map_nil, List.length_cons, List.length_nil] at hd; obtain ⟨d0, d4⟩ := hd; subst d0; subst d4; clear hs; simp only [fillG, List.set_cons_zero, List.set_cons_succ]; refine want_n rfl ?_; go_wp2_with (first | fail); simp only [DoneG, fillG, List.set_cons_zero, List.set_cons_succ, relG, eqG, eqG1, eqG2, eqG3, gdG, gdG1, gnG, gnG1, List.getD_cons_zero, List.getD_cons_succ, List.getElem?_cons_succ, List.getElem?_cons_zero, Option.map_some, Option.getD_some, valsG, List.map_cons, List.map_nil, List.length_cons, List.length_nil]; exact ⟨_, rfl, (by first | with_reducible assumption | exact krg _ | exact Keep.al (krg _) _), fun _ _ => rfl⟩)
        · (intro us W h9 hW hE hd hs K hK; obtain ⟨u0, u1, u2, u3, u4, u5, u6, u7, rfl⟩ := rog 8 h9 rfl; clear h9; simp only [DepG, AtG, and_true, relG, eqG, eqG1, eqG2, eqG3, gdG, gdG1, gnG, gnG1, List.getD_cons_zero, List.getD_cons_succ, List.getElem?_cons_succ, List.getElem?_cons_zero, Option.map_some, Option.getD_some, valsG, List.map_cons, List.map_nil, List.length_cons, List.length_nil] at hd; have d5 := hd; clear hd; subst d5; clear hs; simp only [fillG, List.set_cons_zero, List.set_cons_succ]; have hKW := Keep.tr (Keep.dr (Keep.rf _)) (hE rfl); have x0 := Keep.cell hKW x0; have x1 := Keep.cell hKW x1; have d2 := Keep.cell hKW d2; have g0 := Keep.cell hKW g0; have g1 := Keep.cell hKW g1; have g2 := Keep.cell hKW g2; refine want_n rfl ?_; have hg9 := (hKW.frm fun _ => False).heap (fun h => h) HG3.out; have f0 := top_free hg9 0; have f1 := top_free hg9 1; have f2 := top_free hg9 2; have hrel9 := frm_set3 W w.heap.size (.bool r1) (.int .i64 r2) (.slice A its'.length c); go_wp2_with fail; simp only [DoneG, fillG, List.set_cons_zero, List.set_cons_succ, relG, eqG, eqG1, eqG2, eqG3, gdG, gdG1, gnG, gnG1, List.getD_cons_zero, List.getD_cons_succ, List.getElem?_cons_succ, List.getElem?_cons_zero, Option.map_some, Option.getD_some, valsG, List.map_cons, List.map_nil, List.length_cons, List.length_nil]; exact ⟨undef, trivial, (by first | with_reducible assumption | exact trivial), fun W9 hk9 => ((hk9.frm fun _ => False).heap (fun h => h) (heap_set3 ((hKW.frm fun _ => False).heap (fun h => h) HG3.out) _ _ _))⟩)
        · (intro us W h9 hW hE hd hs K hK; obtain ⟨u0, u1, u2, u3, u4, u5, u6, u7, rfl⟩ := rog 8 h9 rfl; clear h9; clear hd; clear hs; simp only [fillG, List.set_cons_zero, List.set_cons_succ]; refine want_n rfl ?_; go_wp2_with (first | fail); simp only [DoneG, fillG, List.set_cons_zero, List.set_cons_succ, relG, eqG, eqG1, eqG2, eqG3, gdG, gdG1, gnG, gnG1, List.getD_cons_zero, List.getD_cons_succ, List.getElem?_cons_succ, List.getElem?_cons_zero, Option.map_some, Option.getD_some, valsG, List.map_cons, List.map_nil, List.length_cons, List.length_nil]; exact ⟨_, rfl, (by first | with_reducible assumption | exact krg _ | exact Keep.al (krg _) _), fun _ _ => rfl⟩)
      (intro us W4 h9 hW hE hA; obtain ⟨u0, u1, u2, u3, u4, u5, u6, u7, rfl⟩ := rog 8 h9 rfl; clear h9; simp only [AllG, AtG, and_true, relG, eqG, eqG1, eqG2, eqG3, gdG, gdG1, gnG, gnG1, List.getD_cons_zero, List.getD_cons_succ, List.getElem?_cons_succ, List.getElem?_cons_zero, Option.map_some, Option.getD_some, valsG, List.map_cons, List.map_nil, List.length_cons, List.length_nil] at hA; obtain ⟨d6, d7⟩ := hA; subst d7; simp only [fillG, List.set_cons_zero, List.set_cons_succ])
      go_wp2_with fail
      refine bodyPost_ret_by (results_cell2 rfl _ _ w.heap.size 34 _ (0, 0) _ rfl d6 Try.underlying34 rfl ?_) rfl ?_
      · kernel_rfl
      · rw [HE.out]
        have F4 : Frm (· = w.heap.size) W2 W4 := ((Keep.dr (Keep.rf W2)).frm _).tr hW
        have hd4 := HDR.out.frm F4 fun k hk e => HNG.out (by have e : k = w.heap.size := e; exact e ▸ hk)
        exact ⟨_, rfl, ⟨_, rfl, hrw, hd4.sl⟩, Frm.keep k03 F4 (fun i e => by have e : i = w.heap.size := e; omega)⟩
set_option maxHeartbeats 8000000 in
theorem ref18Of {p sz : Nat} {S : List Nat} {H : Em.Hp} (w : World) (h : RRep w p S sz H) (n : Int) (hn : (Lit.int .i64 n).wf = true) : Calls Try.prog 14 #[.pointer (some ⟨p, 0, none⟩), .int .i64 n] w (RetG w (Em.ofH H n)) := by
  have hmm := @run_makeMap Try.prog
  have hul := univ_len H n
  have hus := h.smallR
  have HREF := fun dp mb => telRef (B := w.heap.size + 1) (U := Em.univ H n) (dp := dp) (mb := mb) h (Nat.le_succ _) (univ_kid H n) ((Em.univ H n).length + 1)
  have HO := hide (show Em.ofH H n = Em.ofD (Em.refQ ((Em.univ H n).length + 1) H n ⟨[], [], false⟩) from (Em.ofQ H n).symm)
  have hG := (((Keep.al (Keep.al (Keep.rf (w.alloc (.cells #[.bool false, .int .i64 0, .slice none 0 0] 34))) (.map #[] 0)) (.cells #[.pointer (some ⟨p, 0, none⟩), .map (some (w.heap.size + 1)), .slice none 0 0, .bool false] 92)) : Keep (w.alloc (.cells #[.bool false, .int .i64 0, .slice none 0 0] 34)) _).frm fun _ => False).heap (fun h => h) (heap_alloc_new w _)
  have hM := (MapF.new (w.alloc (.cells #[.bool false, .int .i64 0, .slice none 0 0] 34)) (b := w.heap.size + 1) (by simp)).frm (S := fun _ => False) ((Keep.al (Keep.rf ((w.alloc (.cells #[.bool false, .int .i64 0, .slice none 0 0] 34)).alloc (.map #[] 0))) (.cells #[.pointer (some ⟨p, 0, none⟩), .map (some (w.heap.size + 1)), .slice none 0 0, .bool false] 92)).frm _) (fun h => h)
  have hD : ((((w.alloc (.cells #[.bool false, .int .i64 0, .slice none 0 0] 34)).alloc (.map #[] 0)).alloc (.cells #[.pointer (some ⟨p, 0, none⟩), .map (some (w.heap.size + 1)), .slice none 0 0, .bool false] 92))).heap[w.heap.size + 1 + 1]? = some (.cells #[.pointer (some ⟨p, 0, none⟩), .map (some (w.heap.size + 1)), .slice none 0 0, .bool false] 92) := by
    have := heap_alloc_new ((w.alloc (.cells #[.bool false, .int .i64 0, .slice none 0 0] 34)).alloc (.map #[] 0)) (.cells #[.pointer (some ⟨p, 0, none⟩), .map (some (w.heap.size + 1)), .slice none 0 0, .bool false] 92)
    simpa using this
  have k0 : Keep w (((w.alloc (.cells #[.bool false, .int .i64 0, .slice none 0 0] 34)).alloc (.map #[] 0)).alloc (.cells #[.pointer (some ⟨p, 0, none⟩), .map (some (w.heap.size + 1)), .slice none 0 0, .bool false] 92)) := (by repeat (first | exact Keep.rf _ | assumption | apply Keep.al | apply Keep.dr | apply Keep.dn))
  have hdr := DR.start (B := w.heap.size + 1) (U := Em.univ H n) hD hM (by omega) (by omega) (by omega) (by omega)
  have hnG : ¬ HasD (w.heap.size + 1 + 1) (w.heap.size + 1) (.slice none 0 0) [] w.heap.size := fun e => by have := (hdr.raw.lt _ e).1; omega
  go_enter Try.func14, Try.ntmps14
  go_wp2_with fail
  clear hmm hD hM
  generalize World.alloc (World.alloc (World.alloc w _) _) _ = W1 at *
  refine (HREF _ _ W1 _ _ _ n k0 hdr List.mem_cons_self hn (uns_nil _)).mono ?_
  rintro e w2 ⟨l', its', rfl, hrw, hd2, hw2⟩
  have hG2 := hw2.heap hnG hG
  have k2 := hw2.low hdr k0 (Nat.le_succ _)
  generalize Em.refQ ((Em.univ H n).length + 1) H n ⟨[], [], false⟩ = r at *
  obtain ⟨⟨r1, r2⟩, σ⟩ := r
  obtain ⟨A, c, rfl⟩ := own_slice hd2.raw.row
  have hbl : σ.bl.length = its'.length := by rw [hd2.bl]; simp
  have kal := Keep.al (Keep.rf w2) (.cells #[.bool r1, .int .i64 r2] 31)
  have hx := heap_alloc_new w2 (.cells #[.bool r1, .int .i64 r2] 31)
  have hG3 := (kal.frm fun _ => False).heap (fun h => h) hG2
  have hD3 := (hd2.keep kal).raw.top
  have k03 := Keep.tr k2 kal
  have x0 := top_cells hx 0
  have x1 := top_cells hx 1
  have d2 := top_cells hD3 2
  have d3 := top_cells hD3 3
  have g0 := top_cells hG3 0
  have g1 := top_cells hG3 1
  have g2 := top_cells hG3 2
  have f0 := top_free hG3 0
  have f1 := top_free hG3 1
  have f2 := top_free hG3 2
  simp only [List.getElem?_toArray, List.getElem?_cons_succ, List.getElem?_cons_zero] at x0 x1 d2 d3 g0 g1 g2
  have HG3 := hide hG3
  have HDR := hide (hd2.keep kal)
  have HNG := hide (hw2.out (Array.getElem?_eq_some_iff.1 hG).1 hnG)
  have HBL := hide hbl
  have hil := hd2.cnt
  have hwl := hd2.wl
  have hib : its'.length ≤ 100000 := by omega
  simp only at hrw
  clear hx hG hG2 hG3 hD3 hd2 hw2 hdr kal k2 k0 hnG hil hwl HREF hul hus hbl
  obtain ⟨ws, bl, bad⟩ := σ
  simp only at *
  cases bad with
  | true =>
    have HE := hide (show Em.ofH H n = (⟨(false, 0), []⟩, 1) from by rw [HO.out]; rfl)
    go_wp2_with fail
    refine bodyPost_ret_by (results_cell2 rfl _ _ w.heap.size 34 _ (0, 0) _ rfl (heap_set3 HG3.out _ _ _) Try.underlying34 rfl ?_) rfl ?_
    · kernel_rfl
    · exact RetG.none HE.out (Frm.keep k03 (frm_set3 _ w.heap.size _ _ _) (fun i e => by have e : i = w.heap.size := e; omega))
  | false =>
    by_cases hbig : 2000 < its'.length
    · have hbi : (its'.length : Int) > 2000 := by omega
      have HE := hide (show Em.ofH H n = (⟨(false, 0), []⟩, 7) from by rw [HO.out]; unfold Em.ofD; rw [if_neg (by simp), if_pos (by rw [HBL.out]; exact hbig)])
      clear hbig
      go_wp2_with fail
      refine bodyPost_ret_by (results_cell2 rfl _ _ w.heap.size 34 _ (0, 0) _ rfl (heap_set3 HG3.out _ _ _) Try.underlying34 rfl ?_) rfl ?_
      · kernel_rfl
      · exact RetG.none HE.out (Frm.keep k03 (frm_set3 _ w.heap.size _ _ _) (fun i e => by have e : i = w.heap.size := e; omega))
    · have hbi : ¬ (its'.length : Int) > 2000 := by omega
      have HE := hide (show Em.ofH H n = (⟨(r1, r2), bl⟩, 0) from by rw [HO.out]; unfold Em.ofD; rw [if_neg (by simp), if_neg (by rw [HBL.out]; exact hbig)])
      clear hbig f0 f1 f2
      go_wp2_with fail
      generalize World.alloc w2 _ = W2 at *
      generalize w2.heap.size = rb at *
      apply region_all (by kernel_rfl) Keep (Frm (· = w.heap.size)) krg ktg (Frm.rf _) (fun _ _ _ => Frm.tr) (fun _ _ h => Keep.frm h _) [some 27, some 28, some 29, some 30, some 31, some 32, none, some 5] [eqG _ , eqG _ , eqG _ , eqG _ , eqG _ , eqG _ , fun us W v => W.heap[w.heap.size]? = some (.cells #[.bool r1, .int .i64 r2, .slice A its'.length c] 34), eqG _ ] [⟨[], [], true, false, false⟩, ⟨[], [], true, false, false⟩, ⟨[1], [], true, false, false⟩, ⟨[2], [], true, false, false⟩, ⟨[3], [], true, false, false⟩, ⟨[0, 4], [], true, false, false⟩, ⟨[5], [], true, true, true⟩, ⟨[], [], false, false, false⟩] [6, 7] (by kernel_rfl) (by kernel_rfl) 
      · refine ⟨?_, ?_, ?_, ?_, ?_, ?_, ?_, ?_, trivial⟩
        · (intro us W h9 hW hE hd hs K hK; obtain ⟨u0, u1, u2, u3, u4, u5, u6, u7, rfl⟩ := rog 8 h9 rfl; clear h9; clear hd; clear hs; simp only [fillG, List.set_cons_zero, List.set_cons_succ]; have hKW := Keep.tr (Keep.dr (Keep.rf _)) (hE rfl); have x0 := Keep.cell hKW x0; have x1 := Keep.cell hKW x1; have d2 := Keep.cell hKW d2; have g0 := Keep.cell hKW g0; have g1 := Keep.cell hKW g1; have g2 := Keep.cell hKW g2; refine want_n rfl ?_; go_wp2_with (first | fail); simp only [DoneG, fillG, List.set_cons_zero, List.set_cons_succ, relG, eqG, eqG1, eqG2, eqG3, gdG, gdG1, gnG, gnG1, List.getD_cons_zero, List.getD_cons_succ, List.getElem?_cons_succ, List.getElem?_cons_zero, Option.map_some, Option.getD_some, valsG, List.map_cons, List.map_nil, List.length_cons, List.length_nil]; exact ⟨_, rfl, (by first | with_reducible assumption | exact krg _ | exact Keep.al (krg _) _), fun _ _ => rfl⟩)
        · (intro us W h9 hW hE hd hs K hK; obtain ⟨u0, u1, u2, u3, u4, u5, u6, u7, rfl⟩ := rog 8 h9 rfl; clear h9; clear hd; clear hs; simp only [fillG, List.set_cons_zero, List.set_cons_succ]; refine want_n rfl ?_; go_wp2_with (first | fail); simp only [DoneG, fillG, List.set_cons_zero, List.set_cons_succ, relG, eqG, eqG1, eqG2, eqG3, gdG, gdG1, gnG, gnG1, List.getD_cons_zero, List.getD_cons_succ, List.getElem?_cons_succ, List.getElem?_cons_zero, Option.map_some, Option.getD_some, valsG, List.map_cons, List.map_nil, List.length_cons, List.length_nil]; exact ⟨_, rfl, (by first | with_reducible assumption | exact krg _ | exact Keep.al (krg _) _), fun _ _ => rfl⟩)
        · (intro us W h9 hW hE hd hs K hK; obtain ⟨u0, u1, u2, u3, u4, u5, u6, u7, rfl⟩ := rog 8 h9 rfl; clear h9; simp only [DepG, AtG, and_true, relG, eqG, eqG1, eqG2, eqG3, gdG, gdG1, gnG, gnG1, List.getD_cons_zero, List.getD_cons_succ, List.getElem?_cons_succ, List.getElem?_cons_zero, Option.map_some, Option.getD_some, valsG, List.map_cons, List.map_nil, List.length_cons, List.length_nil] at hd; have d1 := hd; clear hd; subst d1; clear hs; simp only [fillG, List.set_cons_zero, List.set_cons_succ]; refine want_n rfl ?_; go_wp2_with (first | fail); simp only [DoneG, fillG, List.set_cons_zero, List.set_cons_succ, relG, eqG, eqG1, eqG2, eqG3, gdG, gdG1, gnG, gnG1, List.getD_cons_zero, List.getD_cons_succ, List.getElem?_cons_succ, List.getElem?_cons_zero, Option.map_some, Option.getD_some, valsG, List.map_cons, List.map_nil, List.length_cons, List.length_nil]; exact ⟨_, rfl, (by first | with_reducible assumption | exact krg _ | exact Keep.al (krg _) _), fun _ _ => rfl⟩)
        · (intro us W h9 hW hE hd hs K hK; obtain ⟨u0, u1, u2, u3, u4, u5, u6, u7, rfl⟩ := rog 8 h9 rfl; clear h9; simp only [DepG, AtG, and_true, relG, eqG, eqG1, eqG2, eqG3, gdG, gdG1, gnG, gnG1, List.getD_cons_zero, List.getD_cons_succ, List.getElem?_cons_succ, List.getElem?_cons_zero, Option.map_some, Option.getD_some, valsG, List.map_cons, List.map_nil, List.length_cons, List.length_nil] at hd; have d2 := hd; clear hd; subst d2; clear hs; simp only [fillG, List.set_cons_zero, List.set_cons_succ]; refine want_n rfl ?_; go_wp2_with (first | fail); simp only [DoneG, fillG, List.set_cons_zero, List.set_cons_succ, relG, eqG, eqG1, eqG2, eqG3, gdG, gdG1, gnG, gnG1, List.getD_cons_zero, List.getD_cons_succ, List.getElem?_cons_succ, List.getElem?_cons_zero, Option.map_some, Option.getD_some, valsG, List.map_cons, List.map_nil, List.length_cons, List.length_nil]; exact ⟨_, rfl, (by first | with_reducible assumption | exact krg _ | exact Keep.al (krg _) _), fun _ _ => rfl⟩)
        · (intro us W h9 hW hE hd hs K hK; obtain ⟨u0, u1, u2, u3, u4, u5, u6, u7, rfl⟩ := rog 8 h9 rfl; clear h9; simp only [DepG, AtG, and_true, relG, eqG, eqG1, eqG2, eqG3, gdG, gdG1, gnG, gnG1, List.getD_cons_zero, List.getD_cons_succ, List.getElem?_cons_succ, List.getElem?_cons_zero, Option.map_some, Option.getD_some, valsG, List.map_cons, List.map_nil, List.length_cons, List.length_nil] at hd; have d3 := hd; clear hd; subst d3; clear hs; simp only [fillG, List.set_cons_zero, List.set_cons_succ]; have hKW := Keep.tr (Keep.dr (Keep.rf _)) (hE rfl); have x0 := Keep.cell hKW x0; have x1 := Keep.cell hKW x1; have d2 := Keep.cell hKW d2; have g0 := Keep.cell hKW g0; have g1 := Keep.cell hKW g1; have g2 := Keep.cell hKW g2; refine want_n rfl ?_; go_wp2_with (first | fail); simp only [DoneG, fillG, List.set_cons_zero, List.set_cons_succ, relG, eqG, eqG1, eqG2, eqG3, gdG, gdG1, gnG, gnG1, List.getD_cons_zero, List.getD_cons_succ, List.getElem?_cons_succ, List.getElem?_cons_zero, Option.map_some, Option.getD_some, valsG, List.map_cons, List.map_nil, List.length_cons, List.length_nil]; exact ⟨_, rfl, (by first | with_reducible assumption | exact krg _ | exact Keep.al (krg _) _), fun _ _ => rfl⟩)
        · (intro us W h9 hW hE hd hs K hK; obtain ⟨u0, u1, u2, u3, u4, u5, u6, u7, rfl⟩ := rog 8 h9 rfl; clear h9; simp only [DepG, AtG, and_true, relG, eqG, eqG1, eqG2, eqG3, gdG, gdG1, gnG, gnG1, List.getD_cons_zero, List.getD_cons_succ, List.getElem?_cons_succ, List.getElem?_cons_zero, Option.map_some, Option.getD_some, valsG, List.map_cons, List.map_nil, List.length_cons, List.length_nil] at hd; obtain ⟨d0, d4⟩ := hd; subst d0; subst d4; clear hs; simp only [fillG, List.set_cons_zero, List.set_cons_succ]; refine want_n rfl ?_; go_wp2_with (first | fail); simp only [DoneG, fillG, List.set_cons_zero, List.set_cons_succ, relG, eqG, eqG1, eqG2, eqG3, gdG, gdG1, gnG, gnG1, List.getD_cons_zero, List.getD_cons_succ, List.getElem?_cons_succ, List.getElem?_cons_zero, Option.map_some, Option.getD_some, valsG, List.map_cons, List.map_nil, List.length_cons, List.length_nil]; exact ⟨_, rfl, (by first | with_reducible assumption | exact krg _ | exact Keep.al (krg _) _), fun _ _ => rfl⟩)
        · (intro us W h9 hW hE hd hs K hK; obtain ⟨u0, u1, u2, u3, u4, u5, u6, u7, rfl⟩ := rog 8 h9 rfl; clear h9; simp only [DepG, AtG, and_true, relG, eqG, eqG1, eqG2, eqG3, gdG, gdG1, gnG, gnG1, List.getD_cons_zero, List.getD_cons_succ, List.getElem?_cons_succ, List.getElem?_cons_zero, Option.map_some, Option.getD_some, valsG, List.map_cons, List.map_nil, List.length_cons, List.length_nil] at hd; have d5 := hd; clear hd; subst d5; clear hs; simp only [fillG, List.set_cons_zero, List.set_cons_succ]; have hKW := Keep.tr (Keep.dr (Keep.rf _)) (hE rfl); have x0 := Keep.cell hKW x0; have x1 := Keep.cell hKW x1; have d2 := Keep.cell hKW d2; have g0 := Keep.cell hKW g0; have g1 := Keep.cell hKW g1; have g2 := Keep.cell hKW g2; refine want_n rfl ?_; have hg9 := (hKW.frm fun _ => False).heap (fun h => h) HG3.out; have f0 := top_free hg9 0; have f1 := top_free hg9 1; have f2 := top_free hg9 2; have hrel9 := frm_set3 W w.heap.size (.bool r1) (.int .i64 r2) (.slice A its'.length c); go_wp2_with fail; simp only [DoneG, fillG, List.set_cons_zero, List.set_cons_succ, relG, eqG, eqG1, eqG2, eqG3, gdG, gdG1, gnG, gnG1, List.getD_cons_zero, List.getD_cons_succ, List.getElem?_cons_succ, List.getElem?_cons_zero, Option.map_some, Option.getD_some, valsG, List.map_cons, List.map_nil, List.length_cons, List.length_nil]; exact ⟨undef, trivial, (by first | with_reducible assumption | exact trivial), fun W9 hk9 => ((hk9.frm fun _ => False).heap (fun h => h) (heap_set3 ((hKW.frm fun _ => False).heap (fun h => h) HG3.out) _ _ _))⟩)
        · (intro us W h9 hW hE hd hs K hK; obtain ⟨u0, u1, u2, u3, u4, u5, u6, u7, rfl⟩ := rog 8 h9 rfl; clear h9; clear hd; clear hs; simp only [fillG, List.set_cons_zero, List.set_cons_succ]; refine want_n rfl ?_; go_wp2_with (first | fail); simp only [DoneG, fillG, List.set_cons_zero, List.set_cons_succ, relG, eqG, eqG1, eqG2, eqG3, gdG, gdG1, gnG, gnG1, List.getD_cons_zero, List.getD_cons_succ, List.getElem?_cons_succ, List.getElem?_cons_zero, Option.map_some, Option.getD_some, valsG, List.map_cons, List.map_nil, List.length_cons, List.length_nil]; exact ⟨_, rfl, (by first | with_reducible assumption | exact krg _ | exact Keep.al (krg _) _), fun _ _ => rfl⟩)
      (intro us W4 h9 hW hE hA; obtain ⟨u0, u1, u2, u3, u4, u5, u6, u7, rfl⟩ := rog 8 h9 rfl; clear h9; simp only [AllG, AtG, and_true, relG, eqG, eqG1, eqG2, eqG3, gdG, gdG1, gnG, gnG1, List.getD_cons_zero, List.getD_cons_succ, List.getElem?_cons_succ, List.getElem?_cons_zero, Option.map_some, Option.getD_some, valsG, List.map_cons, List.map_nil, List.length_cons, List.length_nil] at hA; obtain ⟨d6, d7⟩ := hA; subst d7; simp only [fillG, List.set_cons_zero, List.set_cons_succ])
      go_wp2_with fail
      refine bodyPost_ret_by (results_cell2 rfl _ _ w.heap.size 34 _ (0, 0) _ rfl d6 Try.underlying34 rfl ?_) rfl ?_
      · kernel_rfl
      · rw [HE.out]
        have F4 : Frm (· = w.heap.size) W2 W4 := ((Keep.dr (Keep.rf W2)).frm _).tr hW
        have hd4 := HDR.out.frm F4 fun k hk e => HNG.out (by have e : k = w.heap.size := e; exact e ▸ hk)
        exact ⟨_, rfl, ⟨_, rfl, hrw, hd4.sl⟩, Frm.keep k03 F4 (fun i e => by have e : i = w.heap.size := e; omega)⟩
end Go.Proofs.Ytilhglnfjaablaa
