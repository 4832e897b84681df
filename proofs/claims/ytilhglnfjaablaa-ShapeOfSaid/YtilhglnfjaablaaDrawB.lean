/- Walk: a block of the graph (drawer.block), given how values are drawn. -/
import Derived.Test.YtilhglnfjaablaaDrawW
namespace Go.Proofs.Ytilhglnfjaablaa
open Go.RowKit Go.Maps
set_option linter.unusedVariables false
set_option linter.unusedSimpArgs false
set_option maxRecDepth 100000
theorem bl_set {its : List (Em.Blk × Value)} {i : Nat} {b : Em.Blk} {v u : Value} (h : its[i]? = some (b, v)) (g : Em.Blk → Em.Blk) : (its.set i (g b, u)).map (·.1) = (its.map (·.1)).modify i g := by
  apply List.ext_getElem?
  intro j
  rw [List.getElem?_map, List.getElem?_modify, List.getElem?_map, List.getElem?_set]
  by_cases e : i = j
  · subst e
    have := (List.getElem?_eq_some_iff.1 h).1
    have h2 := (List.getElem?_eq_some_iff.1 h).2
    simp [this, h2]
  · simp [e]
theorem row_at {w : World} {B m n g c i : Nat} {its : List (Em.Blk × Value)} {b : Em.Blk} {v : Value} (h : w.ownsRow B 53 3 (.slice (some ⟨g, 0, none⟩) m c) n (its.map blkCells).flatten) (hi : its[i]? = some (b, v)) (j : Nat) (u : Value) (hu : (blkCells (b, v))[j]? = some u) :
    w.cell? ⟨g, i * 3 + j, none⟩ = some u ∧ w.frozen? ⟨g, i * 3 + j, none⟩ = false := by
  have hl := (List.getElem?_eq_some_iff.1 hi).1
  have hj := (List.getElem?_eq_some_iff.1 hu).1
  have hc := h.cells (g := g) rfl (i * 3 + j) u (by
    rw [flat_get 3 _ (fun cs hcs => by
      obtain ⟨it, _, rfl⟩ := List.mem_map.1 hcs
      rfl) i j (by simpa using hl) hj, List.getElem_map, (List.getElem?_eq_some_iff.1 hi).2]
    exact hu)
  rw [add_pl] at hc
  refine ⟨hc, ?_⟩
  rcases h.2 with ⟨e, _⟩ | ⟨g', cap, cur, e, hg, hh, _⟩
  · cases e
  · cases e
    simp [World.frozen?, hh]
theorem DR.badden {tt B : Nat} {U : List Int} {w : World} {dp mb : Nat} {hv l : Value} {its : List (Em.Blk × Value)} {s : Em.Dw} (h : DR tt B U w dp mb hv l its s) (b : Bool) : DR tt B U (w.setCell ⟨dp, 3, none⟩ (.bool b)) dp mb hv l its ⟨s.ws, s.bl, b⟩ :=
  ⟨h.raw.setBad b, h.bl, h.wl, h.cnt⟩
theorem DR.went3 {tt B : Nat} {U : List Int} {w : World} {dp mb : Nat} {hv l : Value} {its : List (Em.Blk × Value)} {s : Em.Dw} (h : DR tt B U w dp mb hv l its s) (b : Bool) : Went U w (w.setCell ⟨dp, 3, none⟩ (.bool b)) dp mb l l its its s ⟨s.ws, s.bl, b⟩ :=
  ⟨(Frm.rf _ w).st (p := ⟨dp, 3, none⟩) (.inl (.inl rfl)) _, fun k h => .inl h, fun k h => .inl h, List.prefix_refl _⟩
theorem DR.strIn {tt B : Nat} {U : List Int} {w : World} {dp mb g n c i : Nat} {hv v : Value} {b : Em.Blk} {its : List (Em.Blk × Value)} {s : Em.Dw} (h : DR tt B U w dp mb hv (.slice (some ⟨g, 0, none⟩) n c) its s) (hi : its[i]? = some (b, v)) (x : List UInt8) :
    DR tt B U (w.setCell ⟨g, i * 3 + 1, none⟩ (.string (str x))) dp mb hv (.slice (some ⟨g, 0, none⟩) n c) (its.set i (b.str! x, v)) ⟨s.ws, s.bl.modify i fun b => b.str! x, s.bad⟩ ∧ Went U w (w.setCell ⟨g, i * 3 + 1, none⟩ (.string (str x))) dp mb (.slice (some ⟨g, 0, none⟩) n c) (.slice (some ⟨g, 0, none⟩) n c) its (its.set i (b.str! x, v)) s ⟨s.ws, s.bl.modify i fun b => b.str! x, s.bad⟩ := by
  refine ⟨⟨h.raw.setStr hi x, ?_, ?_, h.cnt⟩, ⟨(Frm.rf _ w).st (p := ⟨g, i * 3 + 1, none⟩) (.inl (.inr (.inr rfl))) _, fun k h => .inl h, ?_, List.prefix_refl _⟩⟩
  · rw [bl_set hi fun b => b.str! x, h.bl]
  · rw [List.length_set]; exact h.wl
  · rintro k (e | e | e | ⟨it, hit, e⟩)
    · exact .inl (.inl e)
    · exact .inl (.inr (.inl e))
    · exact .inl (.inr (.inr (.inl e)))
    · rcases mem_set_or hit with hit | rfl
      · exact .inl (.inr (.inr (.inr ⟨it, hit, e⟩)))
      · exact .inl (.inr (.inr (.inr ⟨_, List.mem_of_getElem? hi, e⟩)))
theorem DR.kidsIn {tt B : Nat} {U : List Int} {w w0 : World} {dp mb g n c i : Nat} {hv v u : Value} {b : Em.Blk} {its its0 : List (Em.Blk × Value)} {l0 : Value} {s s0 : Em.Dw} {ks : List (Bool × Int)} (h : DR tt B U w dp mb hv (.slice (some ⟨g, 0, none⟩) n c) its s) (hi : its[i]? = some (b, v))
    (hu : w.ownsRow B 31 2 u ks.length (ks.map refCells).flatten) (hw : ∀ k ∈ ks, (Lit.int .i64 k.2).wf = true) (hd : ∀ k, u.ownBlock = some k → ¬ HasD dp mb (.slice (some ⟨g, 0, none⟩) n c) its k)
    (h0 : Went U w0 w dp mb l0 (.slice (some ⟨g, 0, none⟩) n c) its0 its s0 s) (hn : ∀ k, u.ownBlock = some k → w0.heap.size ≤ k) :
    DR tt B U (w.setCell ⟨g, i * 3 + 2, none⟩ u) dp mb hv (.slice (some ⟨g, 0, none⟩) n c) (its.set i (b.kids! ks, u)) ⟨s.ws, s.bl.modify i fun b => b.kids! ks, s.bad⟩ ∧ Went U w0 (w.setCell ⟨g, i * 3 + 2, none⟩ u) dp mb l0 (.slice (some ⟨g, 0, none⟩) n c) its0 (its.set i (b.kids! ks, u)) s0 ⟨s.ws, s.bl.modify i fun b => b.kids! ks, s.bad⟩ := by
  refine ⟨⟨h.raw.setKids hi hu hw hd, ?_, ?_, h.cnt⟩, ⟨h0.frm.trn ((Frm.rf (· = g) w).st (p := ⟨g, i * 3 + 2, none⟩) (.inl rfl) _) fun k e => ?_, h0.row, ?_, h0.pre⟩⟩
  · rw [bl_set hi fun b => b.kids! ks, h.bl]
  · rw [List.length_set]; exact h.wl
  · rcases h0.row g rfl with e2 | e2
    · exact .inl (.inr (.inr (by rw [show k = g from e]; exact e2)))
    · exact .inr (by rw [show k = g from e]; exact e2)
  · rintro k (e | e | e | ⟨it, hit, e⟩)
    · exact .inl (.inl e)
    · exact .inl (.inr (.inl e))
    · exact h0.has k (.inr (.inr (.inl e)))
    · rcases mem_set_or hit with hit | rfl
      · exact h0.has k (.inr (.inr (.inr ⟨it, hit, e⟩)))
      · exact .inr (hn k e)
/-- The row of blocks, where it lies. -/
theorem DR.at_ {tt B : Nat} {U : List Int} {w : World} {dp mb : Nat} {hv l : Value} {its : List (Em.Blk × Value)} {s : Em.Dw} (h : DR tt B U w dp mb hv l its s) {i : Nat} (hi : i < its.length) : ∃ g c, l = .slice (some ⟨g, 0, none⟩) its.length c := by
  obtain ⟨_, ⟨_, h00⟩ | ⟨g, c, cur, e, _⟩⟩ := h.raw.row
  · omega
  · exact ⟨g, c, e⟩
theorem infoRf : (Try.prog.info? 31).map (fun i => (i.zero, i.size, i.bytes)) = some (some (.agg #[.bool false, .int .i64 0]), 2, 16) := by kernel_rfl
theorem own_nilR (w : World) (B : Nat) : w.ownsRow B 31 2 (.slice none 0 0) 0 [] := ⟨by simp, .inl ⟨rfl, rfl⟩⟩
theorem src_new2 (W : World) (n : Nat) (a b : Value) {t : TypeId} (h : W.heap.size = n) : Src (W.alloc (.cells #[a, b] t)) 2 (.slice (some ⟨n, 0, none⟩) 1 1) 1 [a, b] := by
  subst h
  refine ⟨rfl, _, _, rfl, fun _ => ⟨_, rfl, fun j u hu => ?_⟩⟩
  rw [add_pl]
  exact lit_cells rfl j (by simpa using hu)
theorem ref_one (x : Bool × Int) (u : Value) (h : u ∈ refCells x) : u.oneCell' = true := by
  simp [refCells] at h
  rcases h with rfl | rfl <;> rfl
/-- The kids that were drawn so far. -/
def KidsAt (tt B : Nat) (U : List Int) (dp mb : Nat) (hv : Value) (w : World) (l : Value) (its : List (Em.Blk × Value)) (s : Em.Dw) (q : List (Bool × Int) × Em.Dw) (v : Value) (W : World) : Prop :=
  ∃ l' its', DR tt B U W dp mb hv l' its' q.2 ∧ Went U w W dp mb l l' its its' s q.2 ∧ W.ownsRow w.heap.size 31 2 v q.1.length (q.1.map refCells).flatten ∧ (∀ z, v.ownBlock = some z → ¬ HasD dp mb l' its' z) ∧ ∀ z ∈ q.1, (Lit.int .i64 z.2).wf = true
theorem KidsAt.push {tt B : Nat} {U : List Int} {dp mb : Nat} {hv : Value} {w W W2 W3 W4 : World} {l l1 l2 v v' : Value} {its its1 its2 : List (Em.Blk × Value)} {s s1 s2 : Em.Dw} {ks : List (Bool × Int)} {x : Bool × Int}
    (hd : DR tt B U W dp mb hv l1 its1 s1) (hw : Went U w W dp mb l l1 its its1 s s1) (hn : ∀ z, v.ownBlock = some z → ¬ HasD dp mb l1 its1 z) (hwf : ∀ z ∈ ks, (Lit.int .i64 z.2).wf = true) (ho : W.ownsRow w.heap.size 31 2 v ks.length (ks.map refCells).flatten)
    (hd2 : DR tt B U W2 dp mb hv l2 its2 s2) (hw2 : Went U W W2 dp mb l1 l2 its1 its2 s1 s2) (hx : (Lit.int .i64 x.2).wf = true) (k3 : Keep W2 W3) (ha : App W3 w.heap.size 31 2 v (ks.length + 1) ((ks.map refCells).flatten ++ refCells x) v' W4) :
    KidsAt tt B U dp mb hv w l its s (ks ++ [x], s2) v' W4 := by
  obtain ⟨h1, h2, h3⟩ := ha
  have F : Frm (fun k => v.ownBlock = some k) W3 W4 := Frm.of_grown h2 fun _ e => e
  have hlt := World.ownsRow.lt ho
  have hn2 : ∀ z, v.ownBlock = some z → ¬ HasD dp mb l2 its2 z := fun z e => hw2.out (hlt z e).2 (hn z e)
  have hd3 := (hd2.keep k3).frm F fun k hk e => hn2 k e hk
  refine ⟨l2, its2, hd3, ?_, by simpa using h1, ?_, ?_⟩
  · have h4 := (hw.tr hw2).tr (Went.of_keep k3)
    exact { h4 with frm := h4.frm.trn F fun i e => .inr (hlt i e).1 }
  · intro z e
    rcases h3 with e2 | e2
    · exact hn2 z (by rw [← e2, e])
    · rw [e2] at e
      injection e with e
      intro hz
      have h5 := (hd2.raw.lt z hz).2
      have h6 := k3.size
      omega
  · intro z hz
    rcases List.mem_append.1 hz with hz | hz
    · exact hwf z hz
    · rw [List.mem_singleton.1 hz]; exact hx
set_option maxHeartbeats 8000000 in
theorem drawBlk_step {B : Nat} {U : List Int} {dp mb p : Nat} {w0 : World} {H : Em.Hp} {f sz : Nat} {S : List Nat} (hrep : HRep w0 p S sz H) (hB : w0.heap.size ≤ B) (hU : ∀ n, ∀ x ∈ (Em.blk H n).2, x ∈ U) (href : RefC B U dp mb p w0 H f) : BlkC B U dp mb p w0 H f := by
  intro w l its s n i k0 hd hi hn hf
  obtain ⟨g, c, rfl⟩ := hd.at_ hi
  have hit : its[i]? = some (its[i].1, its[i].2) := List.getElem?_eq_getElem hi
  generalize its[i].1 = b at *
  generalize its[i].2 = v at *
  have HD := hide hd
  have d0 := top_cells hd.raw.top 0
  have d3 := top_cells hd.raw.top 3
  have f3 := top_free hd.raw.top 3
  simp only [List.getElem?_toArray, List.getElem?_cons_succ, List.getElem?_cons_zero] at d0 d3
  by_cases c1 : (Em.blk H n).1 = 0 ∨ (Em.blk H n).1 = 8
  · have HX := hide (show Em.fillP (Em.refP f H) H n i s = ⟨s.ws, s.bl, true⟩ from if_pos c1)
    clear hd
    rcases c1 with c1 | c1
    all_goals
      go_enter Try.func74, Try.ntmps74
      go_wp2_with fail
      refine (heapTag _ (hrep.keep k0) n hn).mono ?_
      rintro e w1 ⟨rfl, rfl⟩
      rw [c1]
      clear c1
      go_wp2_with fail
      (try simp only [Exit.inBlock, Exit.then]); refine bodyPost_end (results_none rfl _ _ _) rfl ?_
      rw [HX.out]
      exact ⟨_, its, rfl, HD.out.badden true, HD.out.went3 true⟩
  by_cases c2 : (Em.blk H n).1 = 1
  · have htx := fun W (k : Keep w0 W) => shapeText W (hrep.keep k) n hn
    have HX := hide (show Em.fillP (Em.refP f H) H n i s = ⟨s.ws, s.bl.modify i fun b => b.str! ((Em.textH H n).getD []), s.bad || !(Em.textH H n).isSome⟩ from by unfold Em.fillP; rw [if_neg c1, if_pos c2])
    clear c1
    generalize Em.textH H n = o at *
    obtain ⟨ws, bl, bad⟩ := s
    simp only at *
    clear hd
    cases bad
    all_goals cases o
    all_goals
      simp only [Option.isSome_none, Option.isSome_some, Option.getD_none, Option.getD_some, Bool.not_true, Bool.not_false, Bool.or_true, Bool.or_false] at HX htx
      go_enter Try.func74, Try.ntmps74
      go_wp2_with fail
      refine (heapTag _ (hrep.keep k0) n hn).mono ?_
      rintro e w1 ⟨rfl, rfl⟩
      rw [c2]
      clear c2
      go_wp2_with fail
      refine (htx _ k0).mono ?_
      rintro e w1 ⟨k1, rfl⟩
      have hd1 := HD.out.keep k1
      have R1 := fun b => (hd1.badden b).raw
      have d3 := top_cells hd1.raw.top 3
      have f3 := top_free hd1.raw.top 3
      have d2 := fun b => top_cells (R1 b).top 2
      have r1 := fun b => (row_at (R1 b).row hit 1 _ rfl).1
      have r1f := fun b => (row_at (R1 b).row hit 1 _ rfl).2
      simp only [List.getElem?_toArray, List.getElem?_cons_succ, List.getElem?_cons_zero] at d2 d3
      have HD1 := hide hd1
      clear hd1 R1 htx
      go_wp2_with fail
      (try simp only [Exit.inBlock, Exit.then]); refine bodyPost_end (results_none rfl _ _ _) rfl ?_
      rw [HX.out]
      exact ⟨_, _, rfl, ((HD1.out.badden _).strIn hit _).1, ((Went.of_keep k1).tr (HD1.out.went3 _)).tr ((HD1.out.badden _).strIn hit _).2⟩
  by_cases c3 : (Em.blk H n).1 = 6 ∨ (Em.blk H n).1 = 7
  · have HX := hide (show Em.fillP (Em.refP f H) H n i s = s from by unfold Em.fillP; rw [if_neg c1, if_neg c2, if_pos c3])
    clear hd c1 c2
    rcases c3 with c3 | c3
    all_goals
      go_enter Try.func74, Try.ntmps74
      go_wp2_with fail
      refine (heapTag _ (hrep.keep k0) n hn).mono ?_
      rintro e w1 ⟨rfl, rfl⟩
      rw [c3]
      clear c3
      go_wp2_with fail
      (try simp only [Exit.inBlock, Exit.then]); refine bodyPost_end (results_none rfl _ _ _) rfl ?_
      rw [HX.out]
      exact ⟨_, its, rfl, HD.out, Went.rf⟩
  · have HX := hide (show Em.fillP (Em.refP f H) H n i s = ⟨(Em.kidsP (Em.refP f H) (Em.blk H n).2 s).2.ws, (Em.kidsP (Em.refP f H) (Em.blk H n).2 s).2.bl.modify i (fun b => b.kids! (Em.kidsP (Em.refP f H) (Em.blk H n).2 s).1), (Em.kidsP (Em.refP f H) (Em.blk H n).2 s).2.bad⟩ from by unfold Em.fillP; rw [if_neg c1, if_neg c2, if_neg c3])
    have HF := hide (show ∀ k : Nat, fieldT H n (k : Int) = match (Em.blk H n).2[k]? with | some v => .tuple #[.int .i64 v, .bool true] | none => .tuple #[.int .i64 0, .bool false] from fun k => by
      unfold fieldT Em.field
      rw [if_neg (by omega), Int.toNat_natCast]
      cases (Em.blk H n).2[k]? <;> rfl)
    have HWF := hide (hrep.blk n).2.1
    have hfl := (hrep.blk n).1
    have HU := hide (hU n)
    have hBw : B ≤ w.heap.size := by
      have := hd.raw.lt dp (.inl rfl)
      omega
    simp only [not_or] at c1 c3
    obtain ⟨t0, t8⟩ := c1
    obtain ⟨t6, t7⟩ := c3
    generalize htg : (Em.blk H n).1 = t at *
    generalize hfs : (Em.blk H n).2 = fs at *
    have HTG := hide htg
    have HFS := hide hfs
    clear htg hfs hd
    generalize hr : Em.refP f H = r at *
    have HR := hide hr
    clear hr
    go_enter Try.func74, Try.ntmps74
    go_wp2_with fail
    refine (heapTag _ (hrep.keep k0) n hn).mono ?_
    rintro e w1 ⟨rfl, rfl⟩
    rw [HTG.out]
    go_wp2_with fail
    refine (heapLen _ (hrep.keep k0) n hn).mono ?_
    rintro e w1 ⟨rfl, rfl⟩
    rw [HFS.out]
    clear d0 d3 f3
    go_wp2_with fail
    go_loopw [9, 26] (fun v i' W => ∃ k : Nat, k ≤ fs.length ∧ i' = .int .i64 (k : Int) ∧ KidsAt 88 B U dp mb (.pointer (some ⟨p, 0, none⟩)) w (.slice (some ⟨g, 0, none⟩) its.length c) its s (Em.kidsP r (fs.take k) s) v W) (fun _ i _ => fs.length - (intOf i).toNat)
    case atStart => exact ⟨0, Nat.zero_le _, rfl, _, _, HD.out, Went.rf, own_nilR _ _, by simp [Value.ownBlock], by simp [Em.kidsP]⟩
    case round =>
      obtain ⟨k, hk, rfl, l1, its1, hd1, hw1, ho1, hn1, hwf1⟩ := hrel
      have d0 := top_cells hd1.raw.top 0
      have d2 := top_cells hd1.raw.top 2
      simp only [List.getElem?_toArray, List.getElem?_cons_succ, List.getElem?_cons_zero] at d0 d2
      have hkw := hw1.low HD.out k0 hB
      obtain ⟨A1, c1, rfl⟩ := own_slice ho1
      have HD1 := hide hd1
      have HW1 := hide hw1
      have HO1 := hide ho1
      have HN1 := hide hn1
      have HWF1 := hide hwf1
      have hql := Em.kidsP_len r (fs.take k) s
      rw [List.length_take, Nat.min_eq_left hk] at hql
      have hqs := Em.kidsP_snoc r (fs.take k)
      by_cases hlt : k < fs.length
      · have hlti : (k : Int) < (fs.length : Int) := by omega
        have hfk : fieldT H n (k : Int) = .tuple #[.int .i64 fs[k], .bool true] := by
          rw [HF.out, List.getElem?_eq_getElem hlt]
        have HQ := hide (hqs fs[k] s)
        rw [← List.take_succ_eq_append_getElem hlt] at HQ
        have hxU := HU.out fs[k] (List.getElem_mem hlt)
        have hxw := HWF.out fs[k] (List.getElem_mem hlt)
        have hus : Em.uns U (Em.kidsP r (fs.take k) s).2.ws < f := Nat.lt_of_le_of_lt (Em.uns_pre hw1.pre) hf
        generalize Em.kidsP r (fs.take k) s = q at *
        generalize fs[k] = x at *
        obtain ⟨ks, s1⟩ := q
        simp only at hql
        subst hql
        have HREF := href wr l1 its1 s1 x hkw HD1.out hxU hxw hus
        clear hd1 hw1 ho1 hn1 hwf1 d2 hqs hxU hus hlt
        go_wp2_with fail
        refine (heapField _ (hrep.keep hkw) n hn (ks.length : Int)).mono ?_
        rintro e w2 ⟨rfl, rfl⟩
        rw [hfk]
        clear hfk
        go_wp2_with fail
        refine HREF.mono ?_
        rintro e W2 ⟨l2, its2, rfl, hxr, hd2, hw2⟩
        rw [HR.out] at hd2 hw2 hxr ⊢
        have ho2 := hw2.own HO1.out HN1.out
        have HD2 := hide hd2
        have HW2 := hide hw2
        have HO2 := hide ho2
        have HXR := hide hxr
        have hsz2 : w.heap.size ≤ W2.heap.size := Nat.le_trans HW1.out.frm.size hw2.frm.size
        clear hd2 hw2 ho2 hxr HREF d0
        generalize (r x s1) = y at *
        obtain ⟨⟨y1, y2⟩, s2⟩ := y
        simp only at *
        go_wp2_with (first
          | (at_builtin; go_loud (refine wpList_app rfl (.tmp 39) (.tmp 43) 51 rfl w.heap.size 31 _ 2 16 Try.underlying51 infoRf rfl (by omega) _ ks.length _ rfl (own_keep HO2.out (by repeat (first | exact Keep.rf _ | assumption | apply Keep.al | apply Keep.dr | apply Keep.dn))) _ 1 (refCells (y1, y2)) rfl (src_new2 W2 _ _ _ rfl) (ref_one _) (by simp only [maxLen]; omega) (by omega) (by rw [size_alloc]; omega) ?_); intro v3 w3 ha3; obtain ⟨A3, c3, e3⟩ := own_slice ha3.1; subst e3; have HA3 := hide ha3; clear ha3)
          | fail)
        have HKA := hide (KidsAt.push HD1.out HW1.out HN1.out HWF1.out HO1.out HD2.out HW2.out HXR.out (Keep.al (Keep.rf W2) _) HA3.out)
        go_roundw
        case rel => exact ⟨ks.length + 1, by omega, by go_num, by rw [HQ.out]; exact HKA.out⟩
        case measure => simp [intOf]; omega
      · have hlti : ¬ (k : Int) < (fs.length : Int) := by omega
        have hkn : k = fs.length := by omega
        have hqe : Em.kidsP r (fs.take k) s = Em.kidsP r fs s := by rw [hkn, List.take_length]
        rw [hqe] at hd1 hw1 ho1 hn1 hwf1 ⊢
        clear hqe
        clear HD1 HW1 HWF1 HO1 HN1
        generalize Em.kidsP r fs s = q at *
        have hi1 : i < its1.length := by
          have h1 := hw1.pre.length_le
          have h2 := hd1.wl
          have h3 := HD.out.wl
          omega
        obtain ⟨g1, c1', rfl⟩ := hd1.at_ hi1
        have hit1 : its1[i]? = some (its1[i].1, its1[i].2) := List.getElem?_eq_getElem hi1
        obtain ⟨e0, e1⟩ := row_at hd1.raw.row hit1 2 _ rfl
        have HEND := hide (hd1.kidsIn hit1 (own_lower ho1 hBw) hwf1 hn1 hw1 fun k e => (World.ownsRow.lt ho1 k e).1)
        clear hd1 hw1 ho1 hn1 hwf1 hqs hql
        go_wp2_with fail
        (try simp only [Exit.inBlock, Exit.then]); refine bodyPost_end (results_none rfl _ _ _) rfl ?_
        rw [HX.out]
        exact ⟨_, _, rfl, HEND.out.1, HEND.out.2⟩
end Go.Proofs.Ytilhglnfjaablaa
