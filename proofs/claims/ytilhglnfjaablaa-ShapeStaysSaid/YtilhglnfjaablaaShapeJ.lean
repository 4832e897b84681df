/- The law ShapeStays: walk. -/
import Derived.Test.YtilhglnfjaablaaShapeI
import Derived.Test.YtilhglnfjaablaaShapeV
namespace Go.Proofs.Ytilhglnfjaablaa
open Go.RowKit Go.Maps
set_option linter.unusedVariables false
set_option linter.unusedSimpArgs false
set_option maxRecDepth 100000
theorem Em.idxF_low {s : Nat} {H G : Em.Hp} {n : Int} (h : n < 2 * ((s + Em.used H : Nat) : Int)) : Em.idxF s (H ++ G) n = Em.idxF s H n := by
  induction H generalizing s with
  | nil =>
    simp only [Em.used, Nat.add_zero] at h
    rw [List.nil_append, Em.idxF]
    cases hi : Em.idxF s G n with
    | none => rfl
    | some i =>
      have := Em.idxF_lt hi
      omega
  | cons b t ih =>
    rw [List.cons_append, Em.idxF, Em.idxF]
    simp only [Em.used] at h
    rw [ih (by omega)]
theorem Em.blk_low {H G : Em.Hp} {n : Int} (h : n < 2 * (Em.used H : Int)) : Em.blk (H ++ G) n = Em.blk H n := by
  unfold Em.blk Em.idx
  rw [Em.idxF_low (by rw [Nat.zero_add]; exact h)]
  cases hi : Em.idxF 0 H n with
  | none => rfl
  | some i =>
    have := (Em.idxF_lt hi).1
    simp only [List.getD_eq_getElem?_getD]
    rw [List.getElem?_append_left this]
theorem Em.build_low (sz : Nat) (H : Em.Hp) (g : Em.Gr) (hu : Em.used H ≤ sz) {n : Int} (h : n < 2 * (Em.used H : Int)) : Em.blk (Em.buildG sz H g).2.2 n = Em.blk H n := by
  rcases Em.build_cases sz H g with ⟨c, _, e⟩ | ⟨_, _, e⟩ | e
  · rw [e]
  · rw [e]
    exact Em.blk_low h
  · omega
theorem fieldT_blk {H G : Em.Hp} {n : Int} (h : Em.blk H n = Em.blk G n) (i : Int) : fieldT H n i = fieldT G n i := by
  unfold fieldT Em.field
  rw [h]
theorem fieldT_in {H : Em.Hp} {n : Int} {k : Nat} (h : k < (Em.blk H n).2.length) : fieldT H n (k : Int) = .tuple #[.int .i64 (Em.blk H n).2[k], .bool true] := by
  unfold fieldT Em.field
  rw [if_neg (by omega), Int.toNat_natCast, List.getElem?_eq_getElem h]
theorem nat_wf {k : Nat} (h : k ≤ 1000000) : (Lit.int .i64 (k : Int)).wf = true := by
  simp [Lit.wf, IntKind.min, IntKind.max, IntKind.bits, IntKind.signed]
  omega
set_option maxHeartbeats 16000000 in
theorem ShapeStays_walk (w : World) (v : Value) (tags : List Int) (hv : Is w v tags ∧ ∀ n ∈ tags, (Lit.int .i64 n).wf = true) (_ : tags.length ≤ 17592186044416) (u : Value) (fields : List (List Int)) (hu : Sl 1 KIs w u fields) (_ : True) (gv : Value) (g : Em.Gr) (hg : GrV w gv g) (_ : True) :
    Calls Try.prog 10 #[v, u, gv] w fun e w' => e = .returned (.bool true) ∧ Keep w w' := by
  have HG := hide hg
  obtain ⟨gu, rfl, _, ⟨gA, gc, rfl, _⟩⟩ := hg
  have k0 : Keep w (w.alloc (.cells #[.bool g.root.1, .int .i64 g.root.2, .slice gA g.blocks.length gc] 34)) := (by repeat (first | exact Keep.rf _ | assumption | apply Keep.al | apply Keep.dr | apply Keep.dn))
  have ha := heap_alloc_new w (.cells #[.bool g.root.1, .int .i64 g.root.2, .slice gA g.blocks.length gc] 34)
  have HP := lawPair (w.alloc (.cells #[.bool g.root.1, .int .i64 g.root.2, .slice gA g.blocks.length gc] 34)) 300 (by decide) v tags (hv.1.keep k0) hv.2 u fields (hu.keep k0 fun cs l h => by obtain ⟨v', h1, h2, h3⟩ := h; exact ⟨v', h1, h2.keep k0, h3⟩)
  obtain ⟨tA, tc, rfl, _⟩ := hv.1
  obtain ⟨fA, fc, rfl, _⟩ := hu
  simp only [List.length_map] at HP ⊢
  have a0 := top_cells ha 0
  have a1 := top_cells ha 1
  have a2 := top_cells ha 2
  simp only [List.getElem?_toArray, List.getElem?_cons_succ, List.getElem?_cons_zero] at a0 a1 a2
  have hA := hide (And.intro a0 (And.intro a1 a2))
  have K0 := hide k0
  clear hv ha k0 a0 a1 a2
  go_enter Try.func10, Try.ntmps10
  go_wp2_with fail
  generalize World.alloc w _ = w1 at *
  refine HP.mono ?_
  intro e w2 R
  clear HP
  rcases R with ⟨rfl, k1⟩ | ⟨p, q, m, S, T, H, lv, l, hm, rfl, hB, hl⟩
  · go_wp2_with fail
    go_ret
    exact ⟨rfl, Keep.tr K0.out k1⟩
  obtain ⟨lA, lc, rfl, _⟩ := hl
  have k12 := hB.2.2.2.2.2
  have a0 := Keep.cell k12 hA.out.1
  have a1 := Keep.cell k12 hA.out.2.1
  have a2 := Keep.cell k12 hA.out.2.2
  have HB := hide hB
  clear hB k12
  go_wp2_with fail
  refine (lawLong18s g _ _ (HG.out.keep (Keep.tr K0.out HB.out.2.2.2.2.2))).mono ?_
  rintro e w3 ⟨⟨b, rfl, hsm⟩, k23⟩
  replace a0 := Keep.cell k23 a0
  replace a1 := Keep.cell k23 a1
  replace a2 := Keep.cell k23 a2
  have HB3 := hide (HB.out.keep k23)
  clear k23 HB
  cases b with
  | true =>
    go_wp2_with fail
    go_ret
    exact ⟨rfl, Keep.tr K0.out HB3.out.2.2.2.2.2⟩
  | false =>
    have HSM := hide (hsm rfl)
    clear hsm
    go_wp2_with fail
    have k03 := hide (Keep.tr K0.out HB3.out.2.2.2.2.2)
    have hS : ∀ k ∈ S, w.heap.size ≤ k := fun k hk => Nat.le_trans K0.out.size (HB3.out.2.2.1 k hk)
    refine (shapeBuild _ HB3.out.1 _ g (GrS.of HG.out k03.out hS) HSM.out.need).mono ?_
    rintro e w4 ⟨rfl, S4, r4, x4⟩
    have h4 := HB3.out.parts x4
    have HX := hide (Frm.keep k03.out x4.1 hS)
    have hsml := HB3.out.2.1.smallR
    have HLOW := hide (fun (n : Int) (h : n < 2 * (Em.used H : Int)) => Em.build_low m H g hsml.1 h)
    have hus : Em.used H ≤ 20000 := by omega
    have HR4 := hide r4
    have H4 := hide h4
    clear r4 x4 h4 hS a0 a1 a2 HB3
    generalize Em.buildG m H g = o at *
    obtain ⟨ow, oc, oH⟩ := o
    simp only at HR4 HLOW ⊢
    go_wp2_with fail
    go_loopw [10] (fun i W => ∃ k : Nat, k ≤ 2 * Em.used H ∧ i = .int .i64 (k : Int) ∧ Keep w4 W) (fun i _ => 2 * Em.used H - (intOf i).toNat)
    case atStart => exact ⟨0, Nat.zero_le _, rfl, Keep.rf _⟩
    case round =>
      obtain ⟨k, hk, rfl, kw⟩ := hrel
      have hkw := nat_wf (k := k) (by omega)
      have hrh := hide (HR4.out.keep kw)
      have hrr := hide (H4.out.1.keep kw)
      generalize husd : Em.used H = us at *
      have HUS := hide husd
      go_wp2_with fail
      refine (refUsed _ hrr.out).mono ?_
      rintro e w5 ⟨rfl, rfl⟩
      rw [husd]
      clear husd
      by_cases hlt : k < 2 * us
      · have hlti : (k : Int) < 2 * (us : Int) := by omega
        have hbl := HLOW.out (k : Int) hlti
        have HBL := hide hbl
        go_wp2_with fail
        refine (heapTag _ hrh.out (k : Int) hkw).mono ?_
        rintro e w6 ⟨rfl, rfl⟩
        rw [hbl]
        go_wp2_with fail
        refine (refTag _ hrr.out (k : Int) hkw).mono ?_
        rintro e w6 ⟨rfl, rfl⟩
        have htt : ((Em.blk H (k : Int)).1 != (Em.blk H (k : Int)).1) = false := by simp
        have HFT := hide (fun i : Int => fieldT_blk hbl i)
        have HFI := hide (fun (j : Nat) (h : j < (Em.blk H (k : Int)).2.length) => fieldT_in h)
        generalize (Em.blk H (k : Int)).1 = tg at *
        go_wp2_with fail
        refine (heapLen _ hrh.out (k : Int) hkw).mono ?_
        rintro e w6 ⟨rfl, rfl⟩
        rw [hbl]
        go_wp2_with fail
        refine (refFields _ hrr.out (k : Int) hkw).mono ?_
        rintro e w6 ⟨fv, rfl, hfv, rfl⟩
        obtain ⟨fA2, fc2, rfl, _⟩ := hfv
        simp only [List.length_map]
        have hfb := (HR4.out.blk (k : Int)).1
        rw [hbl] at hfb
        generalize hfs : (Em.blk H (k : Int)).2 = fs at *
        have hll : ((fs.length : Int) != (fs.length : Int)) = false := by simp
        have HFS := hide hfs
        clear hbl hfs
        go_wp2_with fail
        rename World => w6
        go_loopw [11] (fun i W => ∃ j : Nat, j ≤ fs.length ∧ i = .int .i64 (j : Int) ∧ Keep w6 W) (fun i _ => fs.length - (intOf i).toNat)
        case atStart => exact ⟨0, Nat.zero_le _, rfl, Keep.rf _⟩
        case round =>
          obtain ⟨j, hj, rfl, kj⟩ := hrel
          have hrh2 := hide (hrh.out.keep kj)
          have hrr2 := hide (hrr.out.keep kj)
          go_wp2_with fail
          refine (heapLen _ hrh2.out (k : Int) hkw).mono ?_
          rintro e w7 ⟨rfl, rfl⟩
          rw [HBL.out, HFS.out]
          by_cases hltj : j < fs.length
          · have hltji : (j : Int) < (fs.length : Int) := by omega
            have hfi := HFI.out j hltj
            have hxx : (fs[j] != fs[j]) = false := by simp
            have HTI := hide hfi
            have HTO := hide ((HFT.out (j : Int)).trans hfi)
            clear hfi
            generalize fs[j] = y at *
            go_wp2_with fail
            refine (heapField _ hrh2.out (k : Int) hkw (j : Int)).mono ?_
            rintro e w8 ⟨rfl, rfl⟩
            rw [HTO.out]
            go_wp2_with fail
            refine (refField _ hrr2.out (k : Int) hkw (j : Int)).mono ?_
            rintro e w8 ⟨rfl, rfl⟩
            rw [HTI.out]
            go_wp2_with fail
            go_roundw
            case rel => exact ⟨j + 1, by omega, by go_num, kj⟩
            case measure => simp [intOf]; omega
          · have hltji : ¬ (j : Int) < (fs.length : Int) := by omega
            go_wp2_with fail
            go_roundw
            case rel => exact ⟨k + 1, by omega, by go_num, Keep.tr kw kj⟩
            case measure => simp [intOf]; omega
      · have hlti : ¬ (k : Int) < 2 * (us : Int) := by omega
        go_wp2_with fail
        refine (law18Known _).mono ?_
        rintro e w11 ⟨rfl, k11⟩
        go_wp2_with fail
        go_ret
        exact ⟨rfl, Keep.tr HX.out (Keep.tr kw k11)⟩
end Go.Proofs.Ytilhglnfjaablaa
