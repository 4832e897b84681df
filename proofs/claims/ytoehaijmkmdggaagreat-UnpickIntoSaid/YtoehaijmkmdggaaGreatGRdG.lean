/- Walks: unpick.Graph. -/
import Derived.Test.YtoehaijmkmdggaaGreatGRdE
import Derived.Test.YtoehaijmkmdggaaGreatGRdVs
import Derived.Test.YtoehaijmkmdggaaGreatGRdW
import Derived.Test.YtoehaijmkmdggaaGreatGErrI
set_option linter.unusedSimpArgs false
set_option linter.unusedVariables false
namespace Go.Proofs.YtoehaijmkmdggaaGreat
open Go.RowKit
open Em (Ty)
set_option linter.unusedVariables false
set_option linter.unusedSimpArgs false
set_option maxRecDepth 100000
theorem rdValue (B : Nat) (w0 : World) (p : Nat) : ∀ f, ValV B w0 p f
  | 0 => fun Z w bv lv tv its tys s t d cs h ht hok hf => absurd hf (Nat.not_lt_zero _)
  | f + 1 => rdValue_step (rdBlk_step (rdValue B w0 p f))
/-- A block of memory in which no graph's rows lie. -/
def OffG (w : World) (i : Nat) : Prop := ∀ (cs : Array Value) (ty : TypeId) (fr : Nat × Nat), w.heap[i]? = some (.cells cs ty fr) → ¬ 72 = ty ∧ ¬ 59 = ty
theorem OffG.of {w : World} {i : Nat} {cs : Array Value} {ty : TypeId} {fr : Nat × Nat} (h : w.heap[i]? = some (.cells cs ty fr)) (h1 : ¬ 72 = ty) (h2 : ¬ 59 = ty) : OffG w i := fun cs' ty' fr' h' => by
  rw [h] at h'
  injection h' with h'
  injection h' with _ h' _
  exact ⟨h' ▸ h1, h' ▸ h2⟩
theorem OffG.back {w w' : World} {i : Nat} (h : OffG w' i) (k : Keep w w') : OffG w i := fun cs ty fr e => h cs ty fr ((k.frm fun _ => False).heap (fun h => h) e)
/-- The reading's end: its graph, away from all blocks in which no graph's rows lie. -/
theorem RdM.slT {tt B : Nat} {Z : Nat → Prop} {w0 w : World} {p : Nat} {bv lv tv : Value} {ex : List Value} {its : List (Em.Blk × Value)} {tys : List (Ty × List Value)} {s : Em.Rd} (h : RdM tt B Z w0 w p bv lv tv ex its tys s) {S : List Nat} (hS : ∀ i ∈ S, OffG w i) : Sl 3 (KBkS S) w lv s.bl ∧ AvR S lv := by
  have av : ∀ {e sz n : Nat} {v : Value} {xs : List Value}, e = 72 ∨ e = 59 → w.ownsRow B e sz v n xs → AvR S v := fun he ho ad n c e hn hm => by
    obtain ⟨_, ⟨e2, _⟩ | ⟨g, c2, cur, e2, hb, hg, _⟩⟩ := ho
    · rw [e2] at e
      cases e
    · rw [e2] at e
      injection e with e _ _
      injection e with e
      subst e
      obtain ⟨h1, h2⟩ := hS g hm _ _ _ hg
      rcases he with he | he
      · exact h1 he.symm
      · exact h2 he.symm
  refine ⟨sl_of_own h.row (by rw [h.bl]; simp) (by rw [h.bl]; simp) (fun cs hcs => ?_) fun j h1 h2 => ?_, av (.inl rfl) h.row⟩
  · obtain ⟨it, _, rfl⟩ := List.mem_map.1 hcs
    rfl
  · rw [List.length_map] at h1
    have hmem := List.getElem_mem h1
    have e : s.bl[j] = its[j].1 := by simp [h.bl]
    rw [List.getElem_map, e]
    refine ⟨_, rfl, (h.wf _ hmem).1, ?_, av (.inr rfl) (h.kid _ hmem)⟩
    refine sl_of_own (h.kid _ hmem) rfl (by simp) (fun cs hcs => ?_) fun q g1 g2 => ?_
    · obtain ⟨it, _, rfl⟩ := List.mem_map.1 hcs
      rfl
    · rw [List.getElem_map]
      exact ⟨rfl, (h.wf _ hmem).2 _ (List.getElem_mem _)⟩
/-- A graph that lies in none of the blocks in which no graph's rows lie. -/
def GrT (w : World) (v : Value) (g : Em.Gr) : Prop := GrV w v g ∧ ∀ S : List Nat, (∀ i ∈ S, OffG w i) → GrS S w v g
theorem GrT.keep {w w' : World} {v : Value} {g : Em.Gr} (h : GrT w v g) (k : Keep w w') : GrT w' v g :=
  ⟨h.1.keep k, fun S hS => (h.2 S fun i hi => (hS i hi).back k).frm (k.frm _)⟩
/-- A graph and an error were answered. -/
def GrR (w : World) (o : Em.Gr × Int) (e : Ending) (w' : World) : Prop := ∃ v, e = .returned (.tuple #[v, .int .i64 o.2]) ∧ GrT w' v o.1 ∧ Keep w w'
theorem GrR.gr {w w' : World} {o : Em.Gr × Int} {e : Ending} (h : GrR w o e w') : ∃ v, e = .returned (.tuple #[v, .int .i64 o.2]) ∧ GrV w' v o.1 ∧ Keep w w' := by
  obtain ⟨v, h1, h2, h3⟩ := h
  exact ⟨v, h1, h2.1, h3⟩
theorem GrR.none {w w' : World} {o : Em.Gr × Int} {c : Int} (h : o = (⟨(false, 0), []⟩, c)) (k : Keep w w') : GrR w o (.returned (.tuple #[.agg #[.bool false, .int .i64 0, .slice none 0 0], .int .i64 c])) w' := by
  subst h
  exact ⟨_, rfl, ⟨⟨_, rfl, (by decide : (Lit.int .i64 0).wf = true), Sl.nil _⟩, fun S hS => ⟨_, rfl, (by decide : (Lit.int .i64 0).wf = true), Sl.nil _, fun ad n c e => (by cases e)⟩⟩, k⟩
theorem RdM.start {tt : Nat} {w0 w : World} {p : Nat} {bv : Value} {ex : List Value} {b : List UInt8} (ht : w.heap[p]? = some (.cells (bv :: .slice none 0 0 :: .slice none 0 0 :: ex).toArray tt)) (hb : Bs w0 bv b) (k : Keep w0 w) (hp : w0.heap.size ≤ p) : RdM tt p (fun _ => False) w0 w p bv (.slice none 0 0) (.slice none 0 0) ex [] [] ⟨b, [], []⟩ :=
  { top := ht, byt := hb, k0 := k, p0 := ⟨hp, Nat.le_refl _⟩, row := ⟨rfl, .inl ⟨rfl, rfl⟩⟩, kid := fun it h => (by cases h), wf := fun it h => (by cases h), tow := ⟨rfl, .inl ⟨rfl, rfl⟩⟩, tya := fun y h => (by cases h), z := fun k h => h.elim, d1 := fun k e => by simp [Value.ownBlock] at e, d2 := fun k e => by simp [Value.ownBlock] at e, d3 := fun it h => (by cases h), bl := rfl, ty := rfl, len := rfl, lim := by simp }
set_option maxHeartbeats 8000000 in
theorem unpickGraph (b : List UInt8) (t : Ty) (d : Nat) (cs : List Value) (w : World) (v : Value) (hb : Bs w v b) (ht : TyK d w cs t) : Calls Tryz.prog 16 #[v, .agg cs.toArray] w (GrR w (Em.graphP b t)) := by
  cases d with
  | zero => exact ht.elim
  | succ d =>
    have HT0 := hide ht
    obtain ⟨v9, rfl, hn, hs⟩ := ht
    obtain ⟨A, c, rfl, _⟩ := id hs
    obtain ⟨Ab, cb, rfl, hbl1, hbl2, _⟩ := id hb
    have HB := hide hb
    have kx : Keep w ((w.alloc (.cells #[.string (str t.op), .int .i64 t.n, .slice A t.kids.length c] 25)).alloc (.cells #[.bool false, .int .i64 0, .slice none 0 0] 62)) := (by repeat (first | exact Keep.rf _ | assumption | apply Keep.al | apply Keep.dr | apply Keep.dn))
    have hX := (Keep.frm (Keep.al (Keep.rf (w.alloc (.cells #[.string (str t.op), .int .i64 t.n, .slice A t.kids.length c] 25))) (.cells #[.bool false, .int .i64 0, .slice none 0 0] 62)) (fun _ => False)).heap (fun h => h) (heap_alloc_new w (.cells #[.string (str t.op), .int .i64 t.n, .slice A t.kids.length c] 25))
    have hR := new_second w (.cells #[.string (str t.op), .int .i64 t.n, .slice A t.kids.length c] 25) (.cells #[.bool false, .int .i64 0, .slice none 0 0] 62)
    have hsz1 : ((w.alloc (.cells #[.string (str t.op), .int .i64 t.n, .slice A t.kids.length c] 25)).alloc (.cells #[.bool false, .int .i64 0, .slice none 0 0] 62)).heap.size = w.heap.size + 2 := by simp
    have b0 := top_cells hX 0
    have b1 := top_cells hX 1
    have b2 := top_cells hX 2
    simp only [List.getElem?_toArray, List.getElem?_cons_succ, List.getElem?_cons_zero] at b0 b1 b2
    have HR := hide hR
    have HX := hide hX
    have KX := hide kx
    have HIS := hide (fun W (k : Keep w W) => typIsT t W _ ⟨d + 1, _, rfl, HT0.out.keep k⟩)
    have HSE := hide (fun W (k : Keep w W) => typSent t W _ ⟨d + 1, _, rfl, HT0.out.keep k⟩)
    have HSZ := hide hsz1
    clear hX hR kx hs hn hsz1 hb
    have hnotok : (Em.isT t && Em.sentT t) = false → Em.graphP b t = (⟨(false, 0), []⟩, 6) := fun h => by unfold Em.graphP; rw [if_neg (by rw [h]; decide)]
    cases hT : Em.isT t with
    | false =>
      have HX2 := hide (hnotok (by rw [hT]; rfl))
      have HT := hide hT
      clear hT hnotok
      go_enter Tryz.func16, Tryz.ntmps16
      go_wp2_with fail
      generalize World.alloc (World.alloc w _) _ = w1 at *
      refine (HIS.out _ KX.out).mono ?_
      rintro e w2 ⟨rfl, k2⟩
      rw [HT.out]
      have hR2 := (k2.frm fun _ => False).heap (fun h => h) HR.out
      have KW := hide (Keep.tr KX.out k2)
      have r0 := top_cells hR2 0
      have r1 := top_cells hR2 1
      have r2 := top_cells hR2 2
      have f0 := top_free hR2 0
      have f1 := top_free hR2 1
      have f2 := top_free hR2 2
      simp only [List.getElem?_toArray, List.getElem?_cons_succ, List.getElem?_cons_zero] at r0 r1 r2
      have HR2 := hide hR2
      clear hR2
      go_wp2_with fail
      refine bodyPost_ret_by (results_cell2 rfl _ _ (w.heap.size + 1) 62 _ (0, 0) _ rfl (heap_set3 HR2.out _ _ _) Tryz.underlying62 rfl ?_) rfl ?_
      · kernel_rfl
      · exact GrR.none HX2.out (Frm.keep KW.out (frm_set3 _ _ _ _ _) fun i e => by have e : i = w.heap.size + 1 := e; omega)
    | true =>
      have HT := hide hT
      cases hS : Em.sentT t with
      | false =>
        have HX2 := hide (hnotok (by rw [hT, hS]; rfl))
        have HS := hide hS
        clear hT hS hnotok
        go_enter Tryz.func16, Tryz.ntmps16
        go_wp2_with fail
        generalize World.alloc (World.alloc w _) _ = w1 at *
        refine (HIS.out _ KX.out).mono ?_
        rintro e w2 ⟨rfl, k2⟩
        rw [HT.out]
        have b0 := Keep.cell k2 b0
        have b1 := Keep.cell k2 b1
        have b2 := Keep.cell k2 b2
        go_wp2_with fail
        refine (HSE.out _ (Keep.tr KX.out k2)).mono ?_
        rintro e w3 ⟨rfl, k3⟩
        rw [HS.out]
        have k2 := Keep.tr k2 k3
        have hR2 := (k2.frm fun _ => False).heap (fun h => h) HR.out
        have KW := hide (Keep.tr KX.out k2)
        have r0 := top_cells hR2 0
        have r1 := top_cells hR2 1
        have r2 := top_cells hR2 2
        have f0 := top_free hR2 0
        have f1 := top_free hR2 1
        have f2 := top_free hR2 2
        simp only [List.getElem?_toArray, List.getElem?_cons_succ, List.getElem?_cons_zero] at r0 r1 r2
        have HR2 := hide hR2
        clear hR2
        go_wp2_with fail
        refine bodyPost_ret_by (results_cell2 rfl _ _ (w.heap.size + 1) 62 _ (0, 0) _ rfl (heap_set3 HR2.out _ _ _) Tryz.underlying62 rfl ?_) rfl ?_
        · kernel_rfl
        · exact GrR.none HX2.out (Frm.keep KW.out (frm_set3 _ _ _ _ _) fun i e => by have e : i = w.heap.size + 1 := e; omega)
      | true =>
        have hokS : Em.okS t = true := by
          unfold Em.okS
          rw [hS, Bool.and_true]
          unfold Em.isT at hT
          exact (Bool.and_eq_true _ _ ▸ hT).2
        have hg0 : (Em.isT t && Em.sentT t) = true := by rw [hT, hS]; rfl
        have HG7 := hide (show 4000 < b.length → Em.graphP b t = (⟨(false, 0), []⟩, 7) from fun h => by unfold Em.graphP; rw [if_pos hg0, if_pos h])
        have HGE := hide (show ¬ 4000 < b.length → ∀ c, Em.valP 2001 t ⟨b, [], []⟩ = .err c → Em.graphP b t = (⟨(false, 0), []⟩, c) from fun h c e => by unfold Em.graphP; rw [if_pos hg0, if_neg h, e])
        have HGO := hide (show ¬ 4000 < b.length → ∀ x s, Em.valP 2001 t ⟨b, [], []⟩ = .ok x s → Em.graphP b t = if s.b = [] then (⟨x, s.bl⟩, 0) else (⟨(false, 0), []⟩, 2) from fun h x s e => by unfold Em.graphP; rw [if_pos hg0, if_neg h, e])
        have HOKS := hide hokS
        have HS := hide hS
        clear hT hS hnotok hokS hg0
        go_enter Tryz.func16, Tryz.ntmps16
        go_wp2_with fail
        generalize World.alloc (World.alloc w _) _ = w1 at *
        refine (HIS.out _ KX.out).mono ?_
        rintro e w2 ⟨rfl, k2⟩
        rw [HT.out]
        have b0 := Keep.cell k2 b0
        have b1 := Keep.cell k2 b1
        have b2 := Keep.cell k2 b2
        go_wp2_with fail
        refine (HSE.out _ (Keep.tr KX.out k2)).mono ?_
        rintro e w3 ⟨rfl, k3⟩
        rw [HS.out]
        have b0 := Keep.cell k3 b0
        have b1 := Keep.cell k3 b1
        have b2 := Keep.cell k3 b2
        have k2 := Keep.tr k2 k3
        have hR2 := (k2.frm fun _ => False).heap (fun h => h) HR.out
        have KW := hide (Keep.tr KX.out k2)
        have r0 := top_cells hR2 0
        have r1 := top_cells hR2 1
        have r2 := top_cells hR2 2
        have f0 := top_free hR2 0
        have f1 := top_free hR2 1
        have f2 := top_free hR2 2
        simp only [List.getElem?_toArray, List.getElem?_cons_succ, List.getElem?_cons_zero] at r0 r1 r2
        have HR2 := hide hR2
        have hsz3 : w.heap.size + 2 ≤ w3.heap.size := by have := HSZ.out; have := k2.size; omega
        clear hR2 k2 k3
        by_cases hlen : 4000 < b.length
        · have hli : (b.length : Int) > 4000 := by omega
          have HX2 := hide (show Em.graphP b t = (⟨(false, 0), []⟩, 7) from HG7.out hlen)
          go_wp2_with fail
          refine bodyPost_ret_by (results_cell2 rfl _ _ (w.heap.size + 1) 62 _ (0, 0) _ rfl (heap_set3 HR2.out _ _ _) Tryz.underlying62 rfl ?_) rfl ?_
          · kernel_rfl
          · exact GrR.none HX2.out (Frm.keep KW.out (frm_set3 _ _ _ _ _) fun i e => by have e : i = w.heap.size + 1 := e; omega)
        · have hli : ¬ (b.length : Int) > 4000 := by omega
          have kR : Keep w3 (w3.alloc (.cells #[.slice Ab b.length cb, .slice none 0 0, .slice none 0 0] 76)) := (by repeat (first | exact Keep.rf _ | assumption | apply Keep.al | apply Keep.dr | apply Keep.dn))
          have hM := RdM.start (heap_alloc_new w3 (.cells #[.slice Ab b.length cb, .slice none 0 0, .slice none 0 0] 76)) HB.out (Keep.tr KW.out kR) (Nat.le_trans (by omega) hsz3)
          have HV := hide (rdValue _ _ _ 2001 _ _ _ _ _ _ _ _ t (d + 1) _ hM ((TyI.of HT0.out).keep (Keep.tr KW.out kR) |>.mono fun k hk => .inl hk) HOKS.out (by simp))
          have b0 := Keep.cell kR b0
          have b1 := Keep.cell kR b1
          have b2 := Keep.cell kR b2
          have KR := hide kR
          have HM := hide hM
          clear hM kR
          have HNR := hide (show ¬ HasR (fun _ => False) w3.heap.size (.slice none 0 0) (.slice none 0 0) [] (w.heap.size + 1) from fun e => by
            rcases e with (e | e | e | ⟨it, hit, _⟩) | e
            · omega
            · simp [Value.ownBlock] at e
            · simp [Value.ownBlock] at e
            · cases hit
            · exact e)
          have HRa := hide ((KR.out.frm fun _ => False).heap (fun h => h) HR2.out)
          go_wp2_with fail
          generalize World.alloc w3 _ = wa at *
          refine HV.out.mono ?_
          intro e W4 hA
          generalize hy : Em.valP 2001 t ⟨b, [], []⟩ = y at *
          cases y with
          | err c9 =>
            have hc := Em.valP_err _ _ _ _ hy
            have HX2 := hide (HGE.out hlen c9 rfl)
            obtain ⟨x9, v9, d9, rfl, he9, Z4, lv4, tv4, its4, hw4⟩ := hA
            obtain ⟨t9, y9, rfl⟩ := he9.ifc
            have kL : Keep W4 ((W4.alloc (.cells #[.bool x9.1, .int .i64 x9.2] 59)).alloc (.cells #[.int .i64 2, .int .i64 7] 37)) := (by repeat (first | exact Keep.rf _ | assumption | apply Keep.al | apply Keep.dr | apply Keep.dn))
            have hL := new_second W4 (.cells #[.bool x9.1, .int .i64 x9.2] 59) (.cells #[.int .i64 2, .int .i64 7] 37)
            have i0 := top_cells hL 0
            have i1 := top_cells hL 1
            simp only [List.getElem?_toArray, List.getElem?_cons_succ, List.getElem?_cons_zero] at i0 i1
            have hRR := (kL.frm fun _ => False).heap (fun h => h) (hw4.heap HNR.out HRa.out)
            have r0 := top_cells hRR 0
            have r1 := top_cells hRR 1
            have r2 := top_cells hRR 2
            have f0 := top_free hRR 0
            have f1 := top_free hRR 1
            have f2 := top_free hRR 2
            simp only [List.getElem?_toArray, List.getElem?_cons_succ, List.getElem?_cons_zero] at r0 r1 r2
            have HRR0 := hide hRR
            have KZ0 := hide (Keep.tr (hw4.low HM.out) kL)
            have HED := hide ((ErrG.err he9).keep kL)
            have q2 := errEqNil
            clear hRR hw4 he9 kL hL b0 b1 b2 hy
            go_wp2_with fail
            generalize World.alloc (World.alloc W4 _) _ = w5 at *
            refine wp_loop_rounds 2 ?_
            rw [rounds_succ]
            go_wp2_with fail
            refine (errorsIs d9 _ _ c9 2 HED.out).mono ?_
            rintro e w6 ⟨rfl, k6⟩
            have hRR := (k6.frm fun _ => False).heap (fun h => h) HRR0.out
            have r0 := top_cells hRR 0
            have r1 := top_cells hRR 1
            have r2 := top_cells hRR 2
            have f0 := top_free hRR 0
            have f1 := top_free hRR 1
            have f2 := top_free hRR 2
            simp only [List.getElem?_toArray, List.getElem?_cons_succ, List.getElem?_cons_zero] at r0 r1 r2
            have HRR := hide hRR
            have KZ := hide (Keep.tr KZ0.out k6)
            clear hRR
            rcases hc with rfl | rfl
            · go_wp2_with fail
              refine bodyPost_ret_by (results_cell2 rfl _ _ (w.heap.size + 1) 62 _ (0, 0) _ rfl (heap_set3 HRR.out _ _ _) Tryz.underlying62 rfl ?_) rfl ?_
              · kernel_rfl
              · exact GrR.none HX2.out (Frm.keep KZ.out (frm_set3 _ _ _ _ _) fun i e => by have e : i = w.heap.size + 1 := e; omega)
            · have i0 := Keep.cell k6 i0
              have i1 := Keep.cell k6 i1
              have HED6 := hide (HED.out.keep k6)
              go_wp2_with fail
              rw [rounds_succ]
              go_wp2_with fail
              refine (errorsIs d9 _ _ 7 7 HED6.out).mono ?_
              rintro e w7 ⟨rfl, k7⟩
              have hRR := (k7.frm fun _ => False).heap (fun h => h) HRR.out
              have r0 := top_cells hRR 0
              have r1 := top_cells hRR 1
              have r2 := top_cells hRR 2
              have f0 := top_free hRR 0
              have f1 := top_free hRR 1
              have f2 := top_free hRR 2
              simp only [List.getElem?_toArray, List.getElem?_cons_succ, List.getElem?_cons_zero] at r0 r1 r2
              have HRR := hide hRR
              have KZ := hide (Keep.tr KZ.out k7)
              clear hRR
              go_wp2_with fail
              refine bodyPost_ret_by (results_cell2 rfl _ _ (w.heap.size + 1) 62 _ (0, 0) _ rfl (heap_set3 HRR.out _ _ _) Tryz.underlying62 rfl ?_) rfl ?_
              · kernel_rfl
              · exact GrR.none HX2.out (Frm.keep KZ.out (frm_set3 _ _ _ _ _) fun i e => by have e : i = w.heap.size + 1 := e; omega)
          | ok x s1 =>
            have hG := HGO.out hlen x s1 rfl
            obtain ⟨rfl, hx9, Z4, lv4, tv4, its4, tys4, ⟨bv4, hd4⟩, hw4⟩ := hA
            obtain ⟨Ac, cc, rfl, _⟩ := id hd4.byt
            obtain ⟨Al, cl, rfl⟩ := own_slice hd4.row
            obtain ⟨x1, x2⟩ := x
            have kL : Keep W4 ((W4.alloc (.cells #[.bool x1, .int .i64 x2] 59)).alloc (.cells #[.int .i64 2, .int .i64 7] 37)) := (by repeat (first | exact Keep.rf _ | assumption | apply Keep.al | apply Keep.dr | apply Keep.dn))
            have kT : Keep W4 (W4.alloc (.cells #[.bool x1, .int .i64 x2] 59)) := (by repeat (first | exact Keep.rf _ | assumption | apply Keep.al | apply Keep.dr | apply Keep.dn))
            have hL := new_second W4 (.cells #[.bool x1, .int .i64 x2] 59) (.cells #[.int .i64 2, .int .i64 7] 37)
            have hT7 := (Keep.frm (Keep.al (Keep.rf (W4.alloc (.cells #[.bool x1, .int .i64 x2] 59))) (.cells #[.int .i64 2, .int .i64 7] 37)) (fun _ => False)).heap (fun h => h) (heap_alloc_new W4 (.cells #[.bool x1, .int .i64 x2] 59))
            have i0 := top_cells hL 0
            have i1 := top_cells hL 1
            have p0 := Keep.cell kT (top_cells hd4.top 0)
            have p1 := Keep.cell kL (top_cells hd4.top 1)
            have t0 := top_cells hT7 0
            have t1 := top_cells hT7 1
            simp only [List.getElem?_toArray, List.getElem?_cons_succ, List.getElem?_cons_zero] at i0 i1 p0 p1 t0 t1
            have hRR := (kL.frm fun _ => False).heap (fun h => h) (hw4.heap HNR.out HRa.out)
            have r0 := top_cells hRR 0
            have r1 := top_cells hRR 1
            have r2 := top_cells hRR 2
            have f0 := top_free hRR 0
            have f1 := top_free hRR 1
            have f2 := top_free hRR 2
            simp only [List.getElem?_toArray, List.getElem?_cons_succ, List.getElem?_cons_zero] at r0 r1 r2
            have HRR0 := hide hRR
            have KZ0 := hide (Keep.tr (hw4.low HM.out) kL)
            have HD4 := hide hd4
            have KL := hide kL
            have q2 := errEqNN
            have HRA := hide (show w.heap.size + 1 < wa.heap.size from (Array.getElem?_eq_some_iff.1 HRa.out).1)
            have HNR4 := hide (hw4.out HRA.out HNR.out)
            have HX9 := hide hx9
            clear hRR hw4 hd4 kL kT hL hT7 b0 b1 b2 hy hx9
            by_cases hbe : s1.b = []
            · have HX2 := hide (show Em.graphP b t = (⟨(x1, x2), s1.bl⟩, 0) from by rw [hG, if_pos hbe])
              have hzi : ¬ (0 : Int) < (s1.b.length : Int) := by rw [hbe]; simp
              clear hG hbe
              go_wp2_with fail
              generalize World.alloc (World.alloc W4 _) _ = w5 at *
              refine wp_loop_rounds 3 ?_
              rw [rounds_succ]
              go_wp2_with fail
              refine (errorsIsNil _ 2).mono ?_
              rintro e w6 ⟨rfl, rfl⟩
              go_wp2_with fail
              rw [rounds_succ]
              go_wp2_with fail
              refine (errorsIsNil _ 7).mono ?_
              rintro e w7 ⟨rfl, rfl⟩
              go_wp2_with fail
              rw [rounds_succ]
              go_wp2_with fail
              clear i0 i1 p0 q2 hzi
              apply region_all (by kernel_rfl) Keep (Frm (· = w.heap.size + 1)) krg ktg (Frm.rf _) (fun _ _ _ => Frm.tr) (fun _ _ h => Keep.frm h _) [some 57, some 58, some 59, some 60, some 61, some 62, none, some 5] [eqG _ , eqG _ , eqG _ , eqG _ , eqG _ , eqG _ , fun us W v => W.heap[w.heap.size + 1]? = some (.cells #[.bool x1, .int .i64 x2, .slice Al its4.length cl] 62), eqG _ ] [⟨[], [], true, false, false⟩, ⟨[], [], true, false, false⟩, ⟨[1], [], true, false, false⟩, ⟨[2], [], true, false, false⟩, ⟨[3], [], true, false, false⟩, ⟨[0, 4], [], true, false, false⟩, ⟨[5], [], true, true, true⟩, ⟨[], [], false, false, false⟩] [6, 7] (by kernel_rfl) (by kernel_rfl) 
              · refine ⟨?_, ?_, ?_, ?_, ?_, ?_, ?_, ?_, trivial⟩ <;> (intro us W h9 hW hE hd hs K hK; obtain ⟨u0, u1, u2, u3, u4, u5, u6, u7, rfl⟩ := rog 8 h9 rfl; clear h9; try simp only [DepG, AtG, and_true, relG, eqG, eqG1, eqG2, eqG3, gdG, gdG1, gnG, gnG1, List.getD_cons_zero, List.getD_cons_succ, List.getElem?_cons_succ, List.getElem?_cons_zero, Option.map_some, Option.getD_some, valsG, List.map_cons, List.map_nil, List.length_cons, List.length_nil] at hd)
                · ((try clear hd); clear hs; simp only [fillG, List.set_cons_zero, List.set_cons_succ]; have hKW := Keep.tr (Keep.dr (Keep.rf _)) (hE rfl); have t0 := Keep.cell hKW t0; have t1 := Keep.cell hKW t1; have p1 := Keep.cell hKW p1; refine want_n rfl ?_; go_wp2_with (first | fail); simp only [DoneG, fillG, List.set_cons_zero, List.set_cons_succ, relG, eqG, eqG1, eqG2, eqG3, gdG, gdG1, gnG, gnG1, List.getD_cons_zero, List.getD_cons_succ, List.getElem?_cons_succ, List.getElem?_cons_zero, Option.map_some, Option.getD_some, valsG, List.map_cons, List.map_nil, List.length_cons, List.length_nil]; exact ⟨_, rfl, (by first | with_reducible assumption | exact krg _ | exact Keep.al (krg _) _), fun _ _ => rfl⟩)
                · ((try clear hd); clear hs; simp only [fillG, List.set_cons_zero, List.set_cons_succ]; refine want_n rfl ?_; go_wp2_with (first | fail); simp only [DoneG, fillG, List.set_cons_zero, List.set_cons_succ, relG, eqG, eqG1, eqG2, eqG3, gdG, gdG1, gnG, gnG1, List.getD_cons_zero, List.getD_cons_succ, List.getElem?_cons_succ, List.getElem?_cons_zero, Option.map_some, Option.getD_some, valsG, List.map_cons, List.map_nil, List.length_cons, List.length_nil]; exact ⟨_, rfl, (by first | with_reducible assumption | exact krg _ | exact Keep.al (krg _) _), fun _ _ => rfl⟩)
                · (have d1 := hd; clear hd; subst d1; clear hs; simp only [fillG, List.set_cons_zero, List.set_cons_succ]; refine want_n rfl ?_; go_wp2_with (first | fail); simp only [DoneG, fillG, List.set_cons_zero, List.set_cons_succ, relG, eqG, eqG1, eqG2, eqG3, gdG, gdG1, gnG, gnG1, List.getD_cons_zero, List.getD_cons_succ, List.getElem?_cons_succ, List.getElem?_cons_zero, Option.map_some, Option.getD_some, valsG, List.map_cons, List.map_nil, List.length_cons, List.length_nil]; exact ⟨_, rfl, (by first | with_reducible assumption | exact krg _ | exact Keep.al (krg _) _), fun _ _ => rfl⟩)
                · (have d2 := hd; clear hd; subst d2; clear hs; simp only [fillG, List.set_cons_zero, List.set_cons_succ]; refine want_n rfl ?_; go_wp2_with (first | fail); simp only [DoneG, fillG, List.set_cons_zero, List.set_cons_succ, relG, eqG, eqG1, eqG2, eqG3, gdG, gdG1, gnG, gnG1, List.getD_cons_zero, List.getD_cons_succ, List.getElem?_cons_succ, List.getElem?_cons_zero, Option.map_some, Option.getD_some, valsG, List.map_cons, List.map_nil, List.length_cons, List.length_nil]; exact ⟨_, rfl, (by first | with_reducible assumption | exact krg _ | exact Keep.al (krg _) _), fun _ _ => rfl⟩)
                · (have d3 := hd; clear hd; subst d3; clear hs; simp only [fillG, List.set_cons_zero, List.set_cons_succ]; have hKW := Keep.tr (Keep.dr (Keep.rf _)) (hE rfl); have t0 := Keep.cell hKW t0; have t1 := Keep.cell hKW t1; have p1 := Keep.cell hKW p1; refine want_n rfl ?_; go_wp2_with (first | fail); simp only [DoneG, fillG, List.set_cons_zero, List.set_cons_succ, relG, eqG, eqG1, eqG2, eqG3, gdG, gdG1, gnG, gnG1, List.getD_cons_zero, List.getD_cons_succ, List.getElem?_cons_succ, List.getElem?_cons_zero, Option.map_some, Option.getD_some, valsG, List.map_cons, List.map_nil, List.length_cons, List.length_nil]; exact ⟨_, rfl, (by first | with_reducible assumption | exact krg _ | exact Keep.al (krg _) _), fun _ _ => rfl⟩)
                · (obtain ⟨d0, d4⟩ := hd; subst d0; subst d4; clear hs; simp only [fillG, List.set_cons_zero, List.set_cons_succ]; refine want_n rfl ?_; go_wp2_with (first | fail); simp only [DoneG, fillG, List.set_cons_zero, List.set_cons_succ, relG, eqG, eqG1, eqG2, eqG3, gdG, gdG1, gnG, gnG1, List.getD_cons_zero, List.getD_cons_succ, List.getElem?_cons_succ, List.getElem?_cons_zero, Option.map_some, Option.getD_some, valsG, List.map_cons, List.map_nil, List.length_cons, List.length_nil]; exact ⟨_, rfl, (by first | with_reducible assumption | exact krg _ | exact Keep.al (krg _) _), fun _ _ => rfl⟩)
                · (have d5 := hd; clear hd; subst d5; clear hs; simp only [fillG, List.set_cons_zero, List.set_cons_succ]; have hKW := Keep.tr (Keep.dr (Keep.rf _)) (hE rfl); have t0 := Keep.cell hKW t0; have t1 := Keep.cell hKW t1; have p1 := Keep.cell hKW p1; refine want_n rfl ?_; have hg9 := (hKW.frm fun _ => False).heap (fun h => h) HRR0.out; have f0 := top_free hg9 0; have f1 := top_free hg9 1; have f2 := top_free hg9 2; have c0 := top_cells hg9 0; have c1 := top_cells hg9 1; have c2 := top_cells hg9 2; simp only [List.getElem?_toArray, List.getElem?_cons_succ, List.getElem?_cons_zero] at c0 c1 c2; have hrel9 := frm_set3 W (w.heap.size + 1) (.bool x1) (.int .i64 x2) (.slice Al its4.length cl); go_wp2_with fail; simp only [DoneG, fillG, List.set_cons_zero, List.set_cons_succ, relG, eqG, eqG1, eqG2, eqG3, gdG, gdG1, gnG, gnG1, List.getD_cons_zero, List.getD_cons_succ, List.getElem?_cons_succ, List.getElem?_cons_zero, Option.map_some, Option.getD_some, valsG, List.map_cons, List.map_nil, List.length_cons, List.length_nil]; exact ⟨undef, trivial, (by first | with_reducible assumption | exact trivial), fun W9 hk9 => ((hk9.frm fun _ => False).heap (fun h => h) (heap_set3 ((hKW.frm fun _ => False).heap (fun h => h) HRR0.out) _ _ _))⟩)
                · ((try clear hd); clear hs; simp only [fillG, List.set_cons_zero, List.set_cons_succ]; refine want_n rfl ?_; go_wp2_with (first | fail); simp only [DoneG, fillG, List.set_cons_zero, List.set_cons_succ, relG, eqG, eqG1, eqG2, eqG3, gdG, gdG1, gnG, gnG1, List.getD_cons_zero, List.getD_cons_succ, List.getElem?_cons_succ, List.getElem?_cons_zero, Option.map_some, Option.getD_some, valsG, List.map_cons, List.map_nil, List.length_cons, List.length_nil]; exact ⟨_, rfl, (by first | with_reducible assumption | exact krg _ | exact Keep.al (krg _) _), fun _ _ => rfl⟩)
              (intro us W9 h9 hW hE hA; obtain ⟨u0, u1, u2, u3, u4, u5, u6, u7, rfl⟩ := rog 8 h9 rfl; clear h9; simp only [AllG, AtG, and_true, relG, eqG, eqG1, eqG2, eqG3, gdG, gdG1, gnG, gnG1, List.getD_cons_zero, List.getD_cons_succ, List.getElem?_cons_succ, List.getElem?_cons_zero, Option.map_some, Option.getD_some, valsG, List.map_cons, List.map_nil, List.length_cons, List.length_nil] at hA; obtain ⟨d6, d7⟩ := hA; subst d7; simp only [fillG, List.set_cons_zero, List.set_cons_succ])
              go_wp2_with fail
              refine bodyPost_ret_by (results_cell2 rfl _ _ (w.heap.size + 1) 62 _ (0, 0) _ rfl d6 Tryz.underlying62 rfl ?_) rfl ?_
              · kernel_rfl
              · rw [HX2.out]
                have F9 : Frm (· = w.heap.size + 1) W4 W9 := ((KL.out.frm _).tr ((Keep.dr (Keep.rf _)).frm _)).tr hW
                have hM9 := HD4.out.far F9 HNR4.out (by omega)
                exact ⟨_, rfl, ⟨⟨_, rfl, HX9.out, hM9.sl⟩, fun S hS => ⟨_, rfl, HX9.out, hM9.slT hS⟩⟩, hM9.k0⟩
            · have HX2 := hide (show Em.graphP b t = (⟨(false, 0), []⟩, 2) from by rw [hG, if_neg hbe])
              have hzi : (0 : Int) < (s1.b.length : Int) := by
                have := List.length_pos_iff.2 hbe
                omega
              have HED := hide (show ErrD 0 W4 (errV 2) 2 from rfl)
              clear hG hbe
              go_wp2_with fail
              generalize World.alloc (World.alloc W4 _) _ = w5 at *
              refine wp_loop_rounds 1 ?_
              rw [rounds_succ]
              go_wp2_with fail
              refine (errorsIs 0 _ _ 2 2 rfl).mono ?_
              rintro e w6 ⟨rfl, k6⟩
              have hRR := (k6.frm fun _ => False).heap (fun h => h) HRR0.out
              have r0 := top_cells hRR 0
              have r1 := top_cells hRR 1
              have r2 := top_cells hRR 2
              have f0 := top_free hRR 0
              have f1 := top_free hRR 1
              have f2 := top_free hRR 2
              simp only [List.getElem?_toArray, List.getElem?_cons_succ, List.getElem?_cons_zero] at r0 r1 r2
              have HRR := hide hRR
              have KZ := hide (Keep.tr KZ0.out k6)
              clear hRR
              go_wp2_with fail
              refine bodyPost_ret_by (results_cell2 rfl _ _ (w.heap.size + 1) 62 _ (0, 0) _ rfl (heap_set3 HRR.out _ _ _) Tryz.underlying62 rfl ?_) rfl ?_
              · kernel_rfl
              · exact GrR.none HX2.out (Frm.keep KZ.out (frm_set3 _ _ _ _ _) fun i e => by have e : i = w.heap.size + 1 := e; omega)
end Go.Proofs.YtoehaijmkmdggaaGreat
