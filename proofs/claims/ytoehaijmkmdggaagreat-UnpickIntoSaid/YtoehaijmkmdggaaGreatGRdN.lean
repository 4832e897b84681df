/- Walks: the reader of package unpick: a number, a value that is no block, a string. Walks: the reader of package unpick: a string; the types of a type's fields. The reader of package unpick: what a value, a block comes to. -/
import Derived.Test.YtoehaijmkmdggaaGreatGRdR
import Derived.Test.YtoehaijmkmdggaaGreatGErrI
import Derived.Test.YtoehaijmkmdggaaGreatGVarZ
import Derived.Test.YtoehaijmkmdggaaGreatGLib
import Derived.Deep.QuietTactic
import Derived.BigQuiet
import Derived.Deep.RegionHeld3
set_option linter.unusedSimpArgs false
set_option linter.unusedVariables false
namespace Go.Proofs.YtoehaijmkmdggaaGreat
open Go.RowKit
open Em (Ty)
set_option linter.unusedVariables false
set_option linter.unusedSimpArgs false
set_option maxRecDepth 100000
def errV (c : Int) : Value := .iface 37 (.int .i64 c)
/-- An error of number c, so deep within others that lie from N on. -/
def ErrG (N : Nat) : Nat → World → Value → Int → Prop
  | 0, _, v, c => v = errV c
  | d + 1, w, v, c => ∃ b v', v = .iface 130 (.pointer (some ⟨b, 0, none⟩)) ∧ N ≤ b ∧ w.cell? ⟨b, 1, none⟩ = some v' ∧ ErrG N d w v' c
theorem ErrG.err : ∀ {N d : Nat} {w : World} {v : Value} {c : Int}, ErrG N d w v c → ErrD d w v c
  | _, 0, _, _, _, h => h
  | N, d + 1, w, v, c, ⟨b, v', h1, _, h2, h3⟩ => ⟨b, v', h1, h2, ErrG.err h3⟩
theorem ErrG.frm : ∀ {N d : Nat} {w w' : World} {v : Value} {c : Int} {T : Nat → Prop}, ErrG N d w v c → Frm T w w' → (∀ k, T k → k < N) → ErrG N d w' v c
  | _, 0, _, _, _, _, _, h, _, _ => h
  | N, d + 1, w, w', v, c, T, ⟨b, v', h1, h4, h2, h3⟩, F, hT => ⟨b, v', h1, h4, F.cell (fun e => by have := hT _ e; simp only at this; omega) h2, ErrG.frm h3 F hT⟩
theorem ErrG.le : ∀ {N N' d : Nat} {w : World} {v : Value} {c : Int}, ErrG N d w v c → N' ≤ N → ErrG N' d w v c
  | _, _, 0, _, _, _, h, _ => h
  | N, N', d + 1, w, v, c, ⟨b, v', h1, h4, h2, h3⟩, hN => ⟨b, v', h1, Nat.le_trans hN h4, h2, ErrG.le h3 hN⟩
theorem ErrG.ifc {N : Nat} {W : World} {c : Int} {k : Nat} {v : Value} (h : ErrG N k W v c) : ∃ t x, v = .iface t x := by
  cases k with
  | zero => exact ⟨_, _, h⟩
  | succ k =>
    obtain ⟨b, v', h1, _⟩ := h
    exact ⟨_, _, h1⟩
/-- A reader's state, whatever bytes are left in which slice. -/
def RdS (tt B : Nat) (Z : Nat → Prop) (w0 w : World) (p : Nat) (lv tv : Value) (ex : List Value) (its : List (Em.Blk × Value)) (tys : List (Ty × List Value)) (s : Em.Rd) : Prop := ∃ bv, RdM tt B Z w0 w p bv lv tv ex its tys s
def NumA (tt B : Nat) (Z : Nat → Prop) (w0 w : World) (p : Nat) (lv tv : Value) (ex : List Value) (its : List (Em.Blk × Value)) (tys : List (Ty × List Value)) (o : Em.Out Nat) (e : Ending) (w' : World) : Prop := match o with
  | .err c => c = 2 ∧ e = .returned (.tuple #[.int .u64 0, errV 2]) ∧ Keep w w'
  | .ok v s' => e = .returned (.tuple #[.int .u64 (v : Int), .nilIface]) ∧ v < 18446744073709551616 ∧ RdS tt B Z w0 w' p lv tv ex its tys s' ∧ RWent Z Z w w' p lv tv lv tv its its
def ValA (tt B : Nat) (Z : Nat → Prop) (w0 w : World) (p : Nat) (lv tv : Value) (ex : List Value) (its : List (Em.Blk × Value)) (o : Em.Out (Bool × Int)) (e : Ending) (w' : World) : Prop := match o with
  | .err c => ∃ (x : Bool × Int) (v : Value) (d : Nat), e = .returned (.tuple #[.agg #[.bool x.1, .int .i64 x.2], v]) ∧ ErrG w.heap.size d w' v c ∧ ∃ Z' lv' tv' its', RWent Z Z' w w' p lv tv lv' tv' its its'
  | .ok x s' => e = .returned (.tuple #[.agg #[.bool x.1, .int .i64 x.2], .nilIface]) ∧ (Lit.int .i64 x.2).wf = true ∧ ∃ Z' lv' tv' its' tys', RdS tt B Z' w0 w' p lv' tv' ex its' tys' s' ∧ RWent Z Z' w w' p lv tv lv' tv' its its'
theorem heap_set2R {w : World} {b : Nat} {x y : Value} {ty : TypeId} (h : w.heap[b]? = some (.cells #[x, y] ty)) (u v : Value) : ((w.setCell ⟨b, 0, none⟩ u).setCell ⟨b, 1, none⟩ v).heap[b]? = some (.cells #[u, v] ty) := heap_setT (j := 1) (heap_setT (j := 0) h u) v
theorem frm_set2R (w : World) (r : Nat) (u v : Value) : Frm (· = r) w ((w.setCell ⟨r, 0, none⟩ u).setCell ⟨r, 1, none⟩ v) :=
  ((Frm.rf (· = r) w).st (p := ⟨r, 0, none⟩) (.inl rfl) _).st (p := ⟨r, 1, none⟩) (.inl rfl) _
section
variable {B : Nat} {Z : Nat → Prop} {w0 w : World} {p : Nat} {bv lv tv : Value} {its : List (Em.Blk × Value)} {tys : List (Ty × List Value)} {s : Em.Rd}
/-- A store into a new block is none of what was there. -/
theorem went_far {w w1 w' : World} {r : Nat} (k : Keep w w1) (hr : w.heap.size ≤ r) (F : Frm (· = r) w1 w') : RWent Z Z w w' p lv tv lv tv its its :=
  RWent.of_keep (Frm.keep k F fun i e => by have e : i = r := e; omega)
theorem RWent.far {Z Z' : Nat → Prop} {w w1 w' : World} {lv tv lv' tv' : Value} {its its' : List (Em.Blk × Value)} {r : Nat} (h : RWent Z Z' w w1 p lv tv lv' tv' its its') (hr : w.heap.size ≤ r) (F : Frm (· = r) w1 w') : RWent Z Z' w w' p lv tv lv' tv' its its' :=
  { h with frm := h.frm.trn F fun i e => .inr (by have e : i = r := e; omega) }
set_option maxHeartbeats 4000000 in
theorem rdNumber (h : RdM 76 B Z w0 w p bv lv tv [] its tys s) : Calls Tryz.prog 48 #[.pointer (some ⟨p, 0, none⟩)] w (NumA 76 B Z w0 w p lv tv [] its tys (Em.numP s)) := by
  have hG := hide (varGet _ s.b w (h.byt.keep h.k0))
  have c0 := top_cells h.top 0
  have f0 := top_free h.top 0
  simp only [List.getElem?_toArray, List.getElem?_cons_succ, List.getElem?_cons_zero] at c0
  have HB := hide h.byt
  have HM := hide h
  clear h
  cases hg : Em.getN s.b with
  | none =>
    have HN := hide (show Em.numP s = .err 2 from by unfold Em.numP; rw [hg])
    have HT := hide (show getT s.b = .tuple #[.int .u64 0, .int .i64 0, .bool false] from by unfold getT; rw [hg])
    clear hg
    go_enter Tryz.func48, Tryz.ntmps48
    go_wp2_with fail
    refine hG.out.mono ?_
    rintro e w' ⟨rfl, rfl⟩
    rw [HT.out]
    go_wp2_with fail
    go_ret2
    rw [HN.out]
    exact ⟨rfl, rfl, Keep.rf _⟩
  | some y =>
    obtain ⟨v, n⟩ := y
    have hv := (Em.get_some hg).1
    have hn := (Em.get_some hg).2.2.2
    have HN := hide (show Em.numP s = .ok v ⟨s.b.drop n, s.bl, s.ty⟩ from by unfold Em.numP; rw [hg])
    have HT := hide (show getT s.b = .tuple #[.int .u64 (v : Int), .int .i64 (n : Int), .bool true] from by unfold getT; rw [hg])
    have HLE := hide (show s.b.length = n + (s.b.length - n) from by omega)
    have HV := hide hv
    clear hg hv
    go_enter Tryz.func48, Tryz.ntmps48
    go_wp2_with fail
    refine hG.out.mono ?_
    rintro e w' ⟨rfl, rfl⟩
    rw [HT.out]
    go_wp2_with (first
      | (refine slFrom0 rfl (.tmp 23) (.tmp 24) _ _ rfl Tryz.underlying22 sizeB8 _ _ rfl HB.out _ _ rfl n rfl _ HLE.out ?_; intro A1 c1 hd hd1 hd2)
      | fail)
    go_ret2
    rw [HN.out]
    have hb' : Bs w0 (.slice A1 (s.b.length - n) c1) (s.b.drop n) := hd
    exact ⟨rfl, HV.out, ⟨_, (HM.out.setB hb').1⟩, (HM.out.setB hb').2⟩
theorem zag_le (v : Nat) (h : v < 18446744073709551616) : -9223372036854775808 ≤ Em.zag v ∧ Em.zag v ≤ 9223372036854775807 := by
  unfold Em.zag
  split <;> omega
theorem imm_wf {n : Int} (h1 : -9223372036854775808 ≤ n) (h2 : n ≤ 9223372036854775807) : (Lit.int .i64 n).wf = true := by
  simp [Lit.wf, IntKind.min, IntKind.max, IntKind.bits, IntKind.signed]
  omega
theorem immBad_int (n : Int) : Em.immBad [105, 110, 116] n = (decide (n < -4611686018427387904) || decide (n ≥ 4611686018427387904)) := by
  unfold Em.immBad
  rw [decide_eq_false (show ¬ ([105, 110, 116] : List UInt8) = Em.wBool by decide)]
  simp
set_option maxHeartbeats 8000000 in
theorem rdImm (o : List UInt8) (h : RdM 76 B Z w0 w p bv lv tv [] its tys s) (ho : Em.isPl o) : Calls Tryz.prog 47 #[.pointer (some ⟨p, 0, none⟩), .string (str o)] w (ValA 76 B Z w0 w p lv tv [] its (Em.immP o s)) := by
  have HH := hide h
  have hnr : ¬ HasR Z p lv tv its w.heap.size := fun e => by have := (h.lt _ e).2; omega
  have hO := opB o
  have h0r : w0.heap.size ≤ w.heap.size := h.k0.size
  have ka : Keep w (w.alloc (.cells #[.bool false, .int .i64 0] 59)) := (by repeat (first | exact Keep.rf _ | assumption | apply Keep.al | apply Keep.dr | apply Keep.dn))
  have HN := hide (rdNumber (h.keep ka))
  have hR := heap_alloc_new w (.cells #[.bool false, .int .i64 0] 59)
  have HR := hide hR
  have KA := hide ka
  have hrl : w.heap.size < (w.alloc (.cells #[.bool false, .int .i64 0] 59)).heap.size := by simp
  clear hR ka h
  rcases ho with ho | ho | ho
  · -- int
    obtain rfl : o = [105, 110, 116] := ho
    have HX : ∀ v s', Em.numP s = .ok v s' → Em.immP [105, 110, 116] s = if Em.immBad [105, 110, 116] (Em.zag v) = true then .err 2 else .ok (true, Em.zag v) s' := fun v s' e => by
      unfold Em.immP
      rw [if_neg (by decide), e]
      try rfl
    have HE : ∀ c, Em.numP s = .err c → Em.immP [105, 110, 116] s = .err c := fun c e => by
      unfold Em.immP
      rw [if_neg (by decide), e]
    generalize Em.numP s = on at *
    have HXX := hide HX
    have HEE := hide HE
    clear HX HE
    go_enter Tryz.func47, Tryz.ntmps47
    go_wp2_with fail
    generalize World.alloc w _ = w1 at *
    refine HN.out.mono ?_
    intro e w2 hA
    cases on with
    | err c =>
      obtain ⟨rfl, rfl, k2⟩ := hA
      have hR2 := (k2.frm fun _ => False).heap (fun h => h) HR.out
      have r0 := top_cells hR2 0
      have r1 := top_cells hR2 1
      have f0 := top_free hR2 0
      have f1 := top_free hR2 1
      simp only [List.getElem?_toArray, List.getElem?_cons_succ, List.getElem?_cons_zero] at r0 r1
      have HR2 := hide hR2
      have K2 := hide k2
      have q2 := errNeNil
      have HQ := hide (HEE.out 2 rfl)
      clear hR2 k2 HXX HEE HN
      unfold errV
      go_wp2_with fail
      refine bodyPost_ret_by (results_cell2 rfl _ _ w.heap.size 59 _ (0, 0) _ rfl (heap_set2R HR2.out _ _) Tryz.underlying59 rfl ?_) rfl ?_
      · kernel_rfl
      · rw [HQ.out]
        exact ⟨(false, 0), _, 0, rfl, rfl, Z, lv, tv, its, went_far (Keep.tr KA.out K2.out) (Nat.le_refl _) (frm_set2R _ _ _ _)⟩
    | ok v s' =>
      obtain ⟨rfl, hv, ⟨bv2, hm2⟩, hw2⟩ := hA
      have hR2 := hw2.heap hnr HR.out
      have hnr2 := hide (hw2.out hrl hnr)
      have r0 := top_cells hR2 0
      have r1 := top_cells hR2 1
      have f0 := top_free hR2 0
      have f1 := top_free hR2 1
      simp only [List.getElem?_toArray, List.getElem?_cons_succ, List.getElem?_cons_zero] at r0 r1
      have HR2 := hide hR2
      have HM2 := hide hm2
      have HW2 := hide ((RWent.of_keep KA.out).tr hw2)
      have hz := zag_le v hv
      have HZ := varZag v (hide hv) w2
      have q2 := errNeNN
      have HQ := hide (HXX.out v s' rfl)
      clear hR2 hm2 hw2 HXX HEE HN HR hv
      go_wp2_with fail
      refine HZ.mono ?_
      rintro e w9 ⟨rfl, rfl⟩
      generalize Em.zag v = n at *
      obtain ⟨hz1, hz2⟩ := hz
      by_cases b1 : n < -4611686018427387904
      · have HB := hide (show Em.immBad [105, 110, 116] n = true from by rw [immBad_int]; simp [b1])
        go_wp2_with fail
        refine bodyPost_ret_by (results_cell2 rfl _ _ w.heap.size 59 _ (0, 0) _ rfl (heap_set2R HR2.out _ _) Tryz.underlying59 rfl ?_) rfl ?_
        · kernel_rfl
        · rw [HQ.out, if_pos HB.out]
          exact ⟨(false, 0), _, 0, rfl, rfl, Z, lv, tv, its, HW2.out.far (Nat.le_refl _) (frm_set2R _ _ _ _)⟩
      by_cases b2 : n ≥ 4611686018427387904
      · have HB := hide (show Em.immBad [105, 110, 116] n = true from by rw [immBad_int]; simp [b2])
        go_wp2_with fail
        refine bodyPost_ret_by (results_cell2 rfl _ _ w.heap.size 59 _ (0, 0) _ rfl (heap_set2R HR2.out _ _) Tryz.underlying59 rfl ?_) rfl ?_
        · kernel_rfl
        · rw [HQ.out, if_pos HB.out]
          exact ⟨(false, 0), _, 0, rfl, rfl, Z, lv, tv, its, HW2.out.far (Nat.le_refl _) (frm_set2R _ _ _ _)⟩
      · have HB := hide (show ¬ Em.immBad [105, 110, 116] n = true from by rw [immBad_int]; simp; omega)
        go_wp2_with fail
        refine bodyPost_ret_by (results_cell2 rfl _ _ w.heap.size 59 _ (0, 0) _ rfl (heap_set2R HR2.out _ _) Tryz.underlying59 rfl ?_) rfl ?_
        · kernel_rfl
        · rw [HQ.out, if_neg HB.out]
          exact ⟨rfl, imm_wf hz1 hz2, Z, lv, tv, its, tys, ⟨_, HM2.out.far (frm_set2R _ _ _ _) hnr2.out h0r⟩, HW2.out.far (Nat.le_refl _) (frm_set2R _ _ _ _)⟩
  · -- bool
    obtain rfl : o = [98, 111, 111, 108] := ho
    have HX : ∀ v s', Em.numP s = .ok v s' → Em.immP [98, 111, 111, 108] s = if Em.immBad [98, 111, 111, 108] (Em.immN [98, 111, 111, 108] v) = true then .err 2 else .ok (true, Em.immN [98, 111, 111, 108] v) s' := fun v s' e => by
      unfold Em.immP
      rw [if_neg (by decide), e]
      try rfl
    have HE : ∀ c, Em.numP s = .err c → Em.immP [98, 111, 111, 108] s = .err c := fun c e => by
      unfold Em.immP
      rw [if_neg (by decide), e]
    generalize Em.numP s = on at *
    have HXX := hide HX
    have HEE := hide HE
    clear HX HE
    go_enter Tryz.func47, Tryz.ntmps47
    go_wp2_with fail
    generalize World.alloc w _ = w1 at *
    refine HN.out.mono ?_
    intro e w2 hA
    cases on with
    | err c =>
      obtain ⟨rfl, rfl, k2⟩ := hA
      have hR2 := (k2.frm fun _ => False).heap (fun h => h) HR.out
      have r0 := top_cells hR2 0
      have r1 := top_cells hR2 1
      have f0 := top_free hR2 0
      have f1 := top_free hR2 1
      simp only [List.getElem?_toArray, List.getElem?_cons_succ, List.getElem?_cons_zero] at r0 r1
      have HR2 := hide hR2
      have K2 := hide k2
      have q2 := errNeNil
      have HQ := hide (HEE.out 2 rfl)
      clear hR2 k2 HXX HEE HN
      unfold errV
      go_wp2_with fail
      refine bodyPost_ret_by (results_cell2 rfl _ _ w.heap.size 59 _ (0, 0) _ rfl (heap_set2R HR2.out _ _) Tryz.underlying59 rfl ?_) rfl ?_
      · kernel_rfl
      · rw [HQ.out]
        exact ⟨(false, 0), _, 0, rfl, rfl, Z, lv, tv, its, went_far (Keep.tr KA.out K2.out) (Nat.le_refl _) (frm_set2R _ _ _ _)⟩
    | ok v s' =>
      obtain ⟨rfl, hv, ⟨bv2, hm2⟩, hw2⟩ := hA
      have hR2 := hw2.heap hnr HR.out
      have hnr2 := hide (hw2.out hrl hnr)
      have r0 := top_cells hR2 0
      have r1 := top_cells hR2 1
      have f0 := top_free hR2 0
      have f1 := top_free hR2 1
      simp only [List.getElem?_toArray, List.getElem?_cons_succ, List.getElem?_cons_zero] at r0 r1
      have HR2 := hide hR2
      have HM2 := hide hm2
      have HW2 := hide ((RWent.of_keep KA.out).tr hw2)
      have hz := zag_le v hv
      have HZ := varZag v (hide hv) w2
      have q2 := errNeNN
      have HQ := hide (HXX.out v s' rfl)
      clear hR2 hm2 hw2 HXX HEE HN HR hv
      go_wp2_with fail
      refine HZ.mono ?_
      rintro e w9 ⟨rfl, rfl⟩
      generalize Em.zag v = n at *
      rcases (show v = 0 ∨ v = 1 ∨ 2 ≤ v by omega) with rfl | rfl | hv2
      · have HB := hide (show Em.immBad [98, 111, 111, 108] (Em.immN [98, 111, 111, 108] 0) = false ∧ Em.immN [98, 111, 111, 108] 0 = 0 from by decide)
        go_wp2_with fail
        refine bodyPost_ret_by (results_cell2 rfl _ _ w.heap.size 59 _ (0, 0) _ rfl (heap_set2R HR2.out _ _) Tryz.underlying59 rfl ?_) rfl ?_
        · kernel_rfl
        · rw [HQ.out, HB.out.1, HB.out.2]
          exact ⟨rfl, (by decide : (Lit.int .i64 0).wf = true), Z, lv, tv, its, tys, ⟨_, HM2.out.far (frm_set2R _ _ _ _) hnr2.out h0r⟩, HW2.out.far (Nat.le_refl _) (frm_set2R _ _ _ _)⟩
      · have HB := hide (show Em.immBad [98, 111, 111, 108] (Em.immN [98, 111, 111, 108] 1) = false ∧ Em.immN [98, 111, 111, 108] 1 = 1 from by decide)
        go_wp2_with fail
        refine bodyPost_ret_by (results_cell2 rfl _ _ w.heap.size 59 _ (0, 0) _ rfl (heap_set2R HR2.out _ _) Tryz.underlying59 rfl ?_) rfl ?_
        · kernel_rfl
        · rw [HQ.out, HB.out.1, HB.out.2]
          exact ⟨rfl, (by decide : (Lit.int .i64 1).wf = true), Z, lv, tv, its, tys, ⟨_, HM2.out.far (frm_set2R _ _ _ _) hnr2.out h0r⟩, HW2.out.far (Nat.le_refl _) (frm_set2R _ _ _ _)⟩
      · have hmin : min (v : Int) 2 = 2 := by omega
        have HB := hide (show Em.immBad [98, 111, 111, 108] (Em.immN [98, 111, 111, 108] v) = true from by
          have e : Em.immN [98, 111, 111, 108] v = 2 := by
            unfold Em.immN
            rw [if_pos (by decide), Nat.min_eq_right hv2]
            rfl
          rw [e]
          decide)
        go_wp2_with fail
        refine bodyPost_ret_by (results_cell2 rfl _ _ w.heap.size 59 _ (0, 0) _ rfl (heap_set2R HR2.out _ _) Tryz.underlying59 rfl ?_) rfl ?_
        · kernel_rfl
        · rw [HQ.out, if_pos HB.out]
          exact ⟨(false, 0), _, 0, rfl, rfl, Z, lv, tv, its, HW2.out.far (Nat.le_refl _) (frm_set2R _ _ _ _)⟩
  · -- unit
    obtain rfl : o = [117, 110, 105, 116] := ho
    have HX := hide (show Em.immP [117, 110, 105, 116] s = .ok (true, 0) s from rfl)
    clear HN HR KA
    go_enter Tryz.func47, Tryz.ntmps47
    go_wp2_with fail
    refine bodyPost_ret_by (results_cell2 rfl _ _ w.heap.size 59 _ (0, 0) _ rfl (heap_alloc_new w _) Tryz.underlying59 rfl ?_) rfl ?_
    · kernel_rfl
    · rw [HX.out]
      exact ⟨rfl, (by decide : (Lit.int .i64 0).wf = true), Z, lv, tv, its, tys, ⟨_, HH.out.keep (by repeat (first | exact Keep.rf _ | assumption | apply Keep.al | apply Keep.dr | apply Keep.dn))⟩, RWent.of_keep (by repeat (first | exact Keep.rf _ | assumption | apply Keep.al | apply Keep.dr | apply Keep.dn))⟩
end
end Go.Proofs.YtoehaijmkmdggaaGreat
namespace Go.Proofs.YtoehaijmkmdggaaGreat
open Go.RowKit
open Em (Ty)
set_option linter.unusedVariables false
set_option linter.unusedSimpArgs false
set_option maxRecDepth 100000
def StrA (tt B : Nat) (Z : Nat → Prop) (w0 w : World) (p : Nat) (lv tv : Value) (ex : List Value) (its : List (Em.Blk × Value)) (tys : List (Ty × List Value)) (o : Em.Out (List UInt8)) (e : Ending) (w' : World) : Prop := match o with
  | .err c => c = 2 ∧ e = .returned (.tuple #[.string (str []), errV 2]) ∧ (∃ s2, RdS tt B Z w0 w' p lv tv ex its tys s2) ∧ RWent Z Z w w' p lv tv lv tv its its
  | .ok x s' => e = .returned (.tuple #[.string (str x), .nilIface]) ∧ RdS tt B Z w0 w' p lv tv ex its tys s' ∧ RWent Z Z w w' p lv tv lv tv its its
section
variable {B : Nat} {Z : Nat → Prop} {w0 w : World} {p : Nat} {bv lv tv : Value} {its : List (Em.Blk × Value)} {tys : List (Ty × List Value)} {s : Em.Rd}
set_option maxHeartbeats 8000000 in
theorem rdStr (h : RdM 76 B Z w0 w p bv lv tv [] its tys s) : Calls Tryz.prog 72 #[.pointer (some ⟨p, 0, none⟩)] w (StrA 76 B Z w0 w p lv tv [] its tys (Em.strP s)) := by
  have HN := hide (rdNumber h)
  have HH := hide h
  have HXE := hide (show ∀ c, Em.numP s = .err c → Em.strP s = .err c from fun c e => by unfold Em.strP; rw [e])
  have HXO := hide (show ∀ v s', Em.numP s = .ok v s' → Em.strP s = if s'.b.length < v then .err 2 else .ok (s'.b.take v) ⟨s'.b.drop v, s'.bl, s'.ty⟩ from fun v s' e => by unfold Em.strP; rw [e])
  clear h
  generalize Em.numP s = on at *
  go_enter Tryz.func72, Tryz.ntmps72
  go_wp2_with fail
  refine HN.out.mono ?_
  intro e w2 hA
  cases on with
  | err c =>
    obtain ⟨rfl, rfl, k2⟩ := hA
    have q2 := errNeNil
    have HQ := hide (HXE.out 2 rfl)
    have K2 := hide k2
    clear k2 HXE HXO HN
    unfold errV
    go_wp2_with fail
    go_ret2
    rw [HQ.out]
    exact ⟨rfl, rfl, ⟨s, _, HH.out.keep K2.out⟩, RWent.of_keep K2.out⟩
  | ok v s' =>
    obtain ⟨rfl, hv, ⟨bv2, hm2⟩, hw2⟩ := hA
    have q2 := errNeNN
    have HQ := hide (HXO.out v s' rfl)
    have c0 := top_cells hm2.top 0
    have f0 := top_free hm2.top 0
    simp only [List.getElem?_toArray, List.getElem?_cons_succ, List.getElem?_cons_zero] at c0
    obtain ⟨bA, bc, rfl, b1, b2, _⟩ := id hm2.byt
    have HBS := hide (hm2.byt.keep hm2.k0)
    have HB0 := hide hm2.byt
    have HM2 := hide hm2
    have HW2 := hide hw2
    clear hm2 hw2 HXE HXO HN HH
    by_cases hl : s'.b.length < v
    · have hli : (v : Int) > (s'.b.length : Int) := by omega
      go_wp2_with fail
      go_ret2
      rw [HQ.out, if_pos hl]
      exact ⟨rfl, rfl, ⟨s', _, HM2.out⟩, HW2.out⟩
    · have hli : ¬ (v : Int) > (s'.b.length : Int) := by omega
      have HLE := hide (show s'.b.length = v + (s'.b.length - v) from by omega)
      go_wp2_with (first
        | (refine slTo rfl (.tmp 27) (.tmp 28) _ _ rfl Tryz.underlying22 sizeB8 _ _ rfl HBS.out _ _ rfl v rfl (by omega) ?_; intro A1 c1 hd hd1 hd2; have hcv := run_conv_bs hd 22 5 9 Tryz.underlying22 Tryz.underlying5 Tryz.underlying9; clear hd)
        | (refine slFrom0 rfl (.tmp 35) (.tmp 36) _ _ rfl Tryz.underlying22 sizeB8 _ _ rfl HB0.out _ _ rfl v rfl _ HLE.out ?_; intro A3 c3 hd3 hd4 hd5)
        | fail)
      go_ret2
      rw [HQ.out, if_neg hl]
      have hb' : Bs w0 (.slice A3 (s'.b.length - v) c3) (s'.b.drop v) := hd3
      exact ⟨rfl, ⟨_, (HM2.out.setB hb').1⟩, HW2.out.tr (HM2.out.setB hb').2⟩
end
/-- The tag, and the types, of a type's fields were answered. -/
def ShpA (I : Nat → Prop) (w : World) (t : Ty) (e : Ending) (w' : World) : Prop :=
  ∃ v d, e = .returned (.tuple #[.int .i64 (Em.tagT t.op), v]) ∧ Sl 3 (TyI (fun k => I k ∨ (w.heap.size ≤ k ∧ k < w'.heap.size)) d) w' v (Em.kidsT t) ∧ InX (fun k => I k ∨ (w.heap.size ≤ k ∧ k < w'.heap.size)) v ∧ Keep w w'
theorem TyI.leaf {I : Nat → Prop} {w : World} (o : List UInt8) : TyI I 1 w [.string (str o), .int .i64 0, .slice none 0 0] (.mk o 0 []) :=
  ⟨_, rfl, (by decide : (Lit.int .i64 0).wf = true), Sl.nil w, fun ad n c e hn => by cases e⟩
theorem new2 (w : World) (o o' o'' : Obj) : (((w.alloc o).alloc o').alloc o'').heap[w.heap.size + 1]? = some o' := ((Keep.al (Keep.rf ((w.alloc o).alloc o')) o'').frm fun _ => False).heap (fun h => h) (new_second w o o')
theorem new3 (w : World) (o o' o'' : Obj) : (((w.alloc o).alloc o').alloc o'').heap[w.heap.size + 1 + 1]? = some o'' := by
  have := new_second (w.alloc o) o' o''
  rwa [size_alloc] at this
theorem sl_one3 {α : Type} {K : World → List Value → α → Prop} {W : World} {g : Nat} {a0 a1 a2 : Value} {ty : TypeId} {x : α} (h : W.heap[g]? = some (.cells #[a0, a1, a2] ty)) (hx : K W [a0, a1, a2] x) : Sl 3 K W (.slice (some ⟨g, 0, none⟩) 1 1) [x] := by
  refine ⟨_, _, rfl, by simp, by omega, fun _ => ⟨_, rfl, fun j hj => ?_⟩⟩
  obtain rfl : j = 0 := by simpa using hj
  refine ⟨[a0, a1, a2], rfl, fun i u hu => ?_, hx⟩
  have := top_cells h i
  rw [add_pl]
  rw [Nat.zero_mul, Nat.zero_add, this]
  simpa using hu
theorem sl_two3 {α : Type} {K : World → List Value → α → Prop} {W : World} {g : Nat} {a0 a1 a2 b0 b1 b2 : Value} {ty : TypeId} {x y : α} (h : W.heap[g]? = some (.cells #[a0, a1, a2, b0, b1, b2] ty)) (hx : K W [a0, a1, a2] x) (hy : K W [b0, b1, b2] y) : Sl 3 K W (.slice (some ⟨g, 0, none⟩) 2 2) [x, y] := by
  refine ⟨_, _, rfl, by simp, by omega, fun _ => ⟨_, rfl, fun j hj => ?_⟩⟩
  rcases (show j = 0 ∨ j = 1 by simp at hj; omega) with rfl | rfl
  · refine ⟨[a0, a1, a2], rfl, fun i u hu => ?_, hx⟩
    have := top_cells h i
    rw [add_pl, Nat.zero_mul, Nat.zero_add, this]
    match i, hu with
    | 0, hu => simpa using hu
    | 1, hu => simpa using hu
    | 2, hu => simpa using hu
    | i + 3, hu => simp at hu
  · refine ⟨[b0, b1, b2], rfl, fun i u hu => ?_, hy⟩
    have := top_cells h (3 + i)
    rw [add_pl, Nat.one_mul, this]
    match i, hu with
    | 0, hu => simpa using hu
    | 1, hu => simpa using hu
    | 2, hu => simpa using hu
    | i + 3, hu => simp at hu
section
variable {I : Nat → Prop} {w : World} {d : Nat} {cs : List Value} {t : Ty}
set_option maxHeartbeats 8000000 in
theorem unpickShape (ht : TyI I d w cs t) (hok : Em.okS t = true) (hpl : ¬ Em.isPl t.op) : Calls Tryz.prog 71 #[.agg cs.toArray] w (ShpA I w t) := by
  cases d with
  | zero => exact ht.elim
  | succ d =>
    have ht0 := hide ht
    obtain ⟨v, rfl, hn, hs, hin⟩ := ht
    have hO := opB t.op
    have ho := Em.okS_op hok
    obtain ⟨o, n, ks⟩ := t
    simp only [Em.Ty.op, Em.Ty.n, Em.Ty.kids] at *
    obtain ⟨A, c, rfl, l1, l2, hr⟩ := id hs
    have HS := hide hs
    have HIN := hide hin
    have hnb := in_i64 hn
    clear hs hin
    rcases ho with rfl | rfl | rfl | rfl | rfl | ⟨rfl, hl⟩ | ⟨rfl, hl⟩ | ⟨rfl, hl⟩
    · exact absurd (.inl rfl) hpl
    · exact absurd (.inr (.inl rfl)) hpl
    · exact absurd (.inr (.inr rfl)) hpl
    · -- string
      have HK := hide (show Em.kidsT (.mk Em.wString n ks) = [] from rfl)
      clear hpl hok hr
      unfold Em.wString at *
      go_enter Tryz.func71, Tryz.ntmps71
      go_wp2_with fail
      go_ret2
      exact ⟨_, 1, rfl, by rw [HK.out]; exact Sl.nil _, fun ad n c e hn => (by cases e), (by repeat (first | exact Keep.rf _ | assumption | apply Keep.al | apply Keep.dr | apply Keep.dn))⟩
    · -- cell
      have HK := hide (show Em.kidsT (.mk Em.wCell n ks) = [.mk Em.wInt 0 [], .mk Em.wList 0 [.mk Em.wCell 0 []]] from rfl)
      clear hpl hok hr
      unfold Em.wCell at *
      go_enter Tryz.func71, Tryz.ntmps71
      go_wp2_with fail
      go_ret2
      have h2 := new2 w (.cells #[.string (str [99, 101, 108, 108]), .int .i64 n, .slice A ks.length c] 25) (.cells #[.string (str [99, 101, 108, 108]), .int .i64 0, .slice none 0 0] 25) (.cells #[.string (str [105, 110, 116]), .int .i64 0, .slice none 0 0, .string (str [108, 105, 115, 116]), .int .i64 0, .slice (some ⟨w.heap.size + 1, 0, none⟩) 1 1] 25)
      have h3 := new3 w (.cells #[.string (str [99, 101, 108, 108]), .int .i64 n, .slice A ks.length c] 25) (.cells #[.string (str [99, 101, 108, 108]), .int .i64 0, .slice none 0 0] 25) (.cells #[.string (str [105, 110, 116]), .int .i64 0, .slice none 0 0, .string (str [108, 105, 115, 116]), .int .i64 0, .slice (some ⟨w.heap.size + 1, 0, none⟩) 1 1] 25)
      refine ⟨_, 3, rfl, ?_, fun ad n c e hn => ?_, (by repeat (first | exact Keep.rf _ | assumption | apply Keep.al | apply Keep.dr | apply Keep.dn))⟩
      · rw [HK.out]
        refine sl_two3 h3 (TyI.le (e := 3) (TyI.leaf _) (by decide)) ⟨_, rfl, (by decide : (Lit.int .i64 0).wf = true), sl_one3 h2 (TyI.le (e := 2) (TyI.leaf _) (by decide)), fun ad n c e hn => ?_⟩
        cases e
        exact .inr ⟨by simp, by simp⟩
      · cases e
        refine .inr ⟨?_, ?_⟩
        · show w.heap.size ≤ w.heap.size + 1 + 1
          omega
        · show w.heap.size + 1 + 1 < _
          simp only [size_alloc]
          omega
    · -- list
      obtain ⟨ad, rfl, hcell⟩ := hr (by omega)
      obtain ⟨ks0, hk1, hk2, hk3⟩ := hcell 0 (by omega)
      have hhd : ks.headD (.mk [] 0 []) = ks[0] := by
        cases ks with
        | nil => simp at hl
        | cons a u => rfl
      have HK := hide (show Em.kidsT (.mk Em.wList n ks) = [ks[0], .mk Em.wList n ks] from by rw [← hhd]; rfl)
      generalize ks[0] = k0 at *
      have hk4 := hide hk3
      cases d with
      | zero => exact hk3.elim
      | succ d =>
        obtain ⟨kv, rfl, kn, kS, kI⟩ := hk3
        obtain ⟨kA, kc, rfl, _⟩ := id kS
        have kx1 : Keep w (w.alloc (.cells #[.string (str Em.wList), .int .i64 n, .slice (some ad) ks.length c] 25)) := (by repeat (first | exact Keep.rf _ | assumption | apply Keep.al | apply Keep.dr | apply Keep.dn))
        have c0 := Keep.cell kx1 (hk2 0 _ rfl)
        have c1 := cell_off (Keep.cell kx1 (hk2 1 _ rfl))
        have c2 := cell_off (Keep.cell kx1 (hk2 2 _ rfl))
        have hadd : ad.add 0 = ad := by simp [Addr.add]
        simp only [Nat.zero_mul, Nat.add_zero, hadd] at c0 c1 c2
        have hB := heap_alloc_new w (.cells #[.string (str Em.wList), .int .i64 n, .slice (some ad) ks.length c] 25)
        have b0 := top_cells hB 0
        have b1 := top_cells hB 1
        have b2 := top_cells hB 2
        simp only [List.getElem?_toArray, List.getElem?_cons_succ, List.getElem?_cons_zero] at b0 b1 b2
        have hlp : (0 : Int) < (ks.length : Int) := by omega
        have hlp2 : 0 < ks.length := by omega
        have HFIN := hide (show ∀ W g, Keep w W → w.heap.size ≤ g → W.heap[g]? = some (.cells #[.string (str k0.op), .int .i64 k0.n, .slice kA k0.kids.length kc, .string (str Em.wList), .int .i64 n, .slice (some ad) ks.length c] 25) → ShpA I w (.mk Em.wList n ks) (.returned (.tuple #[.int .i64 2, .slice (some ⟨g, 0, none⟩) 2 2])) W from fun W g k hg hh => by
          have hgl := (Array.getElem?_eq_some_iff.1 hh).1
          refine ⟨_, d + 2, rfl, ?_, fun ad n c e hn => ?_, k⟩
          · rw [HK.out]
            exact sl_two3 hh (((hk4.out.keep k).mono fun k hk => .inl hk).le (by omega)) ((ht0.out.keep k).mono fun k hk => .inl hk)
          · cases e
            exact .inr ⟨hg, hgl⟩)
        clear hpl hok hr hcell hk1 hk2 hhd hl hB kS kI
        unfold Em.wList at *
        go_enter Tryz.func71, Tryz.ntmps71
        go_wp2_with fail
        have hJ := And.intro b0 (And.intro b1 (And.intro b2 (And.intro c0 (And.intro c1 c2))))
        generalize hw1 : World.alloc w _ = w1 at *
        have hs1 : w.heap.size ≤ w1.heap.size := by rw [← hw1]; simp
        clear hw1
        have HSK := hide (fun (W : World) (k : Keep w1 W) => And.intro (Keep.cell k b0) (And.intro (Keep.cell k b1) (And.intro (Keep.cell k b2) (And.intro (Keep.cell k c0) (And.intro (Keep.cell k c1) (Keep.cell k c2))))))
        clear hJ b0 b1 b2 c0 c1 c2
        go_region_held3 (fun W => W.cell? ⟨w.heap.size, 0, none⟩ = some (.string (str [108, 105, 115, 116])) ∧ W.cell? ⟨w.heap.size, 1, none⟩ = some (.int .i64 n) ∧ W.cell? ⟨w.heap.size, 2, none⟩ = some (.slice (some ad) ks.length c) ∧ W.cell? ad = some (.string (str k0.op)) ∧ W.cell? ⟨ad.block, ad.off + 1, none⟩ = some (.int .i64 k0.n) ∧ W.cell? ⟨ad.block, ad.off + 2, none⟩ = some (.slice kA k0.kids.length kc)) (first | exact HSK.out _ (by repeat (first | exact Keep.rf _ | assumption | apply Keep.al | apply Keep.dr | apply Keep.dn))) (first | fail)
        all_goals
          go_wp2_with fail
          go_ret2
          refine HFIN.out _ w1.heap.size (Keep.tr kx1 (by repeat (first | exact Keep.rf _ | assumption | apply Keep.al | apply Keep.dr | apply Keep.dn))) hs1 ?_
          first
            | exact heap_alloc_new w1.drew _
            | exact heap_alloc_new _ _
    · -- ref
      have HK := hide (show Em.kidsT (.mk Em.wRef n ks) = ks from rfl)
      have HFIN := hide (show ∀ W, Keep w W → ShpA I w (.mk Em.wRef n ks) (.returned (.tuple #[.int .i64 4, .slice A ks.length c])) W from fun W k => ⟨_, d, rfl, by rw [HK.out]; exact (HS.out.keep k fun _ _ h => h.keep k).mono fun _ _ h => h.mono fun k hk => .inl hk, fun ad n c e hn => .inl (HIN.out ad n c e hn), k⟩)
      clear hl
      have hB := heap_alloc_new w (.cells #[.string (str Em.wRef), .int .i64 n, .slice A ks.length c] 25)
      have b2 := top_cells hB 2
      simp only [List.getElem?_toArray, List.getElem?_cons_succ, List.getElem?_cons_zero] at b2
      clear hpl hok hr hB
      unfold Em.wRef at *
      go_enter Tryz.func71, Tryz.ntmps71
      go_wp2_with fail
      go_quiet (fail)
      go_wp2_with fail
      go_ret2
      exact HFIN.out _ (by repeat (first | exact Keep.rf _ | assumption | apply Keep.al | apply Keep.dr | apply Keep.dn))
    · -- pair
      have HK := hide (show Em.kidsT (.mk Em.wPair n ks) = ks from rfl)
      have HFIN := hide (show ∀ W, Keep w W → ShpA I w (.mk Em.wPair n ks) (.returned (.tuple #[.int .i64 3, .slice A ks.length c])) W from fun W k => ⟨_, d, rfl, by rw [HK.out]; exact (HS.out.keep k fun _ _ h => h.keep k).mono fun _ _ h => h.mono fun k hk => .inl hk, fun ad n c e hn => .inl (HIN.out ad n c e hn), k⟩)
      clear hl
      have hB := heap_alloc_new w (.cells #[.string (str Em.wPair), .int .i64 n, .slice A ks.length c] 25)
      have b2 := top_cells hB 2
      simp only [List.getElem?_toArray, List.getElem?_cons_succ, List.getElem?_cons_zero] at b2
      clear hpl hok hr hB
      unfold Em.wPair at *
      go_enter Tryz.func71, Tryz.ntmps71
      go_wp2_with fail
      go_quiet (fail)
      go_wp2_with fail
      go_ret2
      exact HFIN.out _ (by repeat (first | exact Keep.rf _ | assumption | apply Keep.al | apply Keep.dr | apply Keep.dn))
end
end Go.Proofs.YtoehaijmkmdggaaGreat
namespace Go.Proofs.YtoehaijmkmdggaaGreat
open Go.RowKit
open Em (Ty)
set_option linter.unusedVariables false
set_option linter.unusedSimpArgs false
set_option maxRecDepth 100000
/-- What a value comes to, to a depth. -/
def ValV (B : Nat) (w0 : World) (p f : Nat) : Prop := ∀ (Z : Nat → Prop) (w : World) (bv lv tv : Value) (its : List (Em.Blk × Value)) (tys : List (Ty × List Value)) (s : Em.Rd) (t : Ty) (d : Nat) (cs : List Value), RdM 76 B Z w0 w p bv lv tv [] its tys s → TyI (fun k => k < w0.heap.size ∨ Z k) d w cs t → Em.okS t = true → 2000 - its.length < f →
  Calls Tryz.prog 23 #[.pointer (some ⟨p, 0, none⟩), .agg cs.toArray] w (ValA 76 B Z w0 w p lv tv [] its (Em.valP f t s))
def BlkV (B : Nat) (w0 : World) (p f : Nat) : Prop := ∀ (Z : Nat → Prop) (w : World) (bv lv tv : Value) (its : List (Em.Blk × Value)) (tys : List (Ty × List Value)) (s : Em.Rd) (t : Ty) (d : Nat) (cs : List Value), RdM 76 B Z w0 w p bv lv tv [] its tys s → TyI (fun k => k < w0.heap.size ∨ Z k) d w cs t → Em.okS t = true → ¬ Em.isPl t.op → 2000 - its.length < f + 1 →
  Calls Tryz.prog 49 #[.pointer (some ⟨p, 0, none⟩), .agg cs.toArray] w (ValA 76 B Z w0 w p lv tv [] its (Em.blkP (Em.valP f) t s))
/-- What was answered, whatever it is. -/
theorem ValA.shape {tt B : Nat} {Z : Nat → Prop} {w0 w w' : World} {p : Nat} {lv tv : Value} {ex : List Value} {its : List (Em.Blk × Value)} {o : Em.Out (Bool × Int)} {e : Ending} (h : ValA tt B Z w0 w p lv tv ex its o e w') : ∃ (x : Bool) (n : Int) (v : Value), e = .returned (.tuple #[.agg #[.bool x, .int .i64 n], v]) := by
  cases o with
  | err c =>
    obtain ⟨x, v, d, h1, _⟩ := h
    exact ⟨_, _, _, h1⟩
  | ok x s => exact ⟨_, _, _, h.1⟩
theorem ValA.went {tt B : Nat} {Z : Nat → Prop} {w0 w w' : World} {p : Nat} {lv tv : Value} {ex : List Value} {its : List (Em.Blk × Value)} {o : Em.Out (Bool × Int)} {e : Ending} (h : ValA tt B Z w0 w p lv tv ex its o e w') : ∃ Z' lv' tv' its', RWent Z Z' w w' p lv tv lv' tv' its its' := by
  cases o with
  | err c =>
    obtain ⟨x, v, d, _, _, h1⟩ := h
    exact h1
  | ok x s =>
    obtain ⟨_, _, Z', lv', tv', its', tys', _, h1⟩ := h
    exact ⟨_, _, _, _, h1⟩
/-- An answer that is handed on, by way of a new block. -/
theorem ValA.pass {tt B : Nat} {Z Z1 : Nat → Prop} {w0 w w1 w2 w3 : World} {p r : Nat} {lv tv lv1 tv1 : Value} {ex : List Value} {its its1 : List (Em.Blk × Value)} {o : Em.Out (Bool × Int)} {e : Ending}
    (hw : RWent Z Z1 w w1 p lv tv lv1 tv1 its its1) (h : ValA tt B Z1 w0 w1 p lv1 tv1 ex its1 o e w2) (F : Frm (· = r) w2 w3) (hr : w.heap.size ≤ r) (hr1 : r < w1.heap.size) (hn : ¬ HasR Z1 p lv1 tv1 its1 r) (h0 : w0.heap.size ≤ r) : ValA tt B Z w0 w p lv tv ex its o e w3 := by
  cases o with
  | err c =>
    obtain ⟨x, v, d, h1, h2, Z', lv', tv', its', h3⟩ := h
    exact ⟨x, v, d, h1, (h2.frm F fun k e => by have e : k = r := e; omega).le hw.frm.size, Z', lv', tv', its', (hw.tr h3).far hr F⟩
  | ok x s =>
    obtain ⟨h1, h2, Z', lv', tv', its', tys', ⟨bv, h3⟩, h4⟩ := h
    exact ⟨h1, h2, Z', lv', tv', its', tys', ⟨bv, h3.far F (h4.out hr1 hn) h0⟩, (hw.tr h4).far hr F⟩
end Go.Proofs.YtoehaijmkmdggaaGreat
