/- Walk: a word as a value of the graph (the reference's teller). -/
import Derived.Test.YtilhglnfjaablaaDrawT
namespace Go.Proofs.Ytilhglnfjaablaa
open Go.RowKit Go.Maps
set_option linter.unusedVariables false
set_option linter.unusedSimpArgs false
set_option maxRecDepth 100000
def TelC (B : Nat) (U : List Int) (dp mb p : Nat) (w0 : World) (H : Em.Hp) (f : Nat) : Prop :=
  ∀ (w : World) (l : Value) (its : List (Em.Blk × Value)) (s : Em.Dw) (n : Int), Keep w0 w → DR 92 B U w dp mb (.pointer (some ⟨p, 0, none⟩)) l its s → n ∈ U → (Lit.int .i64 n).wf = true → Em.uns U s.ws < f →
    Calls Try.prog 48 #[.pointer (some ⟨dp, 0, none⟩), .int .i64 n] w (RetD 92 B U dp mb (.pointer (some ⟨p, 0, none⟩)) w l its s (Em.refQ f H n s))
theorem telRefInt (w : World) (dv : Value) (n : Int) (ho : n % 2 = 1) : Calls Try.prog 48 #[dv, .int .i64 n] w fun e w' => e = .returned (.agg #[.bool true, .int .i64 (n / 2)]) ∧ Keep w w' := by
  have ho1 : (n % 2 == 1) = true := by simpa using ho
  clear ho
  go_enter Try.func48, Try.ntmps48
  go_wp2_with fail
  refine (refIsInt n _).mono ?_
  rintro e w1 ⟨rfl, rfl⟩
  rw [ho1]
  go_wp2_with fail
  refine (refNum n _).mono ?_
  rintro e w1 ⟨rfl, rfl⟩
  go_wp2_with fail
  refine bodyPost_ret_by (results_cell_row rfl _ _ w.heap.size 31 _ (0, 0) _ rfl (by simpa using heap_alloc_new w _) Try.underlying31 rfl ?_) rfl ⟨?_, ?_⟩
  · kernel_rfl
  · rfl
  · exact (by repeat (first | exact Keep.rf _ | assumption | apply Keep.al | apply Keep.dr | apply Keep.dn))
theorem refFields0 {w0 : World} {p sz : Nat} {S : List Nat} {H : Em.Hp} (h : RRep w0 p S sz H) (n : Int) (hn : (Lit.int .i64 n).wf = true) : ∃ v, Is w0 v (Em.blk H n).2 ∧ ∀ w, Keep w0 w → Calls Try.prog 39 #[.pointer (some ⟨p, 0, none⟩), .int .i64 n] w fun e w' => e = .returned v ∧ w = w' := by
  obtain ⟨a, t, f, fv, rfl, h, r⟩ := h
  exact ⟨fldV fv H n, (Cs.of_own (fldV_own h n)).1, fun w k => refFieldsV w (h.frm (k.frm fun _ => False) fun _ _ h => h) r n hn⟩
set_option maxHeartbeats 16000000 in
theorem telRef_step {B : Nat} {U : List Int} {dp mb p : Nat} {w0 : World} {H : Em.Hp} {f sz : Nat} {S : List Nat} (hrep : RRep w0 p S sz H) (hB : w0.heap.size ≤ B) (hUU : ∀ n, ∀ x ∈ (Em.blk H n).2, x ∈ U) (href : TelC B U dp mb p w0 H f) : TelC B U dp mb p w0 H (f + 1) := by
  intro w l its s n k0 hd hU hn hf
  by_cases ho : n % 2 = 1
  · have HR := hide (show Em.refQ (f + 1) H n s = ((true, n / 2), s) from by rw [Em.refQ, if_pos ho])
    refine (telRefInt w _ n ho).mono ?_
    rintro e w' ⟨rfl, k⟩
    rw [HR.out]
    exact ⟨l, its, rfl, wf_half hn, hd.keep k, Went.of_keep k⟩
  have ho1 : (n % 2 == 1) = false := by simpa using ho
  have kal := Keep.al (Keep.rf w) (.cells #[.bool false, .int .i64 0] 31)
  have hd1 := hd.keep kal
  have hx0 := heap_alloc_new w (.cells #[.bool false, .int .i64 0] 31)
  have hnx : ¬ HasD dp mb l its w.heap.size := fun e => by have := (hd.raw.lt _ e).2; omega
  have hlk := hd1.raw.map.look_ok (P := Try.prog) Try.underlying86 Try.underlying24 (zeroInt _) n hn
  have d0 := top_cells hd1.raw.top 0
  have d1 := top_cells hd1.raw.top 1
  have d2 := top_cells hd1.raw.top 2
  have d3 := top_cells hd1.raw.top 3
  have f3 := top_free hd1.raw.top 3
  have x0 := top_cells hx0 0
  have x1 := top_cells hx0 1
  simp only [List.getElem?_toArray, List.getElem?_cons_succ, List.getElem?_cons_zero] at d0 d1 d2 d3 x0 x1
  have HO := hide ho
  have k01 := Keep.tr k0 kal
  unfold posV at hlk
  cases hp : Em.pos s.ws n with
  | some i =>
    have HR := hide (show Em.refQ (f + 1) H n s = ((false, (i : Int)), s) from by rw [Em.refQ, if_neg HO.out, hp])
    have hib := Em.pos_lt hp
    have hcnt := hd.cnt
    rw [hp] at hlk
    clear hp ho
    go_enter Try.func48, Try.ntmps48
    go_wp2_with fail
    refine (refIsInt n _).mono ?_
    rintro e w1 ⟨rfl, rfl⟩
    rw [ho1]
    go_wp2_with fail
    refine bodyPost_ret_by (results_cell_row rfl _ _ w.heap.size 31 _ (0, 0) _ rfl (by simpa using heap_alloc_new w _) Try.underlying31 rfl ?_) rfl ?_
    · kernel_rfl
    · rw [HR.out]
      exact ⟨l, its, rfl, wf_nat (by omega), hd.keep (by repeat (first | exact Keep.rf _ | assumption | apply Keep.al | apply Keep.dr | apply Keep.dn)), Went.of_keep (by repeat (first | exact Keep.rf _ | assumption | apply Keep.al | apply Keep.dr | apply Keep.dn))⟩
  | none =>
    rw [hp] at hlk
    by_cases hC : (Em.blk H n).1 = 0 ∨ (Em.blk H n).1 = 8 ∨ s.bad = true
    · have HR := hide (show Em.refQ (f + 1) H n s = ((false, 0), ⟨s.ws, s.bl, true⟩) from by rw [Em.refQ, if_neg HO.out, hp]; simp only; rw [if_pos hC])
      have HD1 := hide hd1
      have fx : Frm (· = w.heap.size) ((w.alloc (.cells #[.bool false, .int .i64 0] 31)).setCell ⟨dp, 3, none⟩ (.bool true)) ((((w.alloc (.cells #[.bool false, .int .i64 0] 31)).setCell ⟨dp, 3, none⟩ (.bool true)).setCell ⟨w.heap.size, 0, none⟩ (.bool false)).setCell ⟨w.heap.size, 1, none⟩ (.int .i64 0)) := frm_two _ w.heap.size _ _
      have hne : w.heap.size ≠ dp := fun e => hnx (.inl e)
      have hx1 := heap_skip hx0 (a := ⟨dp, 3, none⟩) (fun e => hne e.symm) (.bool true)
      have y0 := top_cells hx1 0
      have y1 := top_cells hx1 1
      have z0 := top_free hx1 0
      have z1 := top_free hx1 1
      simp only [List.getElem?_toArray, List.getElem?_cons_succ, List.getElem?_cons_zero] at y0 y1
      have HX1 := hide hx1
      clear ho hd1 hx0 hx1
      have hsplit : (Em.blk H n).1 = 0 ∨ (Em.blk H n).1 = 8 ∨ ((Em.blk H n).1 ≠ 0 ∧ (Em.blk H n).1 ≠ 8 ∧ s.bad = true) := by
        by_cases a0 : (Em.blk H n).1 = 0
        · exact .inl a0
        by_cases a8 : (Em.blk H n).1 = 8
        · exact .inr (.inl a8)
        rcases hC with h | h | h
        · exact absurd h a0
        · exact absurd h a8
        · exact .inr (.inr ⟨a0, a8, h⟩)
      clear hC
      have HTG := refTag (p := p) (S := S) (sz := sz) (H := H) (n := n)
      generalize (Em.blk H n).1 = t at *
      obtain ⟨ws, bl, bad⟩ := s
      simp only at *
      rcases hsplit with rfl | rfl | ⟨t0, t8, rfl⟩
      all_goals
        go_enter Try.func48, Try.ntmps48
        go_wp2_with fail
        refine (refIsInt n _).mono ?_
        rintro e w1 ⟨rfl, rfl⟩
        rw [ho1]
        go_wp2_with fail
        refine (HTG _ (hrep.keep k01) hn).mono ?_
        rintro e w1 ⟨rfl, rfl⟩
        go_wp2_with fail
        refine bodyPost_ret_by (results_cell_row rfl _ _ w.heap.size 31 _ (0, 0) _ rfl (heap_set2 HX1.out _ _) Try.underlying31 rfl ?_) rfl ?_
        · kernel_rfl
        · rw [HR.out]
          exact ⟨l, its, rfl, wf_nat (n := 0) (by omega), (HD1.out.badden true).frm fx fun k hk e => hnx (e ▸ hk), ((Went.of_keep kal).tr (HD1.out.went3 true)).stx fx (Nat.le_refl _)⟩
    · have htag : (Lit.int .i64 (Em.blk H n).1).wf = true := (hrep.blk n).2.2
      have HR := hide (show Em.refQ (f + 1) H n s = ((false, (s.bl.length : Int)), Em.fillP (Em.refQ f H) H n s.bl.length (s.come n (Em.blk H n).1)) from by rw [Em.refQ, if_neg HO.out, hp]; simp only; rw [if_neg hC])
      simp only [not_or, Bool.not_eq_true] at hC
      obtain ⟨t0, t8, hbad⟩ := hC
      have hbl : s.bl.length = its.length := by rw [hd.bl]; simp
      rw [hbl] at HR
      have hcnt := hd.cnt
      have hwl := hd.wl
      have hpv : posV s.ws n = none := by unfold posV; rw [hp]; rfl
      obtain ⟨w2, hup, hm2, F2⟩ := hd1.raw.map.put (P := Try.prog) Try.underlying86 Try.underlying24 n hn hpv (.int .i64 (its.length : Int))
      rw [← hwl, ← posV_snoc hp] at hm2
      obtain ⟨A, c, rfl⟩ := own_slice hd.raw.row
      have hR2 := hd1.raw.mapped hm2 F2
      have e0 := top_cells hR2.top 0
      have e2 := top_cells hR2.top 2
      simp only [List.getElem?_toArray, List.getElem?_cons_succ, List.getElem?_cons_zero] at e0 e2
      have hx2 := F2.heap (fun e => hnx (.inr (.inl e))) hx0
      have hlen : its.length ≤ 100000 := by omega
      have k02 : Keep w0 w2 := Frm.keep k01 F2 fun i e => by have := hd.raw.d1.2.1; have : i = mb := e; omega
      have HD1 := hide hd1
      have HR2 := hide hR2
      have HX2 := hide hx2
      have HXW := hide hx0
      have hBw : B ≤ w2.heap.size := by
        have h1 := (hd1.raw.lt dp (.inl rfl))
        have := F2.size
        omega
      have HTG := hide (fun W k => refTag (n := n) W (hrep.keep (k : Keep w0 W)) hn)
      have HBAD := hide hbad
      rw [hbad] at d3
      clear ho hd1 hx0 x0 x1 hR2 hx2 hwl hcnt hbl hbad f3
      generalize htg : (Em.blk H n).1 = t at *
      have HT := hide htg
      clear htg
      have hk5 := fun (W : World) (h : Keep w0 W) => hrep.keep h
      rcases (show t = 1 ∨ t = 6 ∨ t = 7 ∨ (t ≠ 1 ∧ t ≠ 6 ∧ t ≠ 7) from by omega) with rfl | rfl | rfl | ⟨t1, t6, t7⟩
      all_goals
        have t0b := beq_eq_false_iff_ne.2 t0
        have t8b := beq_eq_false_iff_ne.2 t8
        (try have t1b := beq_eq_false_iff_ne.2 t1)
        (try have t6b := bne_iff_ne.2 t6)
        (try have t7b := bne_iff_ne.2 t7)
        clear t0 t8
        go_enter Try.func48, Try.ntmps48
        go_wp2_with fail
        refine (refIsInt n _).mono ?_
        rintro e w1 ⟨rfl, rfl⟩
        rw [ho1]
        go_wp2_with fail
        refine (HTG.out _ k01).mono ?_
        rintro e w1 ⟨rfl, rfl⟩
        go_wp2_with (first
          | (at_builtin; go_loud (refine wpList_app rfl (.tmp 68) (.tmp 71) 32 rfl B 53 _ 3 48 Try.underlying32 infoBlk rfl (by omega) _ its.length _ rfl (own_keep HR2.out.row (by repeat (first | exact Keep.rf _ | assumption | apply Keep.al | apply Keep.dr | apply Keep.dn))) _ 1 (blkCells (⟨_, [], []⟩, .slice none 0 0)) rfl (src_new w2 _ _ _ _ rfl) (fun u hu => by simp [blkCells] at hu; rcases hu with rfl | rfl | rfl <;> rfl) (by simp only [maxLen]; omega) (by omega) (by rw [size_alloc]; omega) ?_); intro v3 w3 ha3; have hbp := BPush.mk (w0 := w2) (by repeat (first | exact Keep.rf _ | assumption | apply Keep.al | apply Keep.dr | apply Keep.dn)) ha3; have tp := (Frm.of_grown (S := fun k => (Value.slice A its.length c).ownBlock = some k) ha3.2.1 fun _ e => e).heap (fun e => (HR2.out.d2 dp e).1 rfl) (HR2.out.keep (Keep.al (Keep.rf w2) _)).top; have tpc := top_cells tp 2; have tpf := top_free tp 2; simp only [List.getElem?_toArray, List.getElem?_cons_succ, List.getElem?_cons_zero] at tpc; obtain ⟨A3, c3, e3⟩ := own_slice ha3.1; subst e3; have hpsh := DR.pushed HD1.out hU hp htag hm2 F2 hbp; have HPS := hide hpsh; have hx6 := hpsh.2.heap hnx HXW.out; have y0 := top_cells hx6 0; have y1 := top_cells hx6 1; have z0 := top_free hx6 0; have z1 := top_free hx6 1; have e0' := top_cells hpsh.1.raw.top 0; have e2' := top_cells hpsh.1.raw.top 2; have e3' := top_cells hpsh.1.raw.top 3; simp only [List.getElem?_toArray, List.getElem?_cons_succ, List.getElem?_cons_zero] at y0 y1 e0' e2' e3'; have HX6 := hide hx6; clear hpsh hx6 hbp ha3 tp e0 e2)
          | fail)
      all_goals
        have hb' : ∀ t, (s.come n t).bad = false := fun _ => HBAD.out
        rw [hb'] at e3'
        obtain ⟨hdP, hwP⟩ := HPS.out
        have hnx6 := hwP.out (by simp) hnx
        have hk6 := hwP.low HD1.out k01 hB
        have hx6 := HX6.out
        have hil : ∀ t, its.length < (its ++ [((⟨t, [], []⟩, .slice none 0 0) : Em.Blk × Value)]).length := fun t => by rw [List.length_append]; exact Nat.lt_succ_self _
        have hit : ∀ t, (its ++ [((⟨t, [], []⟩, .slice none 0 0) : Em.Blk × Value)])[its.length]? = some (⟨t, [], []⟩, .slice none 0 0) := fun t => List.getElem?_concat_length
        clear hlk d0 d1 d2 d3 hup hm2 F2 HR2 HX2 HXW tpc tpf HX6
        generalize World.setCell w3 _ _ = W6 at *
        clear hpv hBw
      · have HX := hide (show Em.fillP (Em.refQ f H) H n its.length (s.come n 1) = ⟨(s.come n 1).ws, (s.come n 1).bl.modify its.length fun b => b.str! ((Em.textH H n).getD []), (s.come n 1).bad || !(Em.textH H n).isSome⟩ from by unfold Em.fillP; rw [HT.out]; rfl)
        rw [hb', Bool.false_or] at HX
        refine (ref18Text _ (hk5 _ hk6) n hn).mono ?_
        rintro e W7 ⟨k7, rfl⟩
        generalize Em.textH H n = o at *
        have hd7 := hdP.keep k7
        have hx7 := (k7.frm fun _ => False).heap (fun h => h) hx6
        replace hil := hil 1
        replace hit := hit 1
        obtain ⟨g, c', e⟩ := hd7.at_ hil
        injection e with e1 e2 e3
        subst e1 e3
        have R1 := fun b => (hd7.badden b).raw
        have d3 := top_cells hd7.raw.top 3
        have f3 := top_free hd7.raw.top 3
        have d2 := fun b => top_cells (R1 b).top 2
        have r1 := fun b => (row_at (R1 b).row hit 1 _ rfl).1
        have r1f := fun b => (row_at (R1 b).row hit 1 _ rfl).2
        have hx8 := fun b x => ((hd7.badden b).strIn hit x).2.heap hnx6 ((hd7.went3 b).heap hnx6 hx7)
        have y0 := fun b x => top_cells (hx8 b x) 0
        have y1 := fun b x => top_cells (hx8 b x) 1
        have z0 := fun b x => top_free (hx8 b x) 0
        have z1 := fun b x => top_free (hx8 b x) 1
        simp only [List.getElem?_toArray, List.getElem?_cons_succ, List.getElem?_cons_zero] at d2 d3 y0 y1
        rw [hb'] at d3
        have HD7 := hide hd7
        have HX8 := hide hx8
        have hlt7 := (Array.getElem?_eq_some_iff.1 hx7).1
        have HN8 := hide (fun b x => ((hd7.badden b).strIn hit x).2.out (by rw [size_set]; exact hlt7) hnx6)
        clear hlt7
        clear hd7 R1 e0' e2' e3' hx8 hx6 hx7 hb' hnx HBAD e2 hil
        replace hit := hide hit
        have HPW := hide hwP
        clear hwP hdP HPS
        cases o
        all_goals
          simp only [Option.isSome_none, Option.isSome_some, Option.getD_none, Option.getD_some, Bool.not_true, Bool.not_false] at HX
          go_wp2_with fail
          refine bodyPost_ret_by (results_cell_row rfl _ _ w.heap.size 31 _ (0, 0) _ rfl (heap_set2 (HX8.out _ _) _ _) Try.underlying31 rfl ?_) rfl ?_
          · kernel_rfl
          · rw [HR.out, HX.out]
            exact ⟨_, _, rfl, wf_nat (by omega), ((HD7.out.badden _).strIn hit.out _).1.frm (frm_two _ w.heap.size _ _) fun k hk e => by subst e; exact HN8.out true _ hk, (((((Went.of_keep kal).tr HPW.out).tr (Went.of_keep k7)).tr (HD7.out.went3 _)).tr ((HD7.out.badden _).strIn hit.out _).2).stx (frm_two _ w.heap.size _ _) (Nat.le_refl _)⟩
      · have HX := hide (show Em.fillP (Em.refQ f H) H n its.length (s.come n 6) = s.come n 6 from by unfold Em.fillP; rw [HT.out]; rfl)
        refine bodyPost_ret_by (results_cell_row rfl _ _ w.heap.size 31 _ (0, 0) _ rfl (heap_set2 hx6 _ _) Try.underlying31 rfl ?_) rfl ?_
        · kernel_rfl
        · rw [HR.out, HX.out]
          exact ⟨_, _, rfl, wf_nat (by omega), hdP.frm (frm_two _ w.heap.size _ _) fun k hk e => hnx6 (e ▸ hk), ((Went.of_keep kal).tr hwP).stx (frm_two _ w.heap.size _ _) (Nat.le_refl _)⟩
      · have HX := hide (show Em.fillP (Em.refQ f H) H n its.length (s.come n 7) = s.come n 7 from by unfold Em.fillP; rw [HT.out]; rfl)
        refine bodyPost_ret_by (results_cell_row rfl _ _ w.heap.size 31 _ (0, 0) _ rfl (heap_set2 hx6 _ _) Try.underlying31 rfl ?_) rfl ?_
        · kernel_rfl
        · rw [HR.out, HX.out]
          exact ⟨_, _, rfl, wf_nat (by omega), hdP.frm (frm_two _ w.heap.size _ _) fun k hk e => hnx6 (e ▸ hk), ((Went.of_keep kal).tr hwP).stx (frm_two _ w.heap.size _ _) (Nat.le_refl _)⟩
      · have HX := hide (show Em.fillP (Em.refQ f H) H n its.length (s.come n t) = ⟨(Em.kidsP (Em.refQ f H) (Em.blk H n).2 (s.come n t)).2.ws, (Em.kidsP (Em.refQ f H) (Em.blk H n).2 (s.come n t)).2.bl.modify its.length (fun b => b.kids! (Em.kidsP (Em.refQ f H) (Em.blk H n).2 (s.come n t)).1), (Em.kidsP (Em.refQ f H) (Em.blk H n).2 (s.come n t)).2.bad⟩ from by unfold Em.fillP; rw [HT.out, if_neg (by simpa using ⟨beq_eq_false_iff_ne.1 t0b, beq_eq_false_iff_ne.1 t8b⟩), if_neg t1, if_neg (by simpa using ⟨t6, t7⟩)])
        replace hil := hil t
        have hus : Em.uns U (s.come n t).ws < f := by
          have := Em.uns_snoc hU (Em.pos_none.1 hp)
          simp only [Em.Dw.come]
          omega
        have HWF := hide (hrep.blk n).2.1
        have hfl := (hrep.blk n).1
        have HU := hide (hUU n)
        obtain ⟨v, hv, HV⟩ := refFields0 hrep n hn
        have hBw : B ≤ W6.heap.size := by
          have := hdP.raw.lt dp (.inl rfl)
          omega
        have HD6 := hide hdP
        have HW6 := hide hwP
        have HX6 := hide hx6
        clear hdP hwP hx6 e0' e2' e3' z0 z1 y0 y1 HPS hit
        generalize hfs : (Em.blk H n).2 = fs at *
        clear hfs
        generalize hr : Em.refQ f H = r at *
        have HRR := hide hr
        clear hr
        refine (HV _ hk6).mono ?_
        rintro e w7 ⟨rfl, rfl⟩
        obtain ⟨fA, fc, rfl, q1, q2, q3⟩ := hv
        simp only [List.length_map, List.getElem_map] at q1 q3 ⊢
        go_wp2_with fail
        go_loopw [12, 13] (fun v i' W => ∃ k : Nat, k ≤ fs.length ∧ i' = .int .i64 (k : Int) ∧ KidsAt 92 B U dp mb (.pointer (some ⟨p, 0, none⟩)) W6 (.slice A3 (its.length + 1) c3) (its ++ [(⟨t, [], []⟩, .slice none 0 0)]) (s.come n t) (Em.kidsP r (fs.take k) (s.come n t)) v W) (fun _ i _ => fs.length - (intOf i).toNat)
        case atStart => exact ⟨0, Nat.zero_le _, rfl, _, _, HD6.out, Went.rf, own_nilR _ _, by simp [Value.ownBlock], by simp [Em.kidsP]⟩
        case round =>
          obtain ⟨k, hk, rfl, l1, its1, hd1, hw1, ho1, hn1, hwf1⟩ := hrel
          have hkw := hw1.low HD6.out hk6 hB
          obtain ⟨A1, c1, rfl⟩ := own_slice ho1
          have HD1 := hide hd1
          have HW1 := hide hw1
          have HO1 := hide ho1
          have HN1 := hide hn1
          have HWF1 := hide hwf1
          have hql := Em.kidsP_len r (fs.take k) (s.come n t)
          rw [List.length_take, Nat.min_eq_left hk] at hql
          have hqs := Em.kidsP_snoc r (fs.take k)
          by_cases hlt : k < fs.length
          · have hlti : (k : Int) < (fs.length : Int) := by omega
            obtain ⟨ad, rfl, hcell⟩ := q3 (by omega)
            have g0 := Keep.cell hkw (hcell k hlt)
            have HQ3 := hide q3
            have HQ := hide (hqs fs[k] (s.come n t))
            rw [← List.take_succ_eq_append_getElem hlt] at HQ
            have hxU := HU.out fs[k] (List.getElem_mem hlt)
            have hxw := HWF.out fs[k] (List.getElem_mem hlt)
            have hus1 : Em.uns U (Em.kidsP r (fs.take k) (s.come n t)).2.ws < f := Nat.lt_of_le_of_lt (Em.uns_pre hw1.pre) hus
            generalize Em.kidsP r (fs.take k) (s.come n t) = q at *
            generalize fs[k] = x at *
            obtain ⟨ks, s1⟩ := q
            simp only at hql
            subst hql
            have HREF := href wr l1 its1 s1 x hkw HD1.out hxU hxw hus1
            clear hd1 hw1 ho1 hn1 hwf1 hqs hxU hus1 hlt q3 hcell
            go_wp2_with fail
            refine HREF.mono ?_
            rintro e W2 ⟨l2, its2, rfl, hxr, hd2, hw2⟩
            rw [HRR.out] at hd2 hw2 hxr ⊢
            have ho2 := hw2.own HO1.out HN1.out
            have HD2 := hide hd2
            have HW2 := hide hw2
            have HO2 := hide ho2
            have HXR := hide hxr
            have hsz2 : W6.heap.size ≤ W2.heap.size := Nat.le_trans HW1.out.frm.size hw2.frm.size
            clear hd2 hw2 ho2 hxr HREF g0
            generalize (r x s1) = y at *
            obtain ⟨⟨y1, y2⟩, s2⟩ := y
            simp only at *
            go_wp2_with (first
              | (at_builtin; go_loud (refine wpList_app rfl (.tmp 125) (.tmp 132) 51 rfl W6.heap.size 31 _ 2 16 Try.underlying51 infoRf rfl (by omega) _ ks.length _ rfl (own_keep HO2.out (by repeat (first | exact Keep.rf _ | assumption | apply Keep.al | apply Keep.dr | apply Keep.dn))) _ 1 (refCells (y1, y2)) rfl (src_new2 W2 _ _ _ rfl) (ref_one _) (by simp only [maxLen]; omega) (by omega) (by rw [size_alloc]; omega) ?_); intro v3 w3 ha3; obtain ⟨A3, c3, e3⟩ := own_slice ha3.1; subst e3; have HA3 := hide ha3; clear ha3)
              | fail)
            have HKA := hide (KidsAt.push HD1.out HW1.out HN1.out HWF1.out HO1.out HD2.out HW2.out HXR.out (Keep.al (Keep.rf W2) _) HA3.out)
            go_roundw
            case rel => exact ⟨ks.length + 1, by omega, by go_num, by rw [HQ.out]; exact HKA.out⟩
            case measure => simp [intOf]; omega
          · have hlti : ¬ (k : Int) < (fs.length : Int) := by omega
            have hkn : k = fs.length := by omega
            have hqe : Em.kidsP r (fs.take k) (s.come n t) = Em.kidsP r fs (s.come n t) := by rw [hkn, List.take_length]
            rw [hqe] at hd1 hw1 ho1 hn1 hwf1 ⊢
            clear hqe HD1 HW1 HWF1 HO1 HN1
            generalize Em.kidsP r fs (s.come n t) = q at *
            have hi1 : its.length < its1.length := by
              have h1 := hw1.pre.length_le
              have h2 := hd1.wl
              have h3 := HD6.out.wl
              omega
            obtain ⟨g1, c1', rfl⟩ := hd1.at_ hi1
            have hit1 : its1[its.length]? = some (its1[its.length].1, its1[its.length].2) := List.getElem?_eq_getElem hi1
            obtain ⟨e0, e1⟩ := row_at hd1.raw.row hit1 2 _ rfl
            have d2 := top_cells hd1.raw.top 2
            have hend := hd1.kidsIn hit1 (own_lower ho1 hBw) hwf1 hn1 hw1 fun k e => (World.ownsRow.lt ho1 k e).1
            have hx8 := hend.2.heap hnx6 HX6.out
            have HN8 := hide (hend.2.out (Array.getElem?_eq_some_iff.1 HX6.out).1 hnx6)
            have y0 := top_cells hx8 0
            have y1 := top_cells hx8 1
            have z0 := top_free hx8 0
            have z1 := top_free hx8 1
            simp only [List.getElem?_toArray, List.getElem?_cons_succ, List.getElem?_cons_zero] at d2 y0 y1
            have HEND := hide hend
            have HX8 := hide hx8
            clear hd1 hw1 ho1 hn1 hwf1 hqs hql hend hx8 hil hit1 HN8 q3
            go_wp2_with fail
            refine bodyPost_ret_by (results_cell_row rfl _ _ w.heap.size 31 _ (0, 0) _ rfl (heap_set2 HX8.out _ _) Try.underlying31 rfl ?_) rfl ?_
            · kernel_rfl
            · rw [HR.out, HX.out]
              exact ⟨_, _, rfl, wf_nat (by omega), HEND.out.1.frm (frm_two _ w.heap.size _ _) fun k hk e => by subst e; exact (HEND.out.2.out (Array.getElem?_eq_some_iff.1 HX6.out).1 hnx6) hk, (((Went.of_keep kal).tr HW6.out).tr HEND.out.2).stx (frm_two _ w.heap.size _ _) (Nat.le_refl _)⟩
end Go.Proofs.Ytilhglnfjaablaa
