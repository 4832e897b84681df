/- Walks: the functions of the reference's heap. -/
import Derived.Test.YtoehaijmkmdggaaRefR
namespace Go.Proofs.Ytoehaijmkmdggaa
open Go.RowKit Go.Maps
set_option linter.unusedVariables false
set_option maxRecDepth 100000
/-- A Heap that was made. -/
def NewR (w : World) (sz : Nat) (e : Ending) (w' : World) : Prop := ∃ p S, e = .returned (.pointer (some ⟨p, 0, none⟩)) ∧ RRep w' p S sz [] ∧ (∀ k ∈ S, w.heap.size ≤ k) ∧ Keep w w'
theorem own_nil (w : World) (e size : Nat) : w.ownsRow 0 e size (.slice none 0 0) 0 [] := ⟨by simp, .inl ⟨rfl, rfl⟩⟩
theorem refNew (n : Nat) (w : World) (h : n ≤ 20000) : Calls Try.prog 28 #[.int .i64 (n : Int)] w (NewR w n) := by
  go_enter Try.func28, Try.ntmps28
  go_wp2
  go_ret
  refine ⟨w.heap.size, [w.heap.size], rfl, ⟨.slice none 0 0, .slice none 0 0, .slice none 0 0, [], by simp [footV, ownB, Value.ownBlock], { top := ?_, ra := own_nil _ _ _, rt := own_nil _ _ _, rf := own_nil _ _ _, len := rfl, part := fun i u l h => by simp at h, nodup := by simp [footV, ownB, Value.ownBlock] }, by simp, by simp [Em.used], h⟩, by simp, (by repeat (first | exact Keep.rf _ | assumption | apply Keep.al | apply Keep.dr | apply Keep.dn))⟩
  have := heap_alloc_new w (.cells #[.slice none 0 0, .slice none 0 0, .slice none 0 0, .int .i64 (n : Int)] 108)
  exact this
theorem refNew_no (n : Int) (w : World) (h : n < 0 ∨ 20000 < n) : Calls Try.prog 28 #[.int .i64 n] w fun e w' => e = .returned (.pointer none) ∧ w = w' := by
  rcases h with h | h
  all_goals
    go_enter Try.func28, Try.ntmps28
    go_wp2
    go_ret
    exact ⟨rfl, rfl⟩
theorem refUsed {p sz : Nat} {S : List Nat} {H : Em.Hp} (w : World) (h : RRep w p S sz H) : Calls Try.prog 54 #[.pointer (some ⟨p, 0, none⟩)] w fun e w' => e = .returned (.int .i64 (Em.used H : Int)) ∧ w = w' := by
  obtain ⟨a, t, f, fv, rfl, h, r⟩ := h
  have c0 := top_cells h.top 0
  simp only [List.getElem?_toArray, List.getElem?_cons_succ, List.getElem?_cons_zero] at c0
  obtain ⟨A, c, rfl⟩ := own_slice h.ra
  rw [Em.ats_length] at c0
  clear h r
  go_enter Try.func54, Try.ntmps54
  go_wp2
  go_ret
  exact ⟨rfl, rfl⟩
theorem refBlock {p sz : Nat} {S : List Nat} {H : Em.Hp} (w : World) (h : RRep w p S sz H) (n : Int) (hn : (Lit.int .i64 n).wf = true) : Calls Try.prog 112 #[.pointer (some ⟨p, 0, none⟩), .int .i64 n] w fun e w' => e = .returned (.int .i64 (Em.blkI H n)) ∧ w = w' := by
  have hb := in_i64 hn
  obtain ⟨a, t, f, fv, rfl, h, r⟩ := h
  have c0 := top_cells h.top 0
  simp only [List.getElem?_toArray, List.getElem?_cons_succ, List.getElem?_cons_zero] at c0
  have hsm : Em.used H ≤ 20000 := by omega
  by_cases ho : n % 2 = 1
  · have f1 : (n % 2 == 1) = true := by rw [ho]; rfl
    have hf := hide (Em.blkI_no (H := H) (.inl ho))
    clear ho h r c0
    go_enter Try.func112, Try.ntmps112
    go_wp2_with fail
    refine (refIsInt _ _).mono ?_
    rintro e w' ⟨rfl, rfl⟩
    rw [f1]
    go_wp2
    go_ret
    exact ⟨by first | (rw [hf.out]; done) | (rw [hf.out]; rfl), rfl⟩
  · have f1 : (n % 2 == 1) = false := by simpa using ho
    by_cases hl : n < 0
    · have hf := hide (Em.blkI_no (H := H) (.inr (.inl hl)))
      clear ho h r c0
      go_enter Try.func112, Try.ntmps112
      go_wp2_with fail
      refine (refIsInt _ _).mono ?_
      rintro e w' ⟨rfl, rfl⟩
      rw [f1]
      go_wp2
      go_ret
      exact ⟨by first | (rw [hf.out]; done) | (rw [hf.out]; rfl), rfl⟩
    · obtain ⟨k, rfl⟩ : ∃ k : Nat, n = 2 * (k : Int) := ⟨(n / 2).toNat, by omega⟩
      have hd : (2 * (k : Int)).tdiv 2 = (k : Int) := by rw [Int.tdiv_eq_ediv_of_nonneg (by omega)]; omega
      have hd2 : (2 * (k : Int)) / 2 = (k : Int) := by omega
      obtain ⟨hcs, -⟩ := Cs.of_own h.ra
      obtain ⟨A, c, rfl, q1, q2, q3⟩ := hcs
      simp only [List.length_map, Em.ats_length] at q1 q3 c0
      by_cases hk : k < Em.used H
      · obtain ⟨v, hv, hv2⟩ := Em.blkI_ats hk
        obtain ⟨ad, rfl, hc⟩ := q3 (by omega)
        have hcj := hc k hk
        rw [List.getElem_map] at hcj
        have hve : (Em.ats 0 H)[k]'(by rw [Em.ats_length]; exact hk) = v := by
          rw [List.getElem?_eq_getElem (by rw [Em.ats_length]; exact hk)] at hv
          injection hv
        rw [hve] at hcj
        have hvb : -1000000 ≤ v ∧ v ≤ 1000000 := by
          rcases Em.blk_of (H := H) (n := 2 * (k : Int)) with ⟨_, i, hi, e, _⟩ | ⟨e, _⟩
          · have hlu : H.length ≤ Em.used H := by
              have : ∀ G : Em.Hp, G.length ≤ Em.used G := fun G => by
                induction G with
                | nil => simp [Em.used]
                | cons b t ih => simp only [List.length_cons, Em.used]; omega
              exact this H
            omega
          · omega
        have HV := hide hv2
        clear hc q3 hv hv2 hve h r ho
        generalize Em.used H = U at *
        go_enter Try.func112, Try.ntmps112
        go_wp2_with fail
        refine (refIsInt _ _).mono ?_
        rintro e w' ⟨rfl, rfl⟩
        rw [f1]
        go_wp2
        go_ret
        exact ⟨by first | (rw [← HV.out]; done) | (rw [← HV.out]; rfl), rfl⟩
      · have hf := hide (Em.blkI_no (H := H) (n := 2 * (k : Int)) (.inr (.inr (by omega))))
        clear q3 h r ho
        generalize Em.used H = U at *
        go_enter Try.func112, Try.ntmps112
        go_wp2_with fail
        refine (refIsInt _ _).mono ?_
        rintro e w' ⟨rfl, rfl⟩
        rw [f1]
        go_wp2
        go_ret
        exact ⟨by first | (rw [hf.out]; done) | (rw [hf.out]; rfl), rfl⟩
theorem refTag {p sz : Nat} {S : List Nat} {H : Em.Hp} (w : World) (h : RRep w p S sz H) (n : Int) (hn : (Lit.int .i64 n).wf = true) : Calls Try.prog 90 #[.pointer (some ⟨p, 0, none⟩), .int .i64 n] w fun e w' => e = .returned (.int .i64 (Em.blk H n).1) ∧ w = w' := by
  have HB := refBlock w h n hn
  obtain ⟨a, t, f, fv, rfl, h, r⟩ := h
  rcases Em.blk_of (H := H) (n := n) with ⟨g0, i, hi, g1, g2, g3⟩ | ⟨g1, g2, g3⟩
  · have c0 := top_cells h.top 1
    simp only [List.getElem?_toArray, List.getElem?_cons_succ, List.getElem?_cons_zero] at c0
    obtain ⟨hcs, -⟩ := Cs.of_own h.rt
    obtain ⟨A, c, rfl, q1, q2, q3⟩ := hcs
    simp only [List.length_map] at q1 q3 c0
    obtain ⟨ad, rfl, hc⟩ := q3 (by omega)
    have hcj := hc i hi
    simp only [List.getElem_map] at hcj
    rw [g1] at HB
    have G2 := hide g2
    clear g0 g1 g2 g3 hc q3 h r
    go_enter Try.func90, Try.ntmps90
    go_wp2_with fail
    refine HB.mono ?_
    rintro e w' ⟨rfl, rfl⟩
    go_wp2
    go_ret
    exact ⟨by first | (rw [G2.out]; done) | (rw [G2.out]; rfl), rfl⟩
  · have G2 := hide g2
    rw [g1] at HB
    clear g1 g2 g3 h r
    go_enter Try.func90, Try.ntmps90
    go_wp2_with fail
    refine HB.mono ?_
    rintro e w' ⟨rfl, rfl⟩
    go_wp2
    go_ret
    exact ⟨by first | (rw [G2.out]; done) | (rw [G2.out]; rfl), rfl⟩
/-- Where a block's fields lie. -/
def fldV (fv : List Value) (H : Em.Hp) (n : Int) : Value := match Em.idx H n with
  | some i => fv.getD i (.slice none 0 0)
  | none => .slice none 0 0
theorem refFieldsV {p sz : Nat} {a t f : Value} {fv : List Value} {H : Em.Hp} (w : World) (h : RRaw w p sz a t f fv (Em.ats 0 H) (H.map (·.1)) (H.map (·.2))) (r : (∀ b ∈ H, (Lit.int .i64 b.1).wf = true ∧ ∀ f ∈ b.2, (Lit.int .i64 f).wf = true) ∧ Em.used H ≤ sz ∧ sz ≤ 20000) (n : Int) (hn : (Lit.int .i64 n).wf = true) : Calls Try.prog 86 #[.pointer (some ⟨p, 0, none⟩), .int .i64 n] w fun e w' => e = .returned (fldV fv H n) ∧ w = w' := by
  have HB := refBlock w ⟨a, t, f, fv, rfl, h, r⟩ n hn
  have hl := h.len
  simp only [List.length_map] at hl
  rcases Em.blk_of (H := H) (n := n) with ⟨g0, i, hi, g1, g2, g3⟩ | ⟨g1, g2, g3⟩
  · have c0 := top_cells h.top 2
    simp only [List.getElem?_toArray, List.getElem?_cons_succ, List.getElem?_cons_zero] at c0
    obtain ⟨hcs, -⟩ := Cs.of_own h.rf
    obtain ⟨A, c, rfl, q1, q2, q3⟩ := hcs
    obtain ⟨ad, rfl, hc⟩ := q3 (by omega)
    have hcj := hc i (by omega)
    rw [g1] at HB
    have G : fldV fv H n = fv[i]'(by omega) := by
      unfold fldV
      rw [g3]
      simp [List.getD_eq_getElem?_getD, List.getElem?_eq_getElem (show i < fv.length by omega)]
    have HG := hide G
    have hil : i < fv.length := by omega
    obtain ⟨q, A2, c2, e2⟩ : ∃ q A c, fv[i] = Value.slice A q c := by
      obtain ⟨A, c, e⟩ := own_slice (h.part i fv[i] ((H.map (·.2))[i]'(by simpa using hi)) (List.getElem?_eq_getElem hil) (List.getElem?_eq_getElem (by simpa using hi)))
      exact ⟨_, A, c, e⟩
    clear g0 g1 g2 g3 hc q3 h r G
    generalize fv[i] = u at *
    subst e2
    go_enter Try.func86, Try.ntmps86
    go_wp2_with fail
    refine HB.mono ?_
    rintro e w' ⟨rfl, rfl⟩
    go_wp2
    go_ret
    exact ⟨by first | (rw [HG.out]; done) | (rw [HG.out]; rfl), rfl⟩
  · have G : fldV fv H n = .slice none 0 0 := by
      unfold fldV
      rw [g3]
    have HG := hide G
    rw [g1] at HB
    clear g1 g2 g3 h r G
    go_enter Try.func86, Try.ntmps86
    go_wp2_with fail
    refine HB.mono ?_
    rintro e w' ⟨rfl, rfl⟩
    go_wp2
    go_ret
    exact ⟨by first | (rw [HG.out]; done) | (rw [HG.out]; rfl), rfl⟩
/-- The fields' row. -/
theorem fldV_own {p sz : Nat} {a t f : Value} {fv : List Value} {H : Em.Hp} {w : World} (h : RRaw w p sz a t f fv (Em.ats 0 H) (H.map (·.1)) (H.map (·.2))) (n : Int) : w.ownsRow 0 36 1 (fldV fv H n) (Em.blk H n).2.length ((Em.blk H n).2.map (Value.int .i64)) := by
  have hl := h.len
  simp only [List.length_map] at hl
  rcases Em.blk_of (H := H) (n := n) with ⟨g0, i, hi, g1, g2, g3⟩ | ⟨g1, g2, g3⟩
  · have hil : i < fv.length := by omega
    have := h.part i fv[i] ((H.map (·.2))[i]'(by simpa using hi)) (List.getElem?_eq_getElem hil) (List.getElem?_eq_getElem (by simpa using hi))
    rw [List.getElem_map] at this
    unfold fldV
    rw [g3, g2]
    simpa [List.getD_eq_getElem?_getD, List.getElem?_eq_getElem hil] using this
  · unfold fldV
    rw [g3, g2]
    exact own_nil _ _ _
theorem refFields {p sz : Nat} {S : List Nat} {H : Em.Hp} (w : World) (h : RRep w p S sz H) (n : Int) (hn : (Lit.int .i64 n).wf = true) : Calls Try.prog 86 #[.pointer (some ⟨p, 0, none⟩), .int .i64 n] w fun e w' => ∃ v, e = .returned v ∧ Is w' v (Em.blk H n).2 ∧ w = w' := by
  obtain ⟨a, t, f, fv, rfl, h, r⟩ := h
  refine (refFieldsV w h r n hn).mono ?_
  rintro e w' ⟨rfl, rfl⟩
  exact ⟨_, rfl, (Cs.of_own (fldV_own h n)).1, rfl⟩
/-- What Set does. -/
def SetR (w : World) (p : Nat) (S : List Nat) (sz : Nat) (H : Em.Hp) (n k v : Int) (e : Ending) (w' : World) : Prop := match Em.put H n k v with
  | none => e = .returned (.bool false) ∧ w = w'
  | some H' => e = .returned (.bool true) ∧ RRep w' p S sz H' ∧ Frm (· ∈ S) w w'
theorem ats_setF (s : Nat) (H : Em.Hp) (i k : Nat) (v : Int) : Em.ats s (Em.setF H i k v) = Em.ats s H := by
  have : ∀ (H G : Em.Hp) (s : Nat), H.map (fun b => b.2.length) = G.map (fun b => b.2.length) → Em.ats s H = Em.ats s G := by
    intro H
    induction H with
    | nil =>
      intro G s h
      cases G with
      | nil => rfl
      | cons c u => simp at h
    | cons b t ih =>
      intro G s h
      cases G with
      | nil => simp at h
      | cons c u =>
        simp only [List.map_cons, List.cons.injEq] at h
        simp only [Em.ats, h.1, ih u (s + 1) h.2]
  exact this _ _ s (Em.setF_shape H i k v)
theorem map1_setF (H : Em.Hp) (i k : Nat) (v : Int) : (Em.setF H i k v).map (·.1) = H.map (·.1) := by
  unfold Em.setF
  apply List.ext_getElem?
  intro j
  simp only [List.getElem?_map, List.getElem?_modify]
  cases H[j]? with
  | none => rfl
  | some b => by_cases h : i = j <;> simp [h]
theorem RRaw.set {w : World} {p sz : Nat} {a t f : Value} {fv : List Value} {H : Em.Hp} (h : RRaw w p sz a t f fv (Em.ats 0 H) (H.map (·.1)) (H.map (·.2))) {i g n cap : Nat} (hi : i < H.length) (hu : fv[i]? = some (.slice (some ⟨g, 0, none⟩) n cap)) (k : Nat) (v : Int) :
    RRaw (w.setCell ⟨g, k, none⟩ (.int .i64 v)) p sz a t f fv (Em.ats 0 (Em.setF H i k v)) ((Em.setF H i k v).map (·.1)) ((Em.setF H i k v).map (·.2)) := by
  rw [ats_setF, map1_setF]
  have hl := h.len
  simp only [List.length_map] at hl
  have hil : i < fv.length := by omega
  have hsp : fv = fv.take i ++ .slice (some ⟨g, 0, none⟩) n cap :: fv.drop (i + 1) := by
    have e := List.getElem?_eq_getElem hil
    rw [hu] at e
    injection e with e
    rw [e, ← List.drop_eq_getElem_cons hil, List.take_append_drop]
  have hnd := h.nodup
  have hm : Value.slice (some ⟨g, 0, none⟩) n cap ∈ fv := List.mem_of_getElem? hu
  have hne : ∀ u k', (u = a ∨ u = t ∨ u = f) → u.ownBlock = some k' → k' ≠ g := by
    intro u k' hu' hk
    rw [hsp] at hnd
    have e : a :: t :: f :: (fv.take i ++ Value.slice (some ⟨g, 0, none⟩) n cap :: fv.drop (i + 1)) = (a :: t :: f :: fv.take i) ++ .slice (some ⟨g, 0, none⟩) n cap :: fv.drop (i + 1) := by simp
    rw [e] at hnd
    exact footV_ne hnd (u := u) (.inl (by rcases hu' with h | h | h <;> simp [h])) hk rfl
  refine { top := ?_, ra := own_store h.ra fun k' hk => hne a k' (.inl rfl) hk, rt := own_store h.rt fun k' hk => hne t k' (.inr (.inl rfl)) hk, rf := own_store h.rf fun k' hk => hne f k' (.inr (.inr rfl)) hk, len := by simp [Em.setF, hl], part := fun j u l hu' hl' => ?_, nodup := h.nodup }
  · have : g ≠ p := footV_p h.nodup (v := .slice (some ⟨g, 0, none⟩) n cap) (by simp [hm]) rfl
    exact ((Frm.rf (· = g) w).st (p := ⟨g, k, none⟩) (.inl rfl) _).heap (fun e => this e.symm) h.top
  · simp only [Em.setF, List.getElem?_map, List.getElem?_modify] at hl'
    by_cases hij : i = j
    · subst hij
      rw [hu] at hu'
      injection hu' with hu'
      subst hu'
      rw [List.getElem?_eq_getElem hi] at hl'
      simp at hl'
      have hp := h.part i _ (H[i]).2 hu (by rw [List.getElem?_map, List.getElem?_eq_getElem hi]; rfl)
      subst hl'
      have hm : n = (H[i]).2.length := by
        obtain ⟨_, ⟨e, _⟩ | ⟨_, _, _, e, _⟩⟩ := hp
        · cases e
        · injection e
      subst hm
      simp only [List.length_set, List.map_set]
      exact (World.ownsRow.stored hp k (.int .i64 v)).1
    · cases hq : H[j]? with
      | none => rw [hq] at hl'; simp at hl'
      | some b =>
        rw [hq] at hl'
        simp [hij] at hl'
        subst hl'
        refine own_store (h.part j u b.2 hu' (by rw [List.getElem?_map, hq]; rfl)) fun k' hk => ?_
        rw [hsp] at hnd hu'
        have e : a :: t :: f :: (fv.take i ++ Value.slice (some ⟨g, 0, none⟩) n cap :: fv.drop (i + 1)) = (a :: t :: f :: fv.take i) ++ .slice (some ⟨g, 0, none⟩) n cap :: fv.drop (i + 1) := by simp
        rw [e] at hnd
        refine footV_ne hnd (u := u) ?_ hk rfl
        have htl : (fv.take i).length = i := by rw [List.length_take]; omega
        rcases Nat.lt_or_ge j i with hlt | hge
        · rw [List.getElem?_append_left (by omega)] at hu'
          exact .inl (by simp [List.mem_of_getElem? hu'])
        · rw [List.getElem?_append_right (by omega), htl] at hu'
          have : j - i = (j - i - 1) + 1 := by omega
          rw [this, List.getElem?_cons_succ] at hu'
          exact .inr (List.mem_of_getElem? hu')
theorem refSet {p sz : Nat} {S : List Nat} {H : Em.Hp} (w : World) (h : RRep w p S sz H) (n : Int) (hn : (Lit.int .i64 n).wf = true) (k v : Int) (hv : (Lit.int .i64 v).wf = true) : Calls Try.prog 57 #[.pointer (some ⟨p, 0, none⟩), .int .i64 n, .int .i64 k, .int .i64 v] w (SetR w p S sz H n k v) := by
  obtain ⟨a, t, f, fv, rfl, h, r⟩ := h
  have HB := refFieldsV w h r n hn
  have ho := fldV_own h n
  by_cases hk : k < 0 ∨ ((Em.blk H n).2.length : Int) ≤ k
  · have hf := hide (put_no (H := H) (n := n) (v := v) hk)
    obtain ⟨A, c, e⟩ := own_slice ho
    rw [e] at HB
    generalize (Em.blk H n).2.length = l at *
    clear h ho e r
    rcases hk with hk | hk
    all_goals
      go_enter Try.func57, Try.ntmps57
      go_wp2_with fail
      refine HB.mono ?_
      rintro e w' ⟨rfl, rfl⟩
      go_wp2
      go_ret
      unfold SetR
      rw [hf.out]
      exact ⟨rfl, rfl⟩
  · obtain ⟨j, rfl⟩ := Int.eq_ofNat_of_zero_le (show 0 ≤ k by omega)
    rcases Em.blk_of (H := H) (n := n) with ⟨g0, i, hi, g1, g2, g3⟩ | ⟨g1, g2, g3⟩
    · have hl := h.len
      simp only [List.length_map] at hl
      have hjl : j < (Em.blk H n).2.length := by omega
      have hf := hide (show Em.put H n (j : Int) v = some (Em.setF H i j v) from by
        unfold Em.put
        rw [g3]
        simp only
        rw [if_neg hk, Int.toNat_natCast])
      have hfe : fv[i]? = some (fldV fv H n) := by
        unfold fldV
        rw [g3]
        simp [List.getD_eq_getElem?_getD, List.getElem?_eq_getElem (show i < fv.length by omega)]
      have ho0 := ho
      obtain ⟨_, ⟨_, h00⟩ | ⟨g, c, cur, e, _, gh, _, _, _, _⟩⟩ := ho
      · omega
      · have hfz := top_free gh j
        obtain ⟨hcs, -⟩ := Cs.of_own ho0
        obtain ⟨A, c', e2, q1, q2, q3⟩ := hcs
        simp only [List.length_map] at e2 q1 q3
        rw [e] at e2 hfe HB
        injection e2 with e21 e22 e23
        subst e21 e23
        obtain ⟨ad, ead, hc⟩ := q3 (by omega)
        injection ead with ead
        subst ead
        have hcj := hc j (by omega)
        rw [add_pl] at hcj
        simp only [List.getElem_map] at hcj
        have hset := hide (h.set hi hfe j v)
        have hgf : g ∈ footV p (a :: t :: f :: fv) := mem_footV.2 (.inr ⟨_, List.mem_cons_of_mem _ (List.mem_cons_of_mem _ (List.mem_cons_of_mem _ (List.mem_of_getElem? hfe))), rfl⟩)
        have hints : ∀ b ∈ Em.setF H i j v, (Lit.int .i64 b.1).wf = true ∧ ∀ f ∈ b.2, (Lit.int .i64 f).wf = true := by
          intro c hc
          obtain ⟨q, hq⟩ := List.mem_iff_getElem?.1 hc
          simp only [Em.setF, List.getElem?_modify] at hq
          cases hq' : H[q]? with
          | none => rw [hq'] at hq; simp at hq
          | some d =>
            rw [hq'] at hq
            have hd := r.1 d (List.mem_of_getElem? hq')
            by_cases hij : i = q
            · simp [hij] at hq
              subst hq
              refine ⟨hd.1, fun f hf => ?_⟩
              rcases List.mem_or_eq_of_mem_set hf with hf | rfl
              · exact hd.2 f hf
              · exact hv
            · simp [hij] at hq
              subst hq
              exact hd
        have HI := hide hints
        have hus := hide (Em.used_shape (Em.setF_shape H i j v))
        have R2 := hide r.2
        clear hints g0 g1 g2 g3 h r ho0 e gh hc q3 e22 hk hfe hl
        generalize (Em.blk H n).2 = l at *
        go_enter Try.func57, Try.ntmps57
        go_wp2_with fail
        refine HB.mono ?_
        rintro e w' ⟨rfl, rfl⟩
        go_wp2
        go_ret
        unfold SetR
        rw [hf.out]
        exact ⟨rfl, ⟨a, t, f, fv, rfl, hset.out, HI.out, by rw [hus.out]; exact R2.out⟩, Frm.st (Frm.rf _ _) (.inl hgf) _⟩
    · rw [g2] at hk
      simp at hk
end Go.Proofs.Ytoehaijmkmdggaa
