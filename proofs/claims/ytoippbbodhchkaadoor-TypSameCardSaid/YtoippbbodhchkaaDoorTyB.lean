/- Walks: the vars of a type (the reference). -/
import Derived.Test.YtoippbbodhchkaaDoorTyA
namespace Go.Proofs.YtoippbbodhchkaaDoor
open Go.RowKit
open Em (Ty)
set_option linter.unusedVariables false
set_option maxRecDepth 100000
/-- A row was pushed upon, and nothing else was changed. -/
def Onto (v : Value) (w : World) (v' : Value) (w' : World) : Prop := Frm (fun k => v.ownBlock = some k) w w' ∧ ∀ q, v'.ownBlock = some q → v.ownBlock = some q ∨ w.heap.size ≤ q
theorem Onto.keep {v : Value} {w w' : World} (h : Keep w w') : Onto v w v w' := ⟨h.frm _, fun q e => .inl e⟩
theorem Onto.tr {v v1 v2 : Value} {w w1 w2 : World} (h : Onto v w v1 w1) (k : Onto v1 w1 v2 w2) : Onto v w v2 w2 := ⟨h.1.trn k.1 fun i e => h.2 i e, fun q e => (k.2 q e).elim (h.2 q) fun hs => .inr (Nat.le_trans h.1.size hs)⟩
theorem Onto.of {v v' : Value} {w w' : World} (h : w.grownBy w' v.ownBlock) (ha : v'.ownBlock = v.ownBlock ∨ v'.ownBlock = some w.heap.size) : Onto v w v' w' := ⟨Frm.of_grown h fun _ e => e, fun q e => ha.elim (fun h => .inl (h ▸ e)) fun h => .inr (by rw [h] at e; cases e; exact Nat.le_refl _)⟩
set_option maxHeartbeats 2000000 in
theorem refVars1 (d : Nat) : ∀ (t : Ty) (w0 w : World) (cs : List Value) (l : List Int) (v : Value), TyK d w0 cs t → Grew w0 v l w → (Em.varsT l t).length ≤ 1000000 → Calls Tryd.prog 41 #[.agg cs.toArray, v] w fun e w' => ∃ v', e = .returned v' ∧ Grew w0 v' (Em.varsT l t) w' ∧ Onto v w v' w' := by
  induction d with
  | zero => intro t w0 w cs l v h; exact h.elim
  | succ d ih =>
    intro t w0 w cs l v h hg hb
    obtain ⟨kv, rfl, hn, A, c, rfl, hlc, hcm, hr⟩ := h
    have IH := hide ih
    clear ih
    have hV : Em.varsT l t = Em.varsL (if t.op = Em.wVar ∧ t.n ∉ l then l ++ [t.n] else l) t.kids := by cases t; rfl
    have HV := hide hV
    clear hV
    generalize Em.varsT l t = R at *
    generalize t.op = o at *
    generalize t.n = n at *
    generalize t.kids = ks at *
    have HG0 := hide hg
    obtain ⟨ho, hk⟩ := hg
    obtain ⟨vA, vc, rfl⟩ := own_slice ho
    have HO := hide ho
    have HL := hide (fun i e => (World.ownsRow.lt ho i e).2)
    clear ho
    have CB : Hid ((w.alloc (.cells #[.string (str o), .int .i64 n, .slice A ks.length c] 24)).cell? ⟨w.heap.size, 2, none⟩ = some (.slice A ks.length c)) := hide ((top_cells (heap_alloc_new w _) 2).trans rfl)
    by_cases h1 : o = [118, 97, 114]
    · have h1c : (str o).toList = [118, 97, 114] := by rw [str_list, h1]
      have H1 := hide h1
      clear h1
      have HC := hide (fun W (k : Keep w W) => refHas l n W _ (is_own (own_keep HO.out k)))
      by_cases h2 : n ∈ l
      · have h2b : (decide (n ∈ l)) = true := decide_eq_true h2
        have HV1 := hide (show R = Em.varsL l ks from by rw [HV.out, if_neg fun h => h.2 h2])
        clear HV h2
        go_enter Tryd.func41, Tryd.ntmps41
        go_wp2_with fail
        refine (HC.out _ (by repeat (first | exact Keep.rf _ | assumption | apply Keep.al | apply Keep.dr | apply Keep.dn))).mono ?_
        rintro e w' ⟨rfl, rfl⟩
        go_wp2_with fail
        go_loopw [1, 5] (fun v i W => ∃ (j : Nat) (L : List Int), j ≤ ks.length ∧ i = .int .i64 j ∧ R = Em.varsL L (ks.drop j) ∧ Grew w0 v L W ∧ Onto (.slice vA l.length vc) (w.alloc (.cells #[.string (str o), .int .i64 n, .slice A ks.length c] 24)) v W) (fun _ i _ => ks.length - (intOf i).toNat)
        case atStart => exact ⟨0, l, by omega, rfl, HV1.out, HG0.out.keep (by repeat (first | exact Keep.rf _ | assumption | apply Keep.al | apply Keep.dr | apply Keep.dn)), Onto.keep (by repeat (first | exact Keep.rf _ | assumption | apply Keep.al | apply Keep.dr | apply Keep.dn))⟩
        case round =>
          obtain ⟨j, L, hj, rfl, hx, hgw, hon⟩ := hrel
          have HX := hide hx
          have HG := hide hgw
          obtain ⟨lo, lk⟩ := hgw
          have cb := hon.1.cell (a := ⟨w.heap.size, 2, none⟩) (fun e => Nat.lt_irrefl _ (HL.out _ e)) CB.out
          have HN := hide hon
          obtain ⟨lA, lc, rfl⟩ := own_slice lo
          clear hx lo hon
          by_cases hlt : j < ks.length
          · obtain ⟨ad, rfl, hcell⟩ := hr (by omega)
            obtain ⟨cs, hcs, hcl, hkt⟩ := hcell j hlt
            have hkt0 := hide hkt
            have hdr := hide (List.drop_eq_getElem_cons hlt)
            generalize ks[j] = kt at *
            cases d with
            | zero => exact hkt.elim
            | succ d =>
              obtain ⟨kv, rfl, kn, kA, kc, rfl, _⟩ := hkt
              have c0 := Keep.cell lk (hcl 0 _ rfl)
              rw [Nat.add_zero] at c0
              have c1 := cell_off (Keep.cell lk (hcl 1 _ rfl))
              have c2 := cell_off (Keep.cell lk (hcl 2 _ rfl))
              clear hcell hcl hr
              have hon : R = Em.varsL (Em.varsT L kt) (ks.drop (j + 1)) := by
                rw [HX.out, hdr.out, Em.varsL]
              have HON := hide hon
              have hlen : (Em.varsT L kt).length ≤ 1000000 := by
                rw [hon] at hb
                exact Nat.le_trans (varsL_len _ _) hb
              clear hon
              have HLEN := hide hlen
              clear hlen
              go_wp2_with fail
              refine (IH.out kt w0 _ _ L _ hkt0.out (HG.out.keep (by repeat (first | exact Keep.rf _ | assumption | apply Keep.al | apply Keep.dr | apply Keep.dn))) HLEN.out).mono ?_
              rintro e w' ⟨v2, rfl, hg2, hn2⟩
              have HG2 := hide hg2
              have HN2 := hide (Onto.tr (Onto.tr HN.out (Onto.keep (by repeat (first | exact Keep.rf _ | assumption | apply Keep.al | apply Keep.dr | apply Keep.dn)))) hn2)
              clear hg2 hn2
              go_wp2_with fail
              go_roundw
              case rel => exact ⟨j + 1, _, by omega, by go_num, HON.out, HG2.out, HN2.out⟩
              case measure => simp [intOf]; omega
          · have hfin := hide (show R = L from by rw [HX.out, List.drop_of_length_le (by omega)]; rfl)
            go_wp2_with fail
            go_ret
            exact ⟨_, rfl, by rw [hfin.out]; exact HG.out, Onto.tr (Onto.keep (by repeat (first | exact Keep.rf _ | assumption | apply Keep.al | apply Keep.dr | apply Keep.dn))) HN.out⟩
      · have h2b : (decide (n ∈ l)) = false := decide_eq_false h2
        have HV1 := hide (show R = Em.varsL (l ++ [n]) ks from by rw [HV.out, if_pos ⟨H1.out, h2⟩])
        clear HV h2
        have hll : l.length ≤ 1000000 := by
          have := varsL_len (l ++ [n]) ks
          rw [← HV1.out, List.length_append] at this
          omega
        go_enter Tryd.func41, Tryd.ntmps41
        go_wp2_with fail
        refine (HC.out _ (by repeat (first | exact Keep.rf _ | assumption | apply Keep.al | apply Keep.dr | apply Keep.dn))).mono ?_
        rintro e w' ⟨rfl, rfl⟩
        go_wp2_with (first
          | (at_builtin; go_loud (refine appInts l [n] rfl (.tmp 16) (.tmp 19) _ _ _ _ Tryd.underlying28 tyInfoI rfl (by omega) rfl w0.heap.size _ rfl ?own _ rfl ?lit ?siz ?len ?go; (case own => exact own_keep HO.out (by repeat (first | exact Keep.rf _ | assumption | apply Keep.al | apply Keep.dr | apply Keep.dn))); (case lit => exact Cs.lit _ rfl (by simp) rfl (by simp) (by simp)); (case siz => exact (Keep.tr hk (by repeat (first | exact Keep.rf _ | assumption | apply Keep.al | apply Keep.dr | apply Keep.dn))).size); (case len => simp; omega); intro v2 w2 ho2 hg2 hat2; have hkA := Keep.tr hk (show Keep w ((w.alloc (.cells #[.string (str o), .int .i64 n, .slice A ks.length c] 24)).alloc (.cells #[.int .i64 n] 3)) from (by repeat (first | exact Keep.rf _ | assumption | apply Keep.al | apply Keep.dr | apply Keep.dn))); have hF := Frm.of_grown (S := fun k => (Value.slice vA l.length vc).ownBlock = some k) hg2 (fun _ e => e); have hk2 : Keep w0 w2 := Frm.keep hkA hF (fun i e => (World.ownsRow.lt HO.out i e).1); have HN2 := hide (Onto.tr (Onto.keep (Keep.al (Keep.rf (w.alloc (.cells #[.string (str o), .int .i64 n, .slice A ks.length c] 24))) (.cells #[.int .i64 n] 3))) (Onto.of hg2 hat2)); have HG2 := hide (show Grew w0 v2 (l ++ [n]) w2 from ⟨by simpa using ho2, hk2⟩); obtain ⟨A2, c2, rfl⟩ := own_slice ho2; simp only [List.length_append, List.length_cons, List.length_nil, Nat.zero_add] at HG2 HN2; clear ho2 hg2 hat2 hF hkA))
          | fail)
        go_loopw [1, 5] (fun v i W => ∃ (j : Nat) (L : List Int), j ≤ ks.length ∧ i = .int .i64 j ∧ R = Em.varsL L (ks.drop j) ∧ Grew w0 v L W ∧ Onto (.slice vA l.length vc) (w.alloc (.cells #[.string (str o), .int .i64 n, .slice A ks.length c] 24)) v W) (fun _ i _ => ks.length - (intOf i).toNat)
        case atStart => exact ⟨0, (l ++ [n]), by omega, rfl, HV1.out, HG2.out, HN2.out⟩
        case round =>
          obtain ⟨j, L, hj, rfl, hx, hgw, hon⟩ := hrel
          have HX := hide hx
          have HG := hide hgw
          obtain ⟨lo, lk⟩ := hgw
          have cb := hon.1.cell (a := ⟨w.heap.size, 2, none⟩) (fun e => Nat.lt_irrefl _ (HL.out _ e)) CB.out
          have HN := hide hon
          obtain ⟨lA, lc, rfl⟩ := own_slice lo
          clear hx lo hon
          by_cases hlt : j < ks.length
          · obtain ⟨ad, rfl, hcell⟩ := hr (by omega)
            obtain ⟨cs, hcs, hcl, hkt⟩ := hcell j hlt
            have hkt0 := hide hkt
            have hdr := hide (List.drop_eq_getElem_cons hlt)
            generalize ks[j] = kt at *
            cases d with
            | zero => exact hkt.elim
            | succ d =>
              obtain ⟨kv, rfl, kn, kA, kc, rfl, _⟩ := hkt
              have c0 := Keep.cell lk (hcl 0 _ rfl)
              rw [Nat.add_zero] at c0
              have c1 := cell_off (Keep.cell lk (hcl 1 _ rfl))
              have c2 := cell_off (Keep.cell lk (hcl 2 _ rfl))
              clear hcell hcl hr
              have hon : R = Em.varsL (Em.varsT L kt) (ks.drop (j + 1)) := by
                rw [HX.out, hdr.out, Em.varsL]
              have HON := hide hon
              have hlen : (Em.varsT L kt).length ≤ 1000000 := by
                rw [hon] at hb
                exact Nat.le_trans (varsL_len _ _) hb
              clear hon
              have HLEN := hide hlen
              clear hlen
              go_wp2_with fail
              refine (IH.out kt w0 _ _ L _ hkt0.out (HG.out.keep (by repeat (first | exact Keep.rf _ | assumption | apply Keep.al | apply Keep.dr | apply Keep.dn))) HLEN.out).mono ?_
              rintro e w' ⟨v2, rfl, hg2, hn2⟩
              have HG2 := hide hg2
              have HN2 := hide (Onto.tr (Onto.tr HN.out (Onto.keep (by repeat (first | exact Keep.rf _ | assumption | apply Keep.al | apply Keep.dr | apply Keep.dn)))) hn2)
              clear hg2 hn2
              go_wp2_with fail
              go_roundw
              case rel => exact ⟨j + 1, _, by omega, by go_num, HON.out, HG2.out, HN2.out⟩
              case measure => simp [intOf]; omega
          · have hfin := hide (show R = L from by rw [HX.out, List.drop_of_length_le (by omega)]; rfl)
            go_wp2_with fail
            go_ret
            exact ⟨_, rfl, by rw [hfin.out]; exact HG.out, Onto.tr (Onto.keep (by repeat (first | exact Keep.rf _ | assumption | apply Keep.al | apply Keep.dr | apply Keep.dn))) HN.out⟩
    · have h1b : ((str o).toList == [118, 97, 114]) = false := by rw [opB]; simp [h1]
      have HV1 := hide (show R = Em.varsL l ks from by rw [HV.out, if_neg fun h => h1 h.1])
      clear HV
      go_enter Tryd.func41, Tryd.ntmps41
      go_wp2_with fail
      go_loopw [1, 5] (fun v i W => ∃ (j : Nat) (L : List Int), j ≤ ks.length ∧ i = .int .i64 j ∧ R = Em.varsL L (ks.drop j) ∧ Grew w0 v L W ∧ Onto (.slice vA l.length vc) (w.alloc (.cells #[.string (str o), .int .i64 n, .slice A ks.length c] 24)) v W) (fun _ i _ => ks.length - (intOf i).toNat)
      case atStart => exact ⟨0, l, by omega, rfl, HV1.out, HG0.out.keep (by repeat (first | exact Keep.rf _ | assumption | apply Keep.al | apply Keep.dr | apply Keep.dn)), Onto.keep (by repeat (first | exact Keep.rf _ | assumption | apply Keep.al | apply Keep.dr | apply Keep.dn))⟩
      case round =>
        obtain ⟨j, L, hj, rfl, hx, hgw, hon⟩ := hrel
        have HX := hide hx
        have HG := hide hgw
        obtain ⟨lo, lk⟩ := hgw
        have cb := hon.1.cell (a := ⟨w.heap.size, 2, none⟩) (fun e => Nat.lt_irrefl _ (HL.out _ e)) CB.out
        have HN := hide hon
        obtain ⟨lA, lc, rfl⟩ := own_slice lo
        clear hx lo hon
        by_cases hlt : j < ks.length
        · obtain ⟨ad, rfl, hcell⟩ := hr (by omega)
          obtain ⟨cs, hcs, hcl, hkt⟩ := hcell j hlt
          have hkt0 := hide hkt
          have hdr := hide (List.drop_eq_getElem_cons hlt)
          generalize ks[j] = kt at *
          cases d with
          | zero => exact hkt.elim
          | succ d =>
            obtain ⟨kv, rfl, kn, kA, kc, rfl, _⟩ := hkt
            have c0 := Keep.cell lk (hcl 0 _ rfl)
            rw [Nat.add_zero] at c0
            have c1 := cell_off (Keep.cell lk (hcl 1 _ rfl))
            have c2 := cell_off (Keep.cell lk (hcl 2 _ rfl))
            clear hcell hcl hr
            have hon : R = Em.varsL (Em.varsT L kt) (ks.drop (j + 1)) := by
              rw [HX.out, hdr.out, Em.varsL]
            have HON := hide hon
            have hlen : (Em.varsT L kt).length ≤ 1000000 := by
              rw [hon] at hb
              exact Nat.le_trans (varsL_len _ _) hb
            clear hon
            have HLEN := hide hlen
            clear hlen
            go_wp2_with fail
            refine (IH.out kt w0 _ _ L _ hkt0.out (HG.out.keep (by repeat (first | exact Keep.rf _ | assumption | apply Keep.al | apply Keep.dr | apply Keep.dn))) HLEN.out).mono ?_
            rintro e w' ⟨v2, rfl, hg2, hn2⟩
            have HG2 := hide hg2
            have HN2 := hide (Onto.tr (Onto.tr HN.out (Onto.keep (by repeat (first | exact Keep.rf _ | assumption | apply Keep.al | apply Keep.dr | apply Keep.dn)))) hn2)
            clear hg2 hn2
            go_wp2_with fail
            go_roundw
            case rel => exact ⟨j + 1, _, by omega, by go_num, HON.out, HG2.out, HN2.out⟩
            case measure => simp [intOf]; omega
        · have hfin := hide (show R = L from by rw [HX.out, List.drop_of_length_le (by omega)]; rfl)
          go_wp2_with fail
          go_ret
          exact ⟨_, rfl, by rw [hfin.out]; exact HG.out, Onto.tr (Onto.keep (by repeat (first | exact Keep.rf _ | assumption | apply Keep.al | apply Keep.dr | apply Keep.dn))) HN.out⟩
theorem refVars (t : Ty) (w : World) (v : Value) (h : TyV w v t) (hb : (Em.varsT [] t).length ≤ 1000000) : Calls Tryd.prog 18 #[v] w fun e w' => ∃ v', e = .returned v' ∧ Grew w v' (Em.varsT [] t) w' := by
  obtain ⟨d, cs, rfl, h⟩ := h
  have H := hide (fun W (k : Keep w W) => refVars1 d t w W cs [] _ h ((grew_nil w).keep k) hb)
  cases d with
  | zero => exact h.elim
  | succ d =>
    obtain ⟨kv, rfl, kn, kA, kc, rfl, _⟩ := h
    generalize Em.varsT [] t = R at *
    go_enter Tryd.func18, Tryd.ntmps18
    go_wp2_with fail
    refine (H.out _ (by repeat (first | exact Keep.rf _ | assumption | apply Keep.al | apply Keep.dr | apply Keep.dn))).mono ?_
    rintro e w' ⟨v2, rfl, hg2, _⟩
    have HG := hide hg2
    clear hg2
    go_wp2
    go_ret
    exact ⟨_, rfl, HG.out⟩
end Go.Proofs.YtoippbbodhchkaaDoor
