/- Walks: the vars of a type (package typ). -/
import Derived.Test.YtoippbbodhchkaaDoorTyV
import Derived.Test.YtoippbbodhchkaaDoorLibF
namespace Go.Proofs.YtoippbbodhchkaaDoor
open Go.RowKit
open Em (Ty)
set_option linter.unusedVariables false
set_option maxRecDepth 100000
section
variable {P : Program}
theorem appInts {w : World} {ops : Array Oper} {rest : List Oper} {o : Oper} {a : Act} {Q : Exit → Act → World → Prop} (l m : List Int) (hgd : o.guard = none) (s x : Operand) (t e : TypeId) (z : Value) (bytes : Nat) (ht : P.underlying t = some (.slice e))
    (hinfo : (P.info? e).map (fun i => (i.zero, i.size, i.bytes)) = some (some z, 1, bytes)) (hz : z.cells.size = 1) (hb : bytes ≤ 1000) (ho : o.op = .call { callee := .builtin .append, args := #[s, x], argTypes := #[t, t] })
    (base : Nat) (v : Value) (hs : a.eval s = v) (hown : w.ownsRow base e 1 v l.length (l.map (Value.int .i64))) (y : Value) (hx : a.eval x = y) (hy : Is w y m) (hbase : base ≤ w.heap.size) (hl : l.length + m.length ≤ 1000000000)
    (h : ∀ v' w', w'.ownsRow base e 1 v' (l ++ m).length ((l ++ m).map (Value.int .i64)) → w.grownBy w' v.ownBlock → (v'.ownBlock = v.ownBlock ∨ v'.ownBlock = some w.heap.size) → wpList P ops Q rest (a.put o.dst v') w') : wpList P ops Q (o :: rest) a w :=
  app1 hgd s x t e z bytes ht hinfo hz hb ho base v (l.map (Value.int .i64)) hs (by rw [List.length_map]; exact hown) y (m.map (Value.int .i64)) hx hy (int_one m) hbase (by simpa using hl) fun v' w' h1 h2 h3 => h v' w' (by rw [← List.map_append, List.length_map] at h1; exact h1) h2 h3
end
mutual
theorem vars_len (l : List Int) (t : Ty) : l.length ≤ (Em.varsT l t).length := by
  cases t with
  | mk o n ks =>
    rw [Em.varsT]
    split
    · have := varsL_len (l ++ [n]) ks
      simp at this
      omega
    · exact varsL_len l ks
theorem varsL_len (l : List Int) (ks : List Ty) : l.length ≤ (Em.varsL l ks).length := by
  cases ks with
  | nil => exact Nat.le_refl _
  | cons k ks =>
    rw [Em.varsL]
    exact Nat.le_trans (vars_len l k) (varsL_len _ ks)
end
theorem is_own {w : World} {base e : Nat} {v : Value} {l : List Int} (h : w.ownsRow base e 1 v l.length (l.map (Value.int .i64))) : Is w v l := (Cs.of_own h).1
/-- What adds gives: a row of its caller's own. -/
def Grew (w0 : World) (v : Value) (l : List Int) (w : World) : Prop := w.ownsRow w0.heap.size 3 1 v l.length (l.map (Value.int .i64)) ∧ Keep w0 w
theorem Grew.keep {w0 w w' : World} {v : Value} {l : List Int} (h : Grew w0 v l w) (k : Keep w w') : Grew w0 v l w' := ⟨own_keep h.1 k, Keep.tr h.2 k⟩
set_option maxHeartbeats 2000000 in
theorem typAdds (d : Nat) : ∀ (t : Ty) (w0 w : World) (cs : List Value) (l : List Int) (v : Value), TyK d w0 cs t → Grew w0 v l w → (Em.varsT l t).length ≤ 1000000 → Calls Tryd.prog 40 #[v, .agg cs.toArray] w fun e w' => ∃ v', e = .returned v' ∧ Grew w0 v' (Em.varsT l t) w' := by
  induction d with
  | zero => intro t w0 w cs l v h; exact h.elim
  | succ d ih =>
    intro t w0 w cs l v h hg hb
    obtain ⟨kv, rfl, hn, A, c, rfl, hlc, hcm, hr⟩ := h
    have IH := hide ih
    clear ih
    have hV : Em.varsT l t = Em.varsL (if t.op = Em.wVar ∧ t.n ∉ l then l ++ [t.n] else l) t.kids := by cases t; rfl
    have HV := hide hV
    clear hV
    generalize Em.varsT l t = R at *
    generalize t.op = o at *
    generalize t.n = n at *
    generalize t.kids = ks at *
    have HG0 := hide hg
    obtain ⟨ho, hk⟩ := hg
    obtain ⟨vA, vc, rfl⟩ := own_slice ho
    have HO := hide ho
    clear ho
    by_cases h1 : o = [118, 97, 114]
    · have h1c : (str o).toList = [118, 97, 114] := by rw [str_list, h1]
      have H1 := hide h1
      clear h1
      have HC := hide (fun W (k : Keep w W) => tyContains l n W _ (is_own (own_keep HO.out k)))
      by_cases h2 : n ∈ l
      · have h2b : (decide (n ∈ l)) = true := decide_eq_true h2
        have HV1 := hide (show R = Em.varsL l ks from by rw [HV.out, if_neg fun h => h.2 h2])
        clear HV h2
        go_enter Tryd.func40, Tryd.ntmps40
        go_wp2_with fail
        refine (HC.out _ (by repeat (first | exact Keep.rf _ | assumption | apply Keep.al | apply Keep.dr | apply Keep.dn))).mono ?_
        rintro e w' ⟨rfl, rfl⟩
        go_wp2_with fail
        go_loopw [0, 25] (fun v i W => ∃ (j : Nat) (L : List Int), j ≤ ks.length ∧ i = .int .i64 j ∧ R = Em.varsL L (ks.drop j) ∧ Grew w0 v L W) (fun _ i _ => ks.length - (intOf i).toNat)
        case atStart => exact ⟨0, l, by omega, rfl, HV1.out, HG0.out.keep (by repeat (first | exact Keep.rf _ | assumption | apply Keep.al | apply Keep.dr | apply Keep.dn))⟩
        case round =>
          obtain ⟨j, L, hj, rfl, hx, hgw⟩ := hrel
          have HX := hide hx
          have HG := hide hgw
          obtain ⟨lo, lk⟩ := hgw
          obtain ⟨lA, lc, rfl⟩ := own_slice lo
          clear hx lo
          by_cases hlt : j < ks.length
          · obtain ⟨ad, rfl, hcell⟩ := hr (by omega)
            obtain ⟨cs, hcs, hcl, hkt⟩ := hcell j hlt
            have hkt0 := hide hkt
            have hdr := hide (List.drop_eq_getElem_cons hlt)
            generalize ks[j] = kt at *
            cases d with
            | zero => exact hkt.elim
            | succ d =>
              obtain ⟨kv, rfl, kn, kA, kc, rfl, _⟩ := hkt
              have c0 := Keep.cell lk (hcl 0 _ rfl)
              rw [Nat.add_zero] at c0
              have c1 := cell_off (Keep.cell lk (hcl 1 _ rfl))
              have c2 := cell_off (Keep.cell lk (hcl 2 _ rfl))
              clear hcell hcl hr
              have hon : R = Em.varsL (Em.varsT L kt) (ks.drop (j + 1)) := by
                rw [HX.out, hdr.out, Em.varsL]
              have HON := hide hon
              have hlen : (Em.varsT L kt).length ≤ 1000000 := by
                rw [hon] at hb
                exact Nat.le_trans (varsL_len _ _) hb
              clear hon
              have HLEN := hide hlen
              clear hlen
              go_wp2_with fail
              refine (IH.out kt w0 _ _ L _ hkt0.out (HG.out.keep (by repeat (first | exact Keep.rf _ | assumption | apply Keep.al | apply Keep.dr | apply Keep.dn))) HLEN.out).mono ?_
              rintro e w' ⟨v2, rfl, hg2⟩
              have HG2 := hide hg2
              clear hg2
              go_wp2_with fail
              go_roundw
              case rel => exact ⟨j + 1, _, by omega, by go_num, HON.out, HG2.out⟩
              case measure => simp [intOf]; omega
          · have hfin := hide (show R = L from by rw [HX.out, List.drop_of_length_le (by omega)]; rfl)
            go_wp2_with fail
            go_ret
            exact ⟨_, rfl, by rw [hfin.out]; exact HG.out⟩
      · have h2b : (decide (n ∈ l)) = false := decide_eq_false h2
        have HV1 := hide (show R = Em.varsL (l ++ [n]) ks from by rw [HV.out, if_pos ⟨H1.out, h2⟩])
        clear HV h2
        have hll : l.length ≤ 1000000 := by
          have := varsL_len (l ++ [n]) ks
          rw [← HV1.out, List.length_append] at this
          omega
        go_enter Tryd.func40, Tryd.ntmps40
        go_wp2_with fail
        refine (HC.out _ (by repeat (first | exact Keep.rf _ | assumption | apply Keep.al | apply Keep.dr | apply Keep.dn))).mono ?_
        rintro e w' ⟨rfl, rfl⟩
        go_wp2_with (first
          | (at_builtin; go_loud (refine appInts l [n] rfl (.tmp 17) (.tmp 20) _ _ _ _ Tryd.underlying28 tyInfoI rfl (by omega) rfl w0.heap.size _ rfl ?own _ rfl ?lit ?siz ?len ?go; (case own => exact own_keep HO.out (by repeat (first | exact Keep.rf _ | assumption | apply Keep.al | apply Keep.dr | apply Keep.dn))); (case lit => exact Cs.lit _ rfl (by simp) rfl (by simp) (by simp)); (case siz => exact (Keep.tr hk (by repeat (first | exact Keep.rf _ | assumption | apply Keep.al | apply Keep.dr | apply Keep.dn))).size); (case len => simp; omega); intro v2 w2 ho2 hg2 hat2; have hkA := Keep.tr hk (show Keep w ((w.alloc (.cells #[.string (str o), .int .i64 n, .slice A ks.length c] 24)).alloc (.cells #[.int .i64 n] 3)) from (by repeat (first | exact Keep.rf _ | assumption | apply Keep.al | apply Keep.dr | apply Keep.dn))); have hF := Frm.of_grown (S := fun k => (Value.slice vA l.length vc).ownBlock = some k) hg2 (fun _ e => e); have hlt := World.ownsRow.lt HO.out; have hk2 : Keep w0 w2 := Frm.keep hkA hF (fun i e => (hlt i e).1); have tc2 : w2.cell? ⟨w.heap.size, 2, none⟩ = some (.slice A ks.length c) := hF.cell (fun e => Nat.lt_irrefl _ (hlt _ e).2) (Keep.cell (Keep.al (Keep.rf _) _) ((top_cells (heap_alloc_new w _) 2).trans rfl)); have HG2 := hide (show Grew w0 v2 (l ++ [n]) w2 from ⟨by simpa using ho2, hk2⟩); obtain ⟨A2, c2, rfl⟩ := own_slice ho2; simp only [List.length_append, List.length_cons, List.length_nil, Nat.zero_add] at HG2; clear ho2 hg2 hat2 hF hkA hlt))
          | fail)
        go_loopw [0, 25] (fun v i W => ∃ (j : Nat) (L : List Int), j ≤ ks.length ∧ i = .int .i64 j ∧ R = Em.varsL L (ks.drop j) ∧ Grew w0 v L W) (fun _ i _ => ks.length - (intOf i).toNat)
        case atStart => exact ⟨0, (l ++ [n]), by omega, rfl, HV1.out, HG2.out⟩
        case round =>
          obtain ⟨j, L, hj, rfl, hx, hgw⟩ := hrel
          have HX := hide hx
          have HG := hide hgw
          obtain ⟨lo, lk⟩ := hgw
          obtain ⟨lA, lc, rfl⟩ := own_slice lo
          clear hx lo
          by_cases hlt : j < ks.length
          · obtain ⟨ad, rfl, hcell⟩ := hr (by omega)
            obtain ⟨cs, hcs, hcl, hkt⟩ := hcell j hlt
            have hkt0 := hide hkt
            have hdr := hide (List.drop_eq_getElem_cons hlt)
            generalize ks[j] = kt at *
            cases d with
            | zero => exact hkt.elim
            | succ d =>
              obtain ⟨kv, rfl, kn, kA, kc, rfl, _⟩ := hkt
              have c0 := Keep.cell lk (hcl 0 _ rfl)
              rw [Nat.add_zero] at c0
              have c1 := cell_off (Keep.cell lk (hcl 1 _ rfl))
              have c2 := cell_off (Keep.cell lk (hcl 2 _ rfl))
              clear hcell hcl hr
              have hon : R = Em.varsL (Em.varsT L kt) (ks.drop (j + 1)) := by
                rw [HX.out, hdr.out, Em.varsL]
              have HON := hide hon
              have hlen : (Em.varsT L kt).length ≤ 1000000 := by
                rw [hon] at hb
                exact Nat.le_trans (varsL_len _ _) hb
              clear hon
              have HLEN := hide hlen
              clear hlen
              go_wp2_with fail
              refine (IH.out kt w0 _ _ L _ hkt0.out (HG.out.keep (by repeat (first | exact Keep.rf _ | assumption | apply Keep.al | apply Keep.dr | apply Keep.dn))) HLEN.out).mono ?_
              rintro e w' ⟨v2, rfl, hg2⟩
              have HG2 := hide hg2
              clear hg2
              go_wp2_with fail
              go_roundw
              case rel => exact ⟨j + 1, _, by omega, by go_num, HON.out, HG2.out⟩
              case measure => simp [intOf]; omega
          · have hfin := hide (show R = L from by rw [HX.out, List.drop_of_length_le (by omega)]; rfl)
            go_wp2_with fail
            go_ret
            exact ⟨_, rfl, by rw [hfin.out]; exact HG.out⟩
    · have h1b : ((str o).toList == [118, 97, 114]) = false := by rw [opB]; simp [h1]
      have HV1 := hide (show R = Em.varsL l ks from by rw [HV.out, if_neg fun h => h1 h.1])
      clear HV
      go_enter Tryd.func40, Tryd.ntmps40
      go_wp2_with fail
      go_loopw [0, 25] (fun v i W => ∃ (j : Nat) (L : List Int), j ≤ ks.length ∧ i = .int .i64 j ∧ R = Em.varsL L (ks.drop j) ∧ Grew w0 v L W) (fun _ i _ => ks.length - (intOf i).toNat)
      case atStart => exact ⟨0, l, by omega, rfl, HV1.out, HG0.out.keep (by repeat (first | exact Keep.rf _ | assumption | apply Keep.al | apply Keep.dr | apply Keep.dn))⟩
      case round =>
        obtain ⟨j, L, hj, rfl, hx, hgw⟩ := hrel
        have HX := hide hx
        have HG := hide hgw
        obtain ⟨lo, lk⟩ := hgw
        obtain ⟨lA, lc, rfl⟩ := own_slice lo
        clear hx lo
        by_cases hlt : j < ks.length
        · obtain ⟨ad, rfl, hcell⟩ := hr (by omega)
          obtain ⟨cs, hcs, hcl, hkt⟩ := hcell j hlt
          have hkt0 := hide hkt
          have hdr := hide (List.drop_eq_getElem_cons hlt)
          generalize ks[j] = kt at *
          cases d with
          | zero => exact hkt.elim
          | succ d =>
            obtain ⟨kv, rfl, kn, kA, kc, rfl, _⟩ := hkt
            have c0 := Keep.cell lk (hcl 0 _ rfl)
            rw [Nat.add_zero] at c0
            have c1 := cell_off (Keep.cell lk (hcl 1 _ rfl))
            have c2 := cell_off (Keep.cell lk (hcl 2 _ rfl))
            clear hcell hcl hr
            have hon : R = Em.varsL (Em.varsT L kt) (ks.drop (j + 1)) := by
              rw [HX.out, hdr.out, Em.varsL]
            have HON := hide hon
            have hlen : (Em.varsT L kt).length ≤ 1000000 := by
              rw [hon] at hb
              exact Nat.le_trans (varsL_len _ _) hb
            clear hon
            have HLEN := hide hlen
            clear hlen
            go_wp2_with fail
            refine (IH.out kt w0 _ _ L _ hkt0.out (HG.out.keep (by repeat (first | exact Keep.rf _ | assumption | apply Keep.al | apply Keep.dr | apply Keep.dn))) HLEN.out).mono ?_
            rintro e w' ⟨v2, rfl, hg2⟩
            have HG2 := hide hg2
            clear hg2
            go_wp2_with fail
            go_roundw
            case rel => exact ⟨j + 1, _, by omega, by go_num, HON.out, HG2.out⟩
            case measure => simp [intOf]; omega
        · have hfin := hide (show R = L from by rw [HX.out, List.drop_of_length_le (by omega)]; rfl)
          go_wp2_with fail
          go_ret
          exact ⟨_, rfl, by rw [hfin.out]; exact HG.out⟩
theorem grew_nil (w : World) : Grew w (.slice none 0 0) [] w := ⟨⟨by simp, .inl ⟨rfl, rfl⟩⟩, (by repeat (first | exact Keep.rf _ | assumption | apply Keep.al | apply Keep.dr | apply Keep.dn))⟩
theorem typVars (t : Ty) (w : World) (v : Value) (h : TyV w v t) (hb : (Em.varsT [] t).length ≤ 1000000) : Calls Tryd.prog 17 #[v] w fun e w' => ∃ v', e = .returned v' ∧ Grew w v' (Em.varsT [] t) w' := by
  obtain ⟨d, cs, rfl, h⟩ := h
  have H := hide (fun W (k : Keep w W) => typAdds d t w W cs [] _ h ((grew_nil w).keep k) hb)
  cases d with
  | zero => exact h.elim
  | succ d =>
    obtain ⟨kv, rfl, kn, kA, kc, rfl, _⟩ := h
    generalize Em.varsT [] t = R at *
    go_enter Tryd.func17, Tryd.ntmps17
    go_wp2_with fail
    refine (H.out _ (by repeat (first | exact Keep.rf _ | assumption | apply Keep.al | apply Keep.dr | apply Keep.dn))).mono ?_
    rintro e w' ⟨v2, rfl, hg2⟩
    have HG := hide hg2
    clear hg2
    go_wp2
    go_ret
    exact ⟨_, rfl, HG.out⟩
end Go.Proofs.YtoippbbodhchkaaDoor
