/- Walks: pick: a block that comes the first time, given what a value comes to. -/
import Derived.Test.YtoehaijmkmdggaaTPkV
import Derived.Test.YtoehaijmkmdggaaTPkQ
import Derived.Lib.AppendStr
set_option linter.unusedSimpArgs false
set_option linter.unusedVariables false
namespace Go.Proofs.Ytoehaijmkmdggaa
open Go.RowKit Go.Maps
open Em (Ty)
set_option linter.unusedVariables false
set_option linter.unusedSimpArgs false
set_option maxRecDepth 100000
theorem strCellsK (l : List UInt8) : Lib.strCells (str l) = l.map bv := by
  simp [Lib.strCells, str, bv]
theorem appS_block {w w' : World} {B n : Nat} {v v' : Value} {xs : List Value} {ty : TypeId} {s : ByteArray} {i : TypeInfo} (hi : Try.prog.info? 5 = some i) (hz0 : i.zero = some (.int .u8 0)) (hz1 : i.size = 1) (hz2 : i.bytes = 1) (hown : w.ownsRow B 5 1 v n xs) (hn : n + s.size ≤ 140737488355328)
    (hr : (Builtin.append_ #[22, 9] ty #[v, .string s]).run Try.prog w = .ok v' w') (h4 : v' = .slice none 0 0 ↔ v = .slice none 0 0 ∧ s.size = 0) : v'.ownBlock = v.ownBlock ∨ v'.ownBlock = some w.heap.size := by
  have hxl : xs.length = n := by simpa using hown.1
  rcases hown.2 with ⟨rfl, rfl⟩ | ⟨g, cap, cur, rfl, hbg, hg, hnc, hcm, hcs, htake⟩
  · by_cases hm : s.size = 0
    · rw [h4.2 ⟨rfl, hm⟩]
      exact .inl rfl
    · have hr2 := run_append_nil_string (P := Try.prog) w 22 9 ty 5 i (.int .u8 0) Try.underlying22 Try.underlying9 hi hz0 s (by omega) (by omega) (by rw [hz2]; omega)
      rw [hr2] at hr
      injection hr with hr _
      rw [← hr]
      exact .inr rfl
  · by_cases hroom : n + s.size ≤ cap
    · have hcs' : cur.size = cap := by simpa using hcs
      have hr2 := Lib.run_append_room_string (P := Try.prog) w 22 9 ty 5 i Try.underlying22 Try.underlying9 hi hz1 g n cap cur hg s hroom (by omega)
      rw [hr2] at hr
      injection hr with hr _
      rw [← hr]
      exact .inl rfl
    · have holds : ∀ j u, xs[j]? = some u → w.cell? ((⟨g, 0, none⟩ : Addr).add j) = some u := hown.cells (g := g) rfl
      have hr2 := Lib.run_append_grow_string (P := Try.prog) w 22 9 ty 5 i (.int .u8 0) Try.underlying22 Try.underlying9 hi hz0 ⟨g, 0, none⟩ n cap xs (by rw [hz1]; simpa using hxl) holds s (by omega) (by omega) (by rw [hz2]; exact growslice_fits (by omega) (by omega))
      rw [hr2] at hr
      injection hr with hr _
      rw [← hr]
      exact .inr rfl
/-- append of a string to bytes of the call's own. -/
theorem wp_appS {w : World} {o : Oper} {a : Act} {K : Act → World → Prop} {Q : Exit → Act → World → Prop} (s x : Operand)
    (ho : o.op = .call { callee := .builtin .append, args := #[s, x], argTypes := #[22, 9] }) (B : Nat) (hB : B ≤ w.heap.size)
    (v : Value) (xs : List UInt8) (hs : a.eval s = v) (hown : Ob w B 5 v xs) (l : List UInt8) (hx : a.eval x = .string (str l)) (hl : xs.length + l.length ≤ 1000000000)
    (h : ∀ v' w', BGrow w B v (xs ++ l) w' v' → K (a.put o.dst v') w') : o.wp Try.prog a w K Q := by
  obtain ⟨i, hi, hz⟩ := Option.map_eq_some_iff.1 infoU8
  simp only [Prod.mk.injEq] at hz
  obtain ⟨hz0, hz1, hz2⟩ := hz
  obtain ⟨v', w', hr, h2, h3, h4⟩ := Lib.run_append_own_string (P := Try.prog) w B 22 9 o.type 5 i Try.underlying22 Try.underlying9 hi hz0 hz1 hz2 v xs.length (xs.map bv) hown (str l) (by rw [str_size]; simp only [maxLen]; omega) (by rw [str_size]; omega) hB
  unfold Oper.wp execOp
  simp only [ho, resolve, invoke, builtin, Sem.run_bind, Sem.run_pure, Result.andThen_ok, List.map_toArray, List.map_cons, List.map_nil, hs, hx, hr]
  rw [str_size, strCellsK, ← List.map_append] at h2
  refine h v' w' ⟨w, Keep.rf w, h3, appS_block hi hz0 hz1 hz2 hown (by rw [str_size]; omega) hr h4, ?_⟩
  unfold Ob
  rw [List.length_append]
  exact h2
theorem wpList_appS {w : World} {ops : Array Oper} {rest : List Oper} {o : Oper} {a : Act} {Q : Exit → Act → World → Prop} (hgd : o.guard = none) (s x : Operand)
    (ho : o.op = .call { callee := .builtin .append, args := #[s, x], argTypes := #[22, 9] }) (B : Nat) (hB : B ≤ w.heap.size)
    (v : Value) (xs : List UInt8) (hs : a.eval s = v) (hown : Ob w B 5 v xs) (l : List UInt8) (hx : a.eval x = .string (str l)) (hl : xs.length + l.length ≤ 1000000000)
    (h : ∀ v' w', BGrow w B v (xs ++ l) w' v' → wpList Try.prog ops Q rest (a.put o.dst v') w') : wpList Try.prog ops Q (o :: rest) a w :=
  wpList_plain hgd fun _ hK => wp_appS s x ho B hB v xs hs hown l hx hl fun v' w' h1 => hK _ _ (h v' w' h1)
theorem kidsK_drop (r : Int → Ty → Em.Pk → Em.PkO) (H : Em.Hp) (n : Int) (kt : List Ty) (j : Nat) (s : Em.Pk) (hj : j < kt.length) : Em.kidsK r H n j (kt.drop j) s = match r ((Em.field H n (j : Int)).getD 0) kt[j] s with | .err c => .err c | .ok s' => Em.kidsK r H n (j + 1) (kt.drop (j + 1)) s' := by
  rw [List.drop_eq_getElem_cons hj]
  rfl
theorem fieldT_eq {H : Em.Hp} {n i : Int} : ∃ b, fieldT H n i = .tuple #[.int .i64 ((Em.field H n i).getD 0), .bool b] := by
  unfold fieldT
  cases Em.field H n i with
  | none => exact ⟨_, rfl⟩
  | some v => exact ⟨_, rfl⟩
theorem in_wf64 {n : Int} (h : Em.InW n) : (Lit.int .i64 n).wf = true := imm_wf h.1 h.2
section
variable {B f : Nat} {Z : Nat → Prop} {w0 w : World} {p mb hp sz : Nat} {S : List Nat} {ov : Value} {tys : List (Ty × List Value)} {s : Em.Pk} {H : Em.Hp}
theorem tagT_wfK (o : List UInt8) : (Lit.int .i64 (Em.tagT o)).wf = true := by
  unfold Em.tagT
  split
  · decide
  · split
    · decide
    · split
      · decide
      · split <;> decide
theorem tag_no {o : List UInt8} (h : ¬ o = Em.wString) : ¬ Em.tagT o = 1 := by
  unfold Em.tagT
  rw [if_neg h]
  split
  · decide
  · split
    · decide
    · split <;> decide
theorem mapN_len {w : World} {b n : Nat} {f : Int → Option Value} (h : MapN w b f n) {t : TypeId} (ht : Try.prog.underlying t = some (.map (Try.prog.mapKeyOf t) (Try.prog.mapElemOf t))) (ty : TypeId) : (Builtin.len_ #[t] ty #[.map (some b)]).run Try.prog w = .ok (.int .i64 (n : Int)) w := by
  obtain ⟨es, clock, h1, _, _, h2⟩ := h
  rw [run_len_map (P := Try.prog) w t ty b es clock ht h1, h2]
  rfl
theorem smallH_of {w : World} {p sz : Nat} {S : List Nat} {H : Em.Hp} (h : HRep w p S sz H) : Em.SmallH H := fun k => ⟨by have := (h.blk k).1; omega, fun x hx => in_i64 ((h.blk k).2.1 x hx)⟩
set_option maxHeartbeats 8000000 in
theorem pkBlk_str (hrep : HRep w0 hp S sz H) (n : Int) (t : Ty) (d : Nat) (cs : List Value) (h : PkM 88 B Z w0 w p mb (.pointer (some ⟨hp, 0, none⟩)) ov tys s) (ht : TyI (fun k => k < w0.heap.size ∨ Z k) d w cs t) (hok : Em.okS t = true) (hpl : ¬ Em.isPl t.op) (hi : Em.posK s.ws n = none) (hn : (Lit.int .i64 n).wf = true) (hl : s.b.length + 40040 * (2000 - s.ws.length) ≤ 100000000) (hop : t.op = Em.wString) (ro : Em.PkO) (hro : Hid (ro = Em.blkK (Em.valK H f) H n t (Em.firstOf t.op) s)) :
    Calls Try.prog 78 #[.pointer (some ⟨p, 0, none⟩), .int .i64 n, .agg cs.toArray, .int .u64 (Em.firstOf t.op : Int)] w (ValKA 88 B Z w0 w p mb (.pointer (some ⟨hp, 0, none⟩)) ov ro) := by
  cases d with
  | zero => exact ht.elim
  | succ d =>
    obtain ⟨tv, e0, hn0, hs0, hin0⟩ := id ht
    subst e0
    obtain ⟨A, c, e1, _⟩ := id hs0
    subst e1
    have HT0 := hide ht
    have HOK := hide hok
    have HPL := hide hpl
    obtain ⟨o, m, ks⟩ := t
    simp only [Em.Ty.op, Em.Ty.n, Em.Ty.kids] at *
    obtain rfl : o = [115, 116, 114, 105, 110, 103] := hop
    have ka : Keep w (w.alloc (.cells #[.string (str [115, 116, 114, 105, 110, 103]), .int .i64 m, .slice A ks.length c] 25)) := (by repeat (first | exact Keep.rf _ | assumption | apply Keep.al | apply Keep.dr | apply Keep.dn))
    have hB := heap_alloc_new w (.cells #[.string (str [115, 116, 114, 105, 110, 103]), .int .i64 m, .slice A ks.length c] 25)
    have hsz1 : (w.alloc (.cells #[.string (str [115, 116, 114, 105, 110, 103]), .int .i64 m, .slice A ks.length c] 25)).heap.size = w.heap.size + 1 := by simp
    have hnb : ¬ OwnP p mb ov w.heap.size := fun e => by have := (h.ltO _ e).2; omega
    have hM1 := h.keep ka
    have hlim := h.lim
    have h0w := h.k0.size
    have HM1 := hide hM1
    have HT1 := hide (HT0.out.keep ka)
    have HSH := hide (pickShape HT1.out HOK.out HPL.out)
    have HB := hide hB
    have KA := hide ka
    have HSZ := hide hsz1
    have HNB := hide hnb
    generalize hfo : Em.firstOf [115, 116, 114, 105, 110, 103] = fo at *
    have hfo1 : fo ≤ 1 := by rw [← hfo]; unfold Em.firstOf; split <;> omega
    clear h ht ka hB hs0 hin0 hn0 hM1 hsz1 hnb hok hpl
    go_enter Try.func78, Try.ntmps78
    go_wp2_with fail
    generalize World.alloc w _ = w1 at *
    refine HSH.out.mono ?_
    rintro e w3 ⟨v8, dk, rfl, hs8, hi8, k3⟩
    obtain ⟨A8, c8, rfl, _⟩ := id hs8
    simp only [Em.Ty.op]
    obtain ⟨Z3, hZ3⟩ : ∃ Z3 : Nat → Prop, ∀ k, Z3 k ↔ (Z k ∨ (w1.heap.size ≤ k ∧ k < w3.heap.size)) := ⟨_, fun k => Iff.rfl⟩
    have hM3 := (HM1.out.keep k3).moreZ (Z' := Z3) (fun k h => (hZ3 k).2 (.inl h)) fun k h => by
      rcases (hZ3 k).1 h with hk | ⟨g1, g2⟩
      · exact .inl hk
      · refine .inr ⟨by have := HSZ.out; omega, g2, fun e => ?_⟩
        have := (HM1.out.ltO k e).2
        omega
    have HW3 := hide ((PWent.of_keep KA.out).tr (PWent.more (p := p) (mb := mb) (ov := ov) (Z := Z) (Z' := Z3) k3 (fun k h => (hZ3 k).2 (.inl h)) fun k h => ((hZ3 k).1 h).imp id fun h => h.1))
    have HT3 := hide ((HT1.out.keep k3).mono (I' := fun k => k < w0.heap.size ∨ Z3 k) fun k h => h.imp id fun h => (hZ3 k).2 (.inl h))
    have HS8 := hide (hs8.mono (K' := TyI (fun k => k < w0.heap.size ∨ Z3 k) dk) fun cs x h => h.mono fun k h => by
      rcases h with (h | h) | h
      · exact .inl h
      · exact .inr ((hZ3 k).2 (.inl h))
      · exact .inr ((hZ3 k).2 (.inr h)))
    generalize hktq : Em.kidsT (.mk [115, 116, 114, 105, 110, 103] m ks) = kt at *
    have HKTQ := hide hktq
    clear hktq
    have HI8 := hide (show InX (fun k => k < w0.heap.size ∨ Z3 k) (.slice A8 kt.length c8) from fun ad n c e hn => by
      rcases hi8 ad n c e hn with (h | h) | h
      · exact .inl h
      · exact .inr ((hZ3 _).2 (.inl h))
      · exact .inr ((hZ3 _).2 (.inr h)))
    have hB3 := (k3.frm fun _ => False).heap (fun h => h) HB.out
    have HB3 := hide hB3
    have c0 := top_cells hM3.top 0
    have c2 := top_cells hM3.top 2
    have x0 := top_cells hB3 0
    have x1 := top_cells hB3 1
    have x2 := top_cells hB3 2
    simp only [List.getElem?_toArray, List.getElem?_cons_succ, List.getElem?_cons_zero] at c0 c2 x0 x1 x2
    have HM3 := hide hM3
    have hlt3 : w.heap.size < w3.heap.size := (Array.getElem?_eq_some_iff.1 hB3).1
    have HRP := hide (hrep.keep hM3.k0)
    have HK0 := hide hM3.k0
    have htw := tagT_wfK [115, 116, 114, 105, 110, 103]
    clear hM3 hB3 k3 hs8 hi8 hZ3 h0w
    have HX := hide (show ro = if ¬ (Em.blk H n).1 = 1 then .err 1 else (match Em.textH H n with
      | none => .err 1
      | some x => if s.ws.length = 2000 then .err 7 else .ok ⟨(s.come n (.mk [115, 116, 114, 105, 110, 103] m ks) fo).b ++ Em.putN x.length ++ x, s.ws ++ [n], s.ty ++ [.mk [115, 116, 114, 105, 110, 103] m ks]⟩) from by
      rw [hro.out]
      unfold Em.blkK
      rfl)
    have hxl : ∀ x, Em.textH H n = some x → x.length ≤ 20000 := fun x e => Em.text_len (smallH_of hrep) e
    have hkt0 : kt = [] := HKTQ.out.symm
    subst hkt0
    go_wp2_with fail
    refine (heapTag w3 HRP.out n hn).mono ?_
    rintro e w' ⟨rfl, rfl⟩
    have htg1 : (Em.tagT [115, 116, 114, 105, 110, 103] != 1) = false := rfl
    have htg2 : (Em.tagT [115, 116, 114, 105, 110, 103] == 1) = true := rfl
    by_cases hbt : (Em.blk H n).1 = 1
    case neg =>
      have hne : ((Em.blk H n).1 != Em.tagT [115, 116, 114, 105, 110, 103]) = true := by
        rw [bne_iff_ne]
        exact hbt
      have HBT := hide hbt
      clear hbt hxl x0 x1 x2
      go_wp2_with fail
      go_ret
      rw [HX.out, if_pos HBT.out]
      exact ⟨rfl, .inl rfl, HK0.out⟩
    have hne : ((Em.blk H n).1 != Em.tagT [115, 116, 114, 105, 110, 103]) = false := by
      rw [hbt]
      rfl
    have HX2 := hide (HX.out.trans (if_neg (fun h => h hbt)))
    clear hbt
    go_wp2_with fail
    refine (shapeText w3 HRP.out n hn).mono ?_
    rintro e w4 ⟨k4, rfl⟩
    generalize Em.textH H n = ox at *
    cases ox with
    | none =>
      simp only [Option.isSome_none]
      clear hxl x0 x1 x2
      go_wp2_with fail
      go_ret
      rw [HX2.out]
      exact ⟨rfl, .inl rfl, (HM3.out.keep k4).k0⟩
    | some x =>
      have hx := hxl x rfl
      clear hxl x0 x1 x2
      simp only [Option.isSome_some, Option.getD_some]
      have hM4 := HM3.out.keep k4
      have hB4 := (k4.frm fun _ => False).heap (fun h => h) HB3.out
      have c2 := top_cells hM4.top 2
      have x0 := top_cells hB4 0
      have x1 := top_cells hB4 1
      have x2 := top_cells hB4 2
      have hlw := fun ty => mapN_len hM4.map (t := 86) (by kernel_rfl) ty
      simp only [List.getElem?_toArray, List.getElem?_cons_succ, List.getElem?_cons_zero] at c2 x0 x1 x2
      have HM4 := hide hM4
      have HW4 := hide (HW3.out.tr (PWent.of_keep k4))
      have HT4 := hide (HT3.out.keep k4)
      have K4 := hide k4
      have HB4 := hide hB4
      clear hM4 hB4 k4
      by_cases hws : s.ws.length = 2000
      · have hwb : ((s.ws.length : Int) == 2000) = true := by simp; omega
        clear x0 x1 x2
        go_wp2_with fail
        go_ret
        rw [HX2.out, if_pos hws]
        exact ⟨rfl, .inr rfl, HM4.out.k0⟩
      have hws2 : s.ws.length < 2000 := by omega
      have hsv : seenV s.ws tys n = none := by unfold seenV; rw [hi]; rfl
      have HLEN := hide (fun (W : World) (k : Keep w4 W) (ty : TypeId) => mapN_len (HM4.out.map.frm (k.frm fun _ => False) fun h => h) (t := 86) (by kernel_rfl) ty)
      have hwb : ((s.ws.length : Int) == 2000) = false := by simp; omega
      go_wp2_with fail
      clear hlw hwb
      apply region_last 12 _ (by kernel_rfl) Keep Keep krg ktg krg ktg (fun _ _ h => h) [some 67, some 68, some 69, some 70, some 71, some 72, some 73, some 74, some 75, some 76, some 77, some 78, none] [eqG _ , eqG _ , eqG _ , eqG _ , eqG _ , eqG _ , eqG _ , eqG _ , eqG _ , fun us _ v => v = .int .i64 (s.ws.length : Int), eqG _ , eqG _ , fun _ _ _ => True] [⟨[], [], true, false, false⟩, ⟨[0], [], true, false, false⟩, ⟨[1], [], true, false, false⟩, ⟨[2], [], true, false, false⟩, ⟨[], [], true, false, false⟩, ⟨[], [], true, false, false⟩, ⟨[5], [], true, false, false⟩, ⟨[6], [], true, false, false⟩, ⟨[7], [], true, false, false⟩, ⟨[8], [], true, false, false⟩, ⟨[], [], true, false, false⟩, ⟨[9, 10], [], true, false, false⟩, ⟨[3, 4, 11], [], true, false, false⟩] [3, 4, 11] (by kernel_rfl) (by kernel_rfl) (by kernel_rfl) rfl (by kernel_rfl)
      · refine ⟨?_, ?_, ?_, ?_, ?_, ?_, ?_, ?_, ?_, ?_, ?_, ?_, trivial⟩ <;> (intro us W h9 hW hE hd hs K hK; obtain ⟨u0, u1, u2, u3, u4, u5, u6, u7, u8, u9, u10, u11, u12, rfl⟩ := rog 13 h9 rfl; clear h9; try simp only [DepG, AtG, and_true, relG, eqG, eqG1, eqG2, eqG3, gdG, gdG1, gnG, gnG1, List.getD_cons_zero, List.getD_cons_succ, List.getElem?_cons_succ, List.getElem?_cons_zero, Option.map_some, Option.getD_some, valsG, List.map_cons, List.map_nil, List.length_cons, List.length_nil] at hd)
        · ((try clear hd); clear hs; simp only [fillG, List.set_cons_zero, List.set_cons_succ]; refine want_n rfl ?_; go_wp2_with (first | fail); simp only [DoneG, fillG, List.set_cons_zero, List.set_cons_succ, relG, eqG, eqG1, eqG2, eqG3, gdG, gdG1, gnG, gnG1, List.getD_cons_zero, List.getD_cons_succ, List.getElem?_cons_succ, List.getElem?_cons_zero, Option.map_some, Option.getD_some, valsG, List.map_cons, List.map_nil, List.length_cons, List.length_nil]; exact ⟨_, rfl, (by first | with_reducible assumption | exact krg _ | exact Keep.al (krg _) _), fun _ _ => rfl⟩)
        · (have d0 := hd; clear hd; subst d0; clear hs; simp only [fillG, List.set_cons_zero, List.set_cons_succ]; refine want_n rfl ?_; go_wp2_with (first | fail); simp only [DoneG, fillG, List.set_cons_zero, List.set_cons_succ, relG, eqG, eqG1, eqG2, eqG3, gdG, gdG1, gnG, gnG1, List.getD_cons_zero, List.getD_cons_succ, List.getElem?_cons_succ, List.getElem?_cons_zero, Option.map_some, Option.getD_some, valsG, List.map_cons, List.map_nil, List.length_cons, List.length_nil]; exact ⟨_, rfl, (by first | with_reducible assumption | exact krg _ | exact Keep.al (krg _) _), fun _ _ => rfl⟩)
        · (have d1 := hd; clear hd; subst d1; clear hs; simp only [fillG, List.set_cons_zero, List.set_cons_succ]; refine want_n rfl ?_; go_wp2_with (first | fail); simp only [DoneG, fillG, List.set_cons_zero, List.set_cons_succ, relG, eqG, eqG1, eqG2, eqG3, gdG, gdG1, gnG, gnG1, List.getD_cons_zero, List.getD_cons_succ, List.getElem?_cons_succ, List.getElem?_cons_zero, Option.map_some, Option.getD_some, valsG, List.map_cons, List.map_nil, List.length_cons, List.length_nil]; exact ⟨_, rfl, (by first | with_reducible assumption | exact krg _ | exact Keep.al (krg _) _), fun _ _ => rfl⟩)
        · (have d2 := hd; clear hd; subst d2; clear hs; simp only [fillG, List.set_cons_zero, List.set_cons_succ]; have hKW := Keep.tr (Keep.dr (Keep.rf _)) (hE rfl); have c2 := Keep.cell hKW c2; have x0 := Keep.cell hKW x0; have x1 := Keep.cell hKW x1; have x2 := Keep.cell hKW x2; refine want_n rfl ?_; go_wp2_with (first | fail); simp only [DoneG, fillG, List.set_cons_zero, List.set_cons_succ, relG, eqG, eqG1, eqG2, eqG3, gdG, gdG1, gnG, gnG1, List.getD_cons_zero, List.getD_cons_succ, List.getElem?_cons_succ, List.getElem?_cons_zero, Option.map_some, Option.getD_some, valsG, List.map_cons, List.map_nil, List.length_cons, List.length_nil]; exact ⟨_, rfl, (by first | with_reducible assumption | exact krg _ | exact Keep.al (krg _) _), fun _ _ => rfl⟩)
        · ((try clear hd); clear hs; simp only [fillG, List.set_cons_zero, List.set_cons_succ]; refine want_n rfl ?_; go_wp2_with (first | fail); simp only [DoneG, fillG, List.set_cons_zero, List.set_cons_succ, relG, eqG, eqG1, eqG2, eqG3, gdG, gdG1, gnG, gnG1, List.getD_cons_zero, List.getD_cons_succ, List.getElem?_cons_succ, List.getElem?_cons_zero, Option.map_some, Option.getD_some, valsG, List.map_cons, List.map_nil, List.length_cons, List.length_nil]; exact ⟨_, rfl, (by first | with_reducible assumption | exact krg _ | exact Keep.al (krg _) _), fun _ _ => rfl⟩)
        · ((try clear hd); clear hs; simp only [fillG, List.set_cons_zero, List.set_cons_succ]; refine want_n rfl ?_; go_wp2_with (first | fail); simp only [DoneG, fillG, List.set_cons_zero, List.set_cons_succ, relG, eqG, eqG1, eqG2, eqG3, gdG, gdG1, gnG, gnG1, List.getD_cons_zero, List.getD_cons_succ, List.getElem?_cons_succ, List.getElem?_cons_zero, Option.map_some, Option.getD_some, valsG, List.map_cons, List.map_nil, List.length_cons, List.length_nil]; exact ⟨_, rfl, (by first | with_reducible assumption | exact krg _ | exact Keep.al (krg _) _), fun _ _ => rfl⟩)
        · (have d5 := hd; clear hd; subst d5; clear hs; simp only [fillG, List.set_cons_zero, List.set_cons_succ]; refine want_n rfl ?_; go_wp2_with (first | fail); simp only [DoneG, fillG, List.set_cons_zero, List.set_cons_succ, relG, eqG, eqG1, eqG2, eqG3, gdG, gdG1, gnG, gnG1, List.getD_cons_zero, List.getD_cons_succ, List.getElem?_cons_succ, List.getElem?_cons_zero, Option.map_some, Option.getD_some, valsG, List.map_cons, List.map_nil, List.length_cons, List.length_nil]; exact ⟨_, rfl, (by first | with_reducible assumption | exact krg _ | exact Keep.al (krg _) _), fun _ _ => rfl⟩)
        · (have d6 := hd; clear hd; subst d6; clear hs; simp only [fillG, List.set_cons_zero, List.set_cons_succ]; refine want_n rfl ?_; go_wp2_with (first | fail); simp only [DoneG, fillG, List.set_cons_zero, List.set_cons_succ, relG, eqG, eqG1, eqG2, eqG3, gdG, gdG1, gnG, gnG1, List.getD_cons_zero, List.getD_cons_succ, List.getElem?_cons_succ, List.getElem?_cons_zero, Option.map_some, Option.getD_some, valsG, List.map_cons, List.map_nil, List.length_cons, List.length_nil]; exact ⟨_, rfl, (by first | with_reducible assumption | exact krg _ | exact Keep.al (krg _) _), fun _ _ => rfl⟩)
        · (have d7 := hd; clear hd; subst d7; clear hs; simp only [fillG, List.set_cons_zero, List.set_cons_succ]; have hKW := Keep.tr (Keep.dr (Keep.rf _)) (hE rfl); have c2 := Keep.cell hKW c2; have x0 := Keep.cell hKW x0; have x1 := Keep.cell hKW x1; have x2 := Keep.cell hKW x2; refine want_n rfl ?_; go_wp2_with (first | fail); simp only [DoneG, fillG, List.set_cons_zero, List.set_cons_succ, relG, eqG, eqG1, eqG2, eqG3, gdG, gdG1, gnG, gnG1, List.getD_cons_zero, List.getD_cons_succ, List.getElem?_cons_succ, List.getElem?_cons_zero, Option.map_some, Option.getD_some, valsG, List.map_cons, List.map_nil, List.length_cons, List.length_nil]; exact ⟨_, rfl, (by first | with_reducible assumption | exact krg _ | exact Keep.al (krg _) _), fun _ _ => rfl⟩)
        · (have d8 := hd; clear hd; subst d8; clear hs; simp only [fillG, List.set_cons_zero, List.set_cons_succ]; have hKW := Keep.tr (Keep.dr (Keep.rf _)) (hE rfl); have c2 := Keep.cell hKW c2; have x0 := Keep.cell hKW x0; have x1 := Keep.cell hKW x1; have x2 := Keep.cell hKW x2; refine want_n rfl ?_; have hlw := fun ty => HLEN.out _ hKW ty; go_wp2_with fail; simp only [DoneG, fillG, List.set_cons_zero, List.set_cons_succ, relG, eqG, eqG1, eqG2, eqG3, gdG, gdG1, gnG, gnG1, List.getD_cons_zero, List.getD_cons_succ, List.getElem?_cons_succ, List.getElem?_cons_zero, Option.map_some, Option.getD_some, valsG, List.map_cons, List.map_nil, List.length_cons, List.length_nil]; exact ⟨_, rfl, (by first | with_reducible assumption | exact krg _ | exact Keep.al (krg _) _), fun W9 hk9 => rfl⟩)
        · ((try clear hd); clear hs; simp only [fillG, List.set_cons_zero, List.set_cons_succ]; have hKW := Keep.tr (Keep.dr (Keep.rf _)) (hE rfl); have c2 := Keep.cell hKW c2; have x0 := Keep.cell hKW x0; have x1 := Keep.cell hKW x1; have x2 := Keep.cell hKW x2; refine want_n rfl ?_; go_wp2_with (first | fail); simp only [DoneG, fillG, List.set_cons_zero, List.set_cons_succ, relG, eqG, eqG1, eqG2, eqG3, gdG, gdG1, gnG, gnG1, List.getD_cons_zero, List.getD_cons_succ, List.getElem?_cons_succ, List.getElem?_cons_zero, Option.map_some, Option.getD_some, valsG, List.map_cons, List.map_nil, List.length_cons, List.length_nil]; exact ⟨_, rfl, (by first | with_reducible assumption | exact krg _ | exact Keep.al (krg _) _), fun _ _ => rfl⟩)
        · (obtain ⟨d9, d10⟩ := hd; subst d9; subst d10; clear hs; simp only [fillG, List.set_cons_zero, List.set_cons_succ]; refine want_n rfl ?_; go_wp2_with (first | fail); simp only [DoneG, fillG, List.set_cons_zero, List.set_cons_succ, relG, eqG, eqG1, eqG2, eqG3, gdG, gdG1, gnG, gnG1, List.getD_cons_zero, List.getD_cons_succ, List.getElem?_cons_succ, List.getElem?_cons_zero, Option.map_some, Option.getD_some, valsG, List.map_cons, List.map_nil, List.length_cons, List.length_nil]; exact ⟨_, rfl, (by first | with_reducible assumption | exact krg _ | exact Keep.al (krg _) _), fun _ _ => rfl⟩)
      (intro us W5 h9 hW hE hA hl9; obtain ⟨u0, u1, u2, u3, u4, u5, u6, u7, u8, u9, u10, u11, u12, rfl⟩ := rog 13 h9 rfl; clear h9; clear hl9; simp only [AllG, AtG, and_true, relG, eqG, eqG1, eqG2, eqG3, gdG, gdG1, gnG, gnG1, List.getD_cons_zero, List.getD_cons_succ, List.getElem?_cons_succ, List.getElem?_cons_zero, Option.map_some, Option.getD_some, valsG, List.map_cons, List.map_nil, List.length_cons, List.length_nil] at hA; obtain ⟨d3, d4, d11⟩ := hA; subst d3; subst d4; subst d11; simp only [fillG, List.set_cons_zero, List.set_cons_succ]; have k5 := Keep.tr (Keep.dr (Keep.rf _)) hW; clear hW hE; refine want_n rfl ?_)
      have hM5 := HM4.out.keep k5
      obtain ⟨w6, hup, hm6, F6⟩ := hM5.map.put (P := Try.prog) Try.underlying86 Try.underlying36 n hn hsv (.agg #[.int .i64 (s.ws.length : Int), .string (str [115, 116, 114, 105, 110, 103]), .int .i64 m, .slice A ks.length c])
      obtain ⟨hM6, hW6⟩ := hM5.came hi hws2 ⟨_, HT4.out.keep k5⟩ F6 hm6
      have HPU := hide (pkPuts hM6 fo (by omega) (by show s.b.length ≤ 500000000; omega))
      have HW6 := hide ((HW4.out.tr (PWent.of_keep k5)).tr hW6)
      have HW36 := hide ((PWent.of_keep (Keep.tr K4.out k5)).tr hW6)
      clear hM5 hm6 F6 hM6 hW6 c2 x0 x1 x2 k5
      go_wp2_with fail
      clear hup
      refine HPU.out.mono ?_
      rintro e w7 ⟨rfl, ov7, hM7, hW7⟩
      have HM7 := hide hM7
      have HW7 := hide (HW6.out.tr hW7)
      have HF37 := hide (HW36.out.tr hW7).frm
      clear hM7 hW7 HPU HW36
      have HPU8 := hide (pkPuts HM7.out x.length (by omega) (by show (s.b ++ Em.putN fo).length ≤ 500000000; have := Em.putN_len10 (v := fo) (by omega); rw [List.length_append]; omega))
      have hxs : ((str x).size : Int) = (x.length : Int) := by rw [str_size]
      go_wp2_with fail
      refine HPU8.out.mono ?_
      rintro e w8 ⟨rfl, ov8, hM8, hW8⟩
      have c1 := top_cells hM8.top 1
      simp only [List.getElem?_toArray, List.getElem?_cons_succ, List.getElem?_cons_zero] at c1
      have HM8 := hide hM8
      have HW8 := hide (HW7.out.tr hW8)
      clear hM8 hW8 HPU8
      go_wp2_with (first
        | (at_builtin; go_loud (refine wpList_appS rfl (.tmp 93) (.tmp 94) rfl B (Nat.le_trans (HM8.out.p0.2.1) (Nat.le_of_lt (HM8.out.ltO p (.inl rfl)).2)) _ _ rfl HM8.out.own x rfl (by have h1 := Em.putN_len10 (v := fo) (by omega); have h2 := Em.putN_len10 (v := x.length) (by omega); simp only [Em.Pk.put, List.length_append]; omega) ?_); intro v9 w9 hg9; have htop9 := HM8.out.topG hg9; have tpc := top_cells htop9 1; have tpf := top_free htop9 1; simp only [List.getElem?_toArray, List.getElem?_cons_succ, List.getElem?_cons_zero] at tpc; obtain ⟨hM9, hW9⟩ := HM8.out.grew hg9; obtain ⟨A9, n9, c9, e9⟩ : ∃ A n c, v9 = Value.slice A n c := (by obtain ⟨A, c, e⟩ := hM9.own.slice; exact ⟨_, _, _, e⟩); subst e9; have HM9 := hide hM9; have HW9 := hide (HW8.out.tr hW9); clear hM9 hW9 htop9 hg9)
        | fail)
      refine wp_loop_rounds 1 ?_
      rw [rounds_succ]
      go_wp2_with fail
      go_ret
      rw [HX2.out, if_neg hws]
      exact ⟨rfl, Z3, _, _, HM9.out, HW9.out⟩
set_option maxHeartbeats 8000000 in
theorem pkBlk_kids (hrep : HRep w0 hp S sz H) (n : Int) (t : Ty) (d : Nat) (cs : List Value) (h : PkM 88 B Z w0 w p mb (.pointer (some ⟨hp, 0, none⟩)) ov tys s) (ht : TyI (fun k => k < w0.heap.size ∨ Z k) d w cs t) (hok : Em.okS t = true) (hpl : ¬ Em.isPl t.op) (hi : Em.posK s.ws n = none) (hn : (Lit.int .i64 n).wf = true) (hl : s.b.length + 40040 * (2000 - s.ws.length) ≤ 100000000) (hop : ¬ t.op = Em.wString) (hf : 2000 - s.ws.length < f + 1) (hval : ValKC B w0 p mb (.pointer (some ⟨hp, 0, none⟩)) H f) (ro : Em.PkO) (hro : Hid (ro = Em.blkK (Em.valK H f) H n t (Em.firstOf t.op) s)) :
    Calls Try.prog 78 #[.pointer (some ⟨p, 0, none⟩), .int .i64 n, .agg cs.toArray, .int .u64 (Em.firstOf t.op : Int)] w (ValKA 88 B Z w0 w p mb (.pointer (some ⟨hp, 0, none⟩)) ov ro) := by
  cases d with
  | zero => exact ht.elim
  | succ d =>
    obtain ⟨tv, e0, hn0, hs0, hin0⟩ := id ht
    subst e0
    obtain ⟨A, c, e1, _⟩ := id hs0
    subst e1
    have HT0 := hide ht
    have HOK := hide hok
    have HPL := hide hpl
    obtain ⟨o, m, ks⟩ := t
    simp only [Em.Ty.op, Em.Ty.n, Em.Ty.kids] at *
    have hns : ¬ o = [115, 116, 114, 105, 110, 103] := hop
    have ka : Keep w (w.alloc (.cells #[.string (str o), .int .i64 m, .slice A ks.length c] 25)) := (by repeat (first | exact Keep.rf _ | assumption | apply Keep.al | apply Keep.dr | apply Keep.dn))
    have hB := heap_alloc_new w (.cells #[.string (str o), .int .i64 m, .slice A ks.length c] 25)
    have hsz1 : (w.alloc (.cells #[.string (str o), .int .i64 m, .slice A ks.length c] 25)).heap.size = w.heap.size + 1 := by simp
    have hnb : ¬ OwnP p mb ov w.heap.size := fun e => by have := (h.ltO _ e).2; omega
    have hM1 := h.keep ka
    have hlim := h.lim
    have h0w := h.k0.size
    have HM1 := hide hM1
    have HT1 := hide (HT0.out.keep ka)
    have HSH := hide (pickShape HT1.out HOK.out HPL.out)
    have HB := hide hB
    have KA := hide ka
    have HSZ := hide hsz1
    have HNB := hide hnb
    generalize hfo : Em.firstOf o = fo at *
    have hfo1 : fo ≤ 1 := by rw [← hfo]; unfold Em.firstOf; split <;> omega
    clear h ht ka hB hs0 hin0 hn0 hM1 hsz1 hnb hok hpl
    go_enter Try.func78, Try.ntmps78
    go_wp2_with fail
    generalize World.alloc w _ = w1 at *
    refine HSH.out.mono ?_
    rintro e w3 ⟨v8, dk, rfl, hs8, hi8, k3⟩
    obtain ⟨A8, c8, rfl, _⟩ := id hs8
    simp only [Em.Ty.op]
    obtain ⟨Z3, hZ3⟩ : ∃ Z3 : Nat → Prop, ∀ k, Z3 k ↔ (Z k ∨ (w1.heap.size ≤ k ∧ k < w3.heap.size)) := ⟨_, fun k => Iff.rfl⟩
    have hM3 := (HM1.out.keep k3).moreZ (Z' := Z3) (fun k h => (hZ3 k).2 (.inl h)) fun k h => by
      rcases (hZ3 k).1 h with hk | ⟨g1, g2⟩
      · exact .inl hk
      · refine .inr ⟨by have := HSZ.out; omega, g2, fun e => ?_⟩
        have := (HM1.out.ltO k e).2
        omega
    have HW3 := hide ((PWent.of_keep KA.out).tr (PWent.more (p := p) (mb := mb) (ov := ov) (Z := Z) (Z' := Z3) k3 (fun k h => (hZ3 k).2 (.inl h)) fun k h => ((hZ3 k).1 h).imp id fun h => h.1))
    have HT3 := hide ((HT1.out.keep k3).mono (I' := fun k => k < w0.heap.size ∨ Z3 k) fun k h => h.imp id fun h => (hZ3 k).2 (.inl h))
    have HS8 := hide (hs8.mono (K' := TyI (fun k => k < w0.heap.size ∨ Z3 k) dk) fun cs x h => h.mono fun k h => by
      rcases h with (h | h) | h
      · exact .inl h
      · exact .inr ((hZ3 k).2 (.inl h))
      · exact .inr ((hZ3 k).2 (.inr h)))
    generalize hktq : Em.kidsT (.mk o m ks) = kt at *
    have HKTQ := hide hktq
    clear hktq
    have HI8 := hide (show InX (fun k => k < w0.heap.size ∨ Z3 k) (.slice A8 kt.length c8) from fun ad n c e hn => by
      rcases hi8 ad n c e hn with (h | h) | h
      · exact .inl h
      · exact .inr ((hZ3 _).2 (.inl h))
      · exact .inr ((hZ3 _).2 (.inr h)))
    have hB3 := (k3.frm fun _ => False).heap (fun h => h) HB.out
    have HB3 := hide hB3
    have c0 := top_cells hM3.top 0
    have c2 := top_cells hM3.top 2
    have x0 := top_cells hB3 0
    have x1 := top_cells hB3 1
    have x2 := top_cells hB3 2
    simp only [List.getElem?_toArray, List.getElem?_cons_succ, List.getElem?_cons_zero] at c0 c2 x0 x1 x2
    have HM3 := hide hM3
    have hlt3 : w.heap.size < w3.heap.size := (Array.getElem?_eq_some_iff.1 hB3).1
    have HRP := hide (hrep.keep hM3.k0)
    have HK0 := hide hM3.k0
    have htw := tagT_wfK o
    clear hM3 hB3 k3 hs8 hi8 hZ3 h0w
    have HX := hide (show ro = if ¬ (Em.blk H n).1 = Em.tagT o then .err 1 else if ¬ (Em.blk H n).2.length = kt.length then .err 1 else if s.ws.length = 2000 then .err 7 else Em.kidsK (Em.valK H f) H n 0 kt (s.come n (.mk o m ks) fo) from by
      rw [hro.out]
      unfold Em.blkK
      rw [show ∀ a b : Em.PkO, (if Ty.op (.mk o m ks) = Em.wString then a else b) = b from fun a b => if_neg hns, HKTQ.out]
      rfl)
    have HSM := hide (smallH_of hrep)
    have HKL := hide (show kt.length ≤ 2 from by rw [← HKTQ.out]; exact Em.kidsT_len2 HOK.out)
    have HKS := hide (show ∀ k ∈ kt, Em.okS k = true from by rw [← HKTQ.out]; exact Em.okS_kidsT HOK.out)
    have htn := tag_no hns
    have htg1 : (Em.tagT o != 1) = true := by rw [bne_iff_ne]; exact htn
    have htg2 : (Em.tagT o == 1) = false := by rw [beq_eq_false_iff_ne]; exact htn
    go_wp2_with fail
    refine (heapTag w3 HRP.out n hn).mono ?_
    rintro e w' ⟨rfl, rfl⟩
    by_cases hbt : (Em.blk H n).1 = Em.tagT o
    case neg =>
      have hne : ((Em.blk H n).1 != Em.tagT o) = true := by
        rw [bne_iff_ne]
        exact hbt
      have HBT := hide hbt
      clear hbt x0 x1 x2
      go_wp2_with fail
      go_ret
      rw [HX.out, if_pos HBT.out]
      exact ⟨rfl, .inl rfl, HK0.out⟩
    have hne : ((Em.blk H n).1 != Em.tagT o) = false := by
      rw [hbt]
      simp
    have HX2 := hide (HX.out.trans (if_neg (fun h => h hbt)))
    have htx : Em.textH H n = none := by unfold Em.textH; rw [if_neg (by rw [hbt]; exact htn)]
    clear hbt
    go_wp2_with fail
    refine (heapLen w3 HRP.out n hn).mono ?_
    rintro e w' ⟨rfl, rfl⟩
    generalize hbl : (Em.blk H n).2.length = bl at *
    by_cases hlk : bl = kt.length
    case neg =>
      have hnl : ((bl : Int) != (kt.length : Int)) = true := by
        rw [bne_iff_ne]
        omega
      have HLK := hide hlk
      clear hlk x0 x1 x2 hbl
      go_wp2_with fail
      go_ret
      rw [HX2.out, if_pos HLK.out]
      exact ⟨rfl, .inl rfl, HK0.out⟩
    subst hlk
    have hnl : ((kt.length : Int) != (kt.length : Int)) = false := by simp
    have HX3 := hide (HX2.out.trans (if_neg (fun h => h rfl)))
    clear hbl
    go_wp2_with fail
    refine (shapeText w3 HRP.out n hn).mono ?_
    rintro e w4 ⟨k4, rfl⟩
    rw [htx]
    simp only [Option.isSome_none, Option.getD_none]
    clear htx x0 x1 x2
    have hM4 := HM3.out.keep k4
    have hB4 := (k4.frm fun _ => False).heap (fun h => h) HB3.out
    have c2 := top_cells hM4.top 2
    have x0 := top_cells hB4 0
    have x1 := top_cells hB4 1
    have x2 := top_cells hB4 2
    have hlw := fun ty => mapN_len hM4.map (t := 86) (by kernel_rfl) ty
    simp only [List.getElem?_toArray, List.getElem?_cons_succ, List.getElem?_cons_zero] at c2 x0 x1 x2
    have HM4 := hide hM4
    have HW4 := hide (HW3.out.tr (PWent.of_keep k4))
    have HT4 := hide (HT3.out.keep k4)
    have K4 := hide k4
    have HB4 := hide hB4
    clear hM4 hB4 k4
    by_cases hws : s.ws.length = 2000
    · have hwb : ((s.ws.length : Int) == 2000) = true := by simp; omega
      clear x0 x1 x2
      go_wp2_with fail
      go_ret
      rw [HX3.out, if_pos hws]
      exact ⟨rfl, .inr rfl, HM4.out.k0⟩
    have hws2 : s.ws.length < 2000 := by omega
    have hsv : seenV s.ws tys n = none := by unfold seenV; rw [hi]; rfl
    have HLEN := hide (fun (W : World) (k : Keep w4 W) (ty : TypeId) => mapN_len (HM4.out.map.frm (k.frm fun _ => False) fun h => h) (t := 86) (by kernel_rfl) ty)
    have hwb : ((s.ws.length : Int) == 2000) = false := by simp; omega
    go_wp2_with fail
    clear hlw hwb
    apply region_last 12 _ (by kernel_rfl) Keep Keep krg ktg krg ktg (fun _ _ h => h) [some 67, some 68, some 69, some 70, some 71, some 72, some 73, some 74, some 75, some 76, some 77, some 78, none] [eqG _ , eqG _ , eqG _ , eqG _ , eqG _ , eqG _ , eqG _ , eqG _ , eqG _ , fun us _ v => v = .int .i64 (s.ws.length : Int), eqG _ , eqG _ , fun _ _ _ => True] [⟨[], [], true, false, false⟩, ⟨[0], [], true, false, false⟩, ⟨[1], [], true, false, false⟩, ⟨[2], [], true, false, false⟩, ⟨[], [], true, false, false⟩, ⟨[], [], true, false, false⟩, ⟨[5], [], true, false, false⟩, ⟨[6], [], true, false, false⟩, ⟨[7], [], true, false, false⟩, ⟨[8], [], true, false, false⟩, ⟨[], [], true, false, false⟩, ⟨[9, 10], [], true, false, false⟩, ⟨[3, 4, 11], [], true, false, false⟩] [3, 4, 11] (by kernel_rfl) (by kernel_rfl) (by kernel_rfl) rfl (by kernel_rfl)
    · refine ⟨?_, ?_, ?_, ?_, ?_, ?_, ?_, ?_, ?_, ?_, ?_, ?_, trivial⟩ <;> (intro us W h9 hW hE hd hs K hK; obtain ⟨u0, u1, u2, u3, u4, u5, u6, u7, u8, u9, u10, u11, u12, rfl⟩ := rog 13 h9 rfl; clear h9; try simp only [DepG, AtG, and_true, relG, eqG, eqG1, eqG2, eqG3, gdG, gdG1, gnG, gnG1, List.getD_cons_zero, List.getD_cons_succ, List.getElem?_cons_succ, List.getElem?_cons_zero, Option.map_some, Option.getD_some, valsG, List.map_cons, List.map_nil, List.length_cons, List.length_nil] at hd)
      · ((try clear hd); clear hs; simp only [fillG, List.set_cons_zero, List.set_cons_succ]; refine want_n rfl ?_; go_wp2_with (first | fail); simp only [DoneG, fillG, List.set_cons_zero, List.set_cons_succ, relG, eqG, eqG1, eqG2, eqG3, gdG, gdG1, gnG, gnG1, List.getD_cons_zero, List.getD_cons_succ, List.getElem?_cons_succ, List.getElem?_cons_zero, Option.map_some, Option.getD_some, valsG, List.map_cons, List.map_nil, List.length_cons, List.length_nil]; exact ⟨_, rfl, (by first | with_reducible assumption | exact krg _ | exact Keep.al (krg _) _), fun _ _ => rfl⟩)
      · (have d0 := hd; clear hd; subst d0; clear hs; simp only [fillG, List.set_cons_zero, List.set_cons_succ]; refine want_n rfl ?_; go_wp2_with (first | fail); simp only [DoneG, fillG, List.set_cons_zero, List.set_cons_succ, relG, eqG, eqG1, eqG2, eqG3, gdG, gdG1, gnG, gnG1, List.getD_cons_zero, List.getD_cons_succ, List.getElem?_cons_succ, List.getElem?_cons_zero, Option.map_some, Option.getD_some, valsG, List.map_cons, List.map_nil, List.length_cons, List.length_nil]; exact ⟨_, rfl, (by first | with_reducible assumption | exact krg _ | exact Keep.al (krg _) _), fun _ _ => rfl⟩)
      · (have d1 := hd; clear hd; subst d1; clear hs; simp only [fillG, List.set_cons_zero, List.set_cons_succ]; refine want_n rfl ?_; go_wp2_with (first | fail); simp only [DoneG, fillG, List.set_cons_zero, List.set_cons_succ, relG, eqG, eqG1, eqG2, eqG3, gdG, gdG1, gnG, gnG1, List.getD_cons_zero, List.getD_cons_succ, List.getElem?_cons_succ, List.getElem?_cons_zero, Option.map_some, Option.getD_some, valsG, List.map_cons, List.map_nil, List.length_cons, List.length_nil]; exact ⟨_, rfl, (by first | with_reducible assumption | exact krg _ | exact Keep.al (krg _) _), fun _ _ => rfl⟩)
      · (have d2 := hd; clear hd; subst d2; clear hs; simp only [fillG, List.set_cons_zero, List.set_cons_succ]; have hKW := Keep.tr (Keep.dr (Keep.rf _)) (hE rfl); have c2 := Keep.cell hKW c2; have x0 := Keep.cell hKW x0; have x1 := Keep.cell hKW x1; have x2 := Keep.cell hKW x2; refine want_n rfl ?_; go_wp2_with (first | fail); simp only [DoneG, fillG, List.set_cons_zero, List.set_cons_succ, relG, eqG, eqG1, eqG2, eqG3, gdG, gdG1, gnG, gnG1, List.getD_cons_zero, List.getD_cons_succ, List.getElem?_cons_succ, List.getElem?_cons_zero, Option.map_some, Option.getD_some, valsG, List.map_cons, List.map_nil, List.length_cons, List.length_nil]; exact ⟨_, rfl, (by first | with_reducible assumption | exact krg _ | exact Keep.al (krg _) _), fun _ _ => rfl⟩)
      · ((try clear hd); clear hs; simp only [fillG, List.set_cons_zero, List.set_cons_succ]; refine want_n rfl ?_; go_wp2_with (first | fail); simp only [DoneG, fillG, List.set_cons_zero, List.set_cons_succ, relG, eqG, eqG1, eqG2, eqG3, gdG, gdG1, gnG, gnG1, List.getD_cons_zero, List.getD_cons_succ, List.getElem?_cons_succ, List.getElem?_cons_zero, Option.map_some, Option.getD_some, valsG, List.map_cons, List.map_nil, List.length_cons, List.length_nil]; exact ⟨_, rfl, (by first | with_reducible assumption | exact krg _ | exact Keep.al (krg _) _), fun _ _ => rfl⟩)
      · ((try clear hd); clear hs; simp only [fillG, List.set_cons_zero, List.set_cons_succ]; refine want_n rfl ?_; go_wp2_with (first | fail); simp only [DoneG, fillG, List.set_cons_zero, List.set_cons_succ, relG, eqG, eqG1, eqG2, eqG3, gdG, gdG1, gnG, gnG1, List.getD_cons_zero, List.getD_cons_succ, List.getElem?_cons_succ, List.getElem?_cons_zero, Option.map_some, Option.getD_some, valsG, List.map_cons, List.map_nil, List.length_cons, List.length_nil]; exact ⟨_, rfl, (by first | with_reducible assumption | exact krg _ | exact Keep.al (krg _) _), fun _ _ => rfl⟩)
      · (have d5 := hd; clear hd; subst d5; clear hs; simp only [fillG, List.set_cons_zero, List.set_cons_succ]; refine want_n rfl ?_; go_wp2_with (first | fail); simp only [DoneG, fillG, List.set_cons_zero, List.set_cons_succ, relG, eqG, eqG1, eqG2, eqG3, gdG, gdG1, gnG, gnG1, List.getD_cons_zero, List.getD_cons_succ, List.getElem?_cons_succ, List.getElem?_cons_zero, Option.map_some, Option.getD_some, valsG, List.map_cons, List.map_nil, List.length_cons, List.length_nil]; exact ⟨_, rfl, (by first | with_reducible assumption | exact krg _ | exact Keep.al (krg _) _), fun _ _ => rfl⟩)
      · (have d6 := hd; clear hd; subst d6; clear hs; simp only [fillG, List.set_cons_zero, List.set_cons_succ]; refine want_n rfl ?_; go_wp2_with (first | fail); simp only [DoneG, fillG, List.set_cons_zero, List.set_cons_succ, relG, eqG, eqG1, eqG2, eqG3, gdG, gdG1, gnG, gnG1, List.getD_cons_zero, List.getD_cons_succ, List.getElem?_cons_succ, List.getElem?_cons_zero, Option.map_some, Option.getD_some, valsG, List.map_cons, List.map_nil, List.length_cons, List.length_nil]; exact ⟨_, rfl, (by first | with_reducible assumption | exact krg _ | exact Keep.al (krg _) _), fun _ _ => rfl⟩)
      · (have d7 := hd; clear hd; subst d7; clear hs; simp only [fillG, List.set_cons_zero, List.set_cons_succ]; have hKW := Keep.tr (Keep.dr (Keep.rf _)) (hE rfl); have c2 := Keep.cell hKW c2; have x0 := Keep.cell hKW x0; have x1 := Keep.cell hKW x1; have x2 := Keep.cell hKW x2; refine want_n rfl ?_; go_wp2_with (first | fail); simp only [DoneG, fillG, List.set_cons_zero, List.set_cons_succ, relG, eqG, eqG1, eqG2, eqG3, gdG, gdG1, gnG, gnG1, List.getD_cons_zero, List.getD_cons_succ, List.getElem?_cons_succ, List.getElem?_cons_zero, Option.map_some, Option.getD_some, valsG, List.map_cons, List.map_nil, List.length_cons, List.length_nil]; exact ⟨_, rfl, (by first | with_reducible assumption | exact krg _ | exact Keep.al (krg _) _), fun _ _ => rfl⟩)
      · (have d8 := hd; clear hd; subst d8; clear hs; simp only [fillG, List.set_cons_zero, List.set_cons_succ]; have hKW := Keep.tr (Keep.dr (Keep.rf _)) (hE rfl); have c2 := Keep.cell hKW c2; have x0 := Keep.cell hKW x0; have x1 := Keep.cell hKW x1; have x2 := Keep.cell hKW x2; refine want_n rfl ?_; have hlw := fun ty => HLEN.out _ hKW ty; go_wp2_with fail; simp only [DoneG, fillG, List.set_cons_zero, List.set_cons_succ, relG, eqG, eqG1, eqG2, eqG3, gdG, gdG1, gnG, gnG1, List.getD_cons_zero, List.getD_cons_succ, List.getElem?_cons_succ, List.getElem?_cons_zero, Option.map_some, Option.getD_some, valsG, List.map_cons, List.map_nil, List.length_cons, List.length_nil]; exact ⟨_, rfl, (by first | with_reducible assumption | exact krg _ | exact Keep.al (krg _) _), fun W9 hk9 => rfl⟩)
      · ((try clear hd); clear hs; simp only [fillG, List.set_cons_zero, List.set_cons_succ]; have hKW := Keep.tr (Keep.dr (Keep.rf _)) (hE rfl); have c2 := Keep.cell hKW c2; have x0 := Keep.cell hKW x0; have x1 := Keep.cell hKW x1; have x2 := Keep.cell hKW x2; refine want_n rfl ?_; go_wp2_with (first | fail); simp only [DoneG, fillG, List.set_cons_zero, List.set_cons_succ, relG, eqG, eqG1, eqG2, eqG3, gdG, gdG1, gnG, gnG1, List.getD_cons_zero, List.getD_cons_succ, List.getElem?_cons_succ, List.getElem?_cons_zero, Option.map_some, Option.getD_some, valsG, List.map_cons, List.map_nil, List.length_cons, List.length_nil]; exact ⟨_, rfl, (by first | with_reducible assumption | exact krg _ | exact Keep.al (krg _) _), fun _ _ => rfl⟩)
      · (obtain ⟨d9, d10⟩ := hd; subst d9; subst d10; clear hs; simp only [fillG, List.set_cons_zero, List.set_cons_succ]; refine want_n rfl ?_; go_wp2_with (first | fail); simp only [DoneG, fillG, List.set_cons_zero, List.set_cons_succ, relG, eqG, eqG1, eqG2, eqG3, gdG, gdG1, gnG, gnG1, List.getD_cons_zero, List.getD_cons_succ, List.getElem?_cons_succ, List.getElem?_cons_zero, Option.map_some, Option.getD_some, valsG, List.map_cons, List.map_nil, List.length_cons, List.length_nil]; exact ⟨_, rfl, (by first | with_reducible assumption | exact krg _ | exact Keep.al (krg _) _), fun _ _ => rfl⟩)
    (intro us W5 h9 hW hE hA hl9; obtain ⟨u0, u1, u2, u3, u4, u5, u6, u7, u8, u9, u10, u11, u12, rfl⟩ := rog 13 h9 rfl; clear h9; clear hl9; simp only [AllG, AtG, and_true, relG, eqG, eqG1, eqG2, eqG3, gdG, gdG1, gnG, gnG1, List.getD_cons_zero, List.getD_cons_succ, List.getElem?_cons_succ, List.getElem?_cons_zero, Option.map_some, Option.getD_some, valsG, List.map_cons, List.map_nil, List.length_cons, List.length_nil] at hA; obtain ⟨d3, d4, d11⟩ := hA; subst d3; subst d4; subst d11; simp only [fillG, List.set_cons_zero, List.set_cons_succ]; have k5 := Keep.tr (Keep.dr (Keep.rf _)) hW; clear hW hE; refine want_n rfl ?_)
    have hM5 := HM4.out.keep k5
    obtain ⟨w6, hup, hm6, F6⟩ := hM5.map.put (P := Try.prog) Try.underlying86 Try.underlying36 n hn hsv (.agg #[.int .i64 (s.ws.length : Int), .string (str o), .int .i64 m, .slice A ks.length c])
    obtain ⟨hM6, hW6⟩ := hM5.came hi hws2 ⟨_, HT4.out.keep k5⟩ F6 hm6
    have HPU := hide (pkPuts hM6 fo (by omega) (by show s.b.length ≤ 500000000; omega))
    have HW6 := hide ((HW4.out.tr (PWent.of_keep k5)).tr hW6)
    have HW36 := hide ((PWent.of_keep (Keep.tr K4.out k5)).tr hW6)
    clear hM5 hm6 F6 hM6 hW6 c2 x0 x1 x2 k5
    go_wp2_with fail
    clear hup
    refine HPU.out.mono ?_
    rintro e w7 ⟨rfl, ov7, hM7, hW7⟩
    have HM7 := hide hM7
    have HW7 := hide (HW6.out.tr hW7)
    have HF37 := hide (HW36.out.tr hW7).frm
    clear hM7 hW7 HPU HW36
    have HX4 := hide (HX3.out.trans (if_neg hws))
    have HS7 := hide (HS8.out.frmI HI8.out HF37.out (fun k hk e => HM3.out.apart hk e) fun cs x h => h.frm HF37.out fun k hk e => HM3.out.apart hk e)
    have HX5 := hide (show (Em.Pk.put ⟨s.b, s.ws ++ [n], s.ty ++ [.mk o m ks]⟩ fo).b.length + 40040 * (2000 - (Em.Pk.put ⟨s.b, s.ws ++ [n], s.ty ++ [.mk o m ks]⟩ fo).ws.length) + 40020 ≤ 100000000 + 20020 * 0 from by
      have := Em.putN_len10 (v := fo) (by omega)
      simp only [Em.Pk.put, List.length_append, List.length_cons, List.length_nil]
      omega)
    have hcomeq : s.come n (.mk o m ks) fo = Em.Pk.put ⟨s.b, s.ws ++ [n], s.ty ++ [.mk o m ks]⟩ fo := rfl
    rw [hcomeq] at HX4
    have hwl7 : (Em.Pk.put ⟨s.b, s.ws ++ [n], s.ty ++ [.mk o m ks]⟩ fo).ws.length = s.ws.length + 1 := by simp [Em.Pk.put]
    have hwl8 := hide hwl7
    generalize Em.Pk.put ⟨s.b, s.ws ++ [n], s.ty ++ [.mk o m ks]⟩ fo = sc at *
    clear hcomeq hwl7
    have HHF := hide hf
    clear hf
    go_wp2_with fail
    go_loopw [100] (fun i W => ∃ (j : Nat) (s1 : Em.Pk) (Z1 : Nat → Prop) (ov1 : Value) (tys1 : List (Ty × List Value)), j ≤ kt.length ∧ i = .int .i64 (j : Int) ∧ Em.kidsK (Em.valK H f) H n 0 kt sc = Em.kidsK (Em.valK H f) H n j (kt.drop j) s1 ∧ PkM 88 B Z1 w0 W p mb (.pointer (some ⟨hp, 0, none⟩)) ov1 tys1 s1 ∧ PWent Z3 Z1 w7 W p mb ov7 ov1 ∧ s1.b.length + 40040 * (2000 - s1.ws.length) + 40020 ≤ 100000000 + 20020 * j ∧ sc.ws.length ≤ s1.ws.length) (fun i _ => kt.length - (intOf i).toNat)
    case atStart => exact ⟨0, sc, Z3, ov7, _, Nat.zero_le _, rfl, rfl, HM7.out, PWent.rf, HX5.out, Nat.le_refl _⟩
    case round =>
      obtain ⟨j, s1, Z1, ov1, tys1, hj, rfl, hka, hd1, hw1, hb1, hg1⟩ := hrel
      have HKA := hide hka
      have HD1 := hide hd1
      have HW1x := hide hw1
      have HSL := hide (HS7.out.frmI HI8.out hw1.frm (fun k hk e => HM7.out.apart hk e) fun cs x h => h.frm hw1.frm fun k hk e => HM7.out.apart hk e)
      have hkl := HKL.out
      clear hka hd1 hw1
      by_cases hlt : j < kt.length
      · have hlti : (j : Int) < (kt.length : Int) := by omega
        obtain ⟨A8', c8', e8, _, _, hr8⟩ := id HSL.out
        cases e8
        obtain ⟨ad, rfl, hcell⟩ := hr8 (by omega)
        obtain ⟨cs, hcs, hcl, hkt⟩ := hcell j hlt
        have HKT := hide (hkt.mono fun k hk => hk.imp id (HW1x.out.zs k))
        have HOKk := hide (HKS.out _ (List.getElem_mem hlt))
        have HKD := hide (kidsK_drop (Em.valK H f) H n kt j s1 hlt)
        generalize kt[j] = k at *
        cases dk with
        | zero => exact hkt.elim
        | succ dk =>
          obtain ⟨kv, rfl, kn, kS, _⟩ := hkt
          obtain ⟨kA, kc, rfl, _⟩ := kS
          have q0 := hcl 0 _ rfl
          rw [Nat.add_zero] at q0
          have q1 := cell_off (hcl 1 _ rfl)
          have q2 := cell_off (hcl 2 _ rfl)
          clear hcell hcl hr8
          have kW : Keep wr (wr.alloc (.cells #[.string (str k.op), .int .i64 k.n, .slice kA k.kids.length kc] 25)) := (by repeat (first | exact Keep.rf _ | assumption | apply Keep.al | apply Keep.dr | apply Keep.dn))
          have hMa := HD1.out.keep kW
          have ca0 := top_cells hMa.top 0
          simp only [List.getElem?_toArray, List.getElem?_cons_succ, List.getElem?_cons_zero] at ca0
          have HFL := hide (heapField _ (hrep.keep hMa.k0) n hn (j : Int))
          obtain ⟨fb, hfb⟩ := fieldT_eq (H := H) (n := n) (i := (j : Int))
          have hfin := Em.field_in HSM.out n (j : Int)
          have HVAL := hide (hval _ _ _ _ _ ((Em.field H n (j : Int)).getD 0) _ _ _ hMa (HKT.out.keep kW) HOKk.out (in_wf64 hfin) (by omega) (by have := HHF.out; have := hwl8.out; omega))
          have HROOM := hide (fun s2 (e : Em.valK H f ((Em.field H n (j : Int)).getD 0) k s1 = .ok s2) => Em.valK_room HSM.out f _ k s1 s2 hfin HD1.out.lim HOKk.out e)
          have HFB := hide hfb
          have KW := hide kW
          generalize (Em.field H n (j : Int)).getD 0 = fv at *
          clear kW hMa hfb hfin
          go_wp2_with fail
          refine HFL.out.mono ?_
          rintro e w' ⟨rfl, rfl⟩
          rw [HFB.out]
          go_wp2_with fail
          generalize World.alloc wr _ = wa at *
          refine HVAL.out.mono ?_
          intro e W2 hA
          generalize hy : Em.valK H f fv k s1 = y at *
          cases y with
          | err c9 =>
            obtain ⟨rfl, hc9, hk9⟩ := hA
            have HRES := hide (show ro = .err c9 from by
              have h1 := HKD.out
              rw [← HKA.out] at h1
              rw [HX4.out, h1])
            have hcn : (c9 != 0) = true := by
              rw [bne_iff_ne]
              omega
            have HK9 := hide hk9
            have HC9 := hide hc9
            clear hc9 hk9 q0 q1 q2 HVAL HKD HSL hy ca0
            go_wp2_with fail
            go_ret
            rw [HRES.out]
            exact ⟨rfl, HC9.out, HK9.out⟩
          | ok s2 =>
            obtain ⟨rfl, Z2, ov2, tys2, hd2, hw2⟩ := hA
            have hrm := HROOM.out s2 rfl
            have HKA2 := hide (show Em.kidsK (Em.valK H f) H n 0 kt sc = Em.kidsK (Em.valK H f) H n (j + 1) (kt.drop (j + 1)) s2 from by rw [HKA.out, HKD.out])
            have HD2 := hide hd2
            have HW2 := hide ((HW1x.out.tr (PWent.of_keep KW.out)).tr hw2)
            have HB2 := hide (show s2.b.length + 40040 * (2000 - s2.ws.length) + 40020 ≤ 100000000 + 20020 * (j + 1) ∧ sc.ws.length ≤ s2.ws.length from by
              obtain ⟨r1, r2, r3⟩ := hrm
              have := HD1.out.lim
              omega)
            clear hd2 hw2 hrm q0 q1 q2 HVAL HKD HSL hy ca0
            go_wp2_with fail
            go_roundw
            case rel => exact ⟨j + 1, s2, Z2, ov2, tys2, by omega, by go_num, HKA2.out, HD2.out, HW2.out, HB2.out.1, HB2.out.2⟩
            case measure => simp [intOf]; omega
      · have hjk : j = kt.length := by omega
        have HRES := hide (show ro = .ok s1 from by
          have h1 := HKA.out
          rw [List.drop_of_length_le (by omega)] at h1
          rw [HX4.out, h1]
          rfl)
        have hlti : ¬ (j : Int) < (kt.length : Int) := by omega
        clear hjk
        go_wp2_with fail
        go_ret
        rw [HRES.out]
        exact ⟨rfl, Z1, ov1, tys1, HD1.out, HW7.out.tr HW1x.out⟩
end
end Go.Proofs.Ytoehaijmkmdggaa
