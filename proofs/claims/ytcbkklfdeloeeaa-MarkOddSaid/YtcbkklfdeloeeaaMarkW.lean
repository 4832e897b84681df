/- Walk: a type as bytes (package mark). -/
import Derived.Test.YtcbkklfdeloeeaaMarkP
namespace Go.Proofs.Ytcbkklfdeloeeaa
open Go.RowKit
open Em (Ty)
set_option linter.unusedVariables false
set_option linter.unusedSimpArgs false
set_option maxRecDepth 100000
theorem u8n (x : Int) : Value.int .u8 (x % 256) = bv (UInt8.ofNat (x % 256).toNat) := by
  unfold bv
  rw [UInt8.toNat_ofNat', Nat.mod_eq_of_lt (by omega)]
  congr 1
  omega
/-- One byte in a row of the call's own. -/
def OneB (w0 : World) (b : UInt8) (W : World) (v : Value) : Prop := ∃ A c, v = .slice A 1 c ∧ Ob W w0.heap.size 5 (.slice A 1 c) [b]
theorem OneB.keep {w0 W W' : World} {b : UInt8} {v : Value} (h : OneB w0 b W v) (k : Keep W W') : OneB w0 b W' v := by
  obtain ⟨A, c, h1, h2⟩ := h
  exact ⟨A, c, h1, h2.keep k⟩
def Ops11 (W : World) (v : Value) : Prop := ∃ A c, v = .slice A 11 c ∧ Sl 1 KS W (.slice A 11 c) Em.opsL
theorem Ops11.keep {W W' : World} {v : Value} (h : Ops11 W v) (k : Keep W W') : Ops11 W' v := by
  obtain ⟨A, c, h1, h2⟩ := h
  exact ⟨A, c, h1, h2.keep k fun _ _ h => h⟩
theorem nodes_kid {ks : List Ty} {k : Ty} (hk : k ∈ ks) : nodes k ≤ nodesL ks := by
  induction ks with
  | nil => simp at hk
  | cons a ks ih =>
    rw [nodesL]
    rcases List.mem_cons.1 hk with rfl | h
    · omega
    · have := ih h; omega
set_option maxHeartbeats 8000000 in
theorem markPut (d : Nat) : ∀ (t : Ty) (w : World) (cs : List Value), TyK d w cs t → nodes t ≤ 100000 → Calls Try.prog 57 #[.agg cs.toArray] w (RetB w (Em.mput t)) := by
  induction d with
  | zero => intro t w cs h; exact h.elim
  | succ d ih =>
    intro t w cs h hnd
    obtain ⟨kv, rfl, hn, kA, kc, rfl, hlc, hcm, hr⟩ := h
    have IH := hide ih
    have hlen := mput_len t
    have hM : Em.mput t = UInt8.ofNat (Em.opI t.op % 256).toNat :: ((if t.op = Em.wVar then Em.putN (t.n % 18446744073709551616).toNat else []) ++ Em.mputL t.kids) := by cases t; rfl
    have hkn : ∀ k ∈ t.kids, nodes k ≤ 100000 := by
      cases t with
      | mk o n ks =>
        intro k hk
        rw [nodes] at hnd
        have := nodes_kid (ks := ks) hk
        omega
    have hML : (Em.mput t).length ≤ 1100000 := by omega
    have HM := hide hM
    have HML := hide hML
    have HKN := hide hkn
    clear ih hM hML hlen hkn
    generalize Em.mput t = M at *
    generalize t.op = o at *
    generalize t.n = n at *
    generalize t.kids = ks at *
    go_enter Try.func57, Try.ntmps57
    go_wp2_with fail
    generalize hW4 : w.alloc (.cells #[.string (str o), .int .i64 n, .slice kA ks.length kc] 26) = W4
    have k4 : Keep w W4 := by rw [← hW4]; exact (by repeat (first | exact Keep.rf _ | assumption | apply Keep.al | apply Keep.dr | apply Keep.dn))
    have hb0 : W4.heap[w.heap.size]? = some (.cells #[.string (str o), .int .i64 n, .slice kA ks.length kc] 26) := by
      rw [← hW4]
      exact heap_alloc_new w _
    have e0 := top_cells hb0 0
    simp only [List.getElem?_toArray, List.getElem?_cons_succ, List.getElem?_cons_zero] at e0
    have hs4 : w.heap.size < W4.heap.size := (Array.getElem?_eq_some_iff.1 hb0).1
    clear hW4
    apply region_all (by kernel_rfl) Keep Keep krg ktg krg ktg (fun _ _ h => h) [some 6, some 7, some 8, some 9, some 10, some 11, some 3] [fun us W v => Ops11 W v, eqG _ , eqG _ , fun us _ v => v = .int .i64 (Em.opI o), fun us _ v => v = .int .u8 (Em.opI o % 256), fun us W v => OneB W4 (UInt8.ofNat (Em.opI o % 256).toNat) W v, fun us _ v => v = (us.getD 0 undef)] [⟨[], [], true, false, false⟩, ⟨[], [], true, false, false⟩, ⟨[1], [], true, false, false⟩, ⟨[0, 2], [], true, false, false⟩, ⟨[3], [], true, false, false⟩, ⟨[4], [], true, false, false⟩, ⟨[5], [], true, false, false⟩] [0, 5, 6] (by kernel_rfl) (by kernel_rfl) 
    · refine ⟨?_, ?_, ?_, ?_, ?_, ?_, ?_, trivial⟩
      · (intro us W h9 hW hE hd hs K hK; obtain ⟨u0, u1, u2, u3, u4, u5, u6, rfl⟩ := rog 7 h9 rfl; clear h9; clear hd; clear hs; simp only [fillG, List.set_cons_zero, List.set_cons_succ]; have hKW := Keep.tr (Keep.dr (Keep.rf _)) (hE rfl); have e0 := Keep.cell hKW e0; refine want_n rfl ?_; go_wp2_with (first | (go_at_call 92; refine (markOps _).mono ?_; rintro e w9 ⟨A9, c9, rfl, s9, hk9⟩) | fail); simp only [DoneG, fillG, List.set_cons_zero, List.set_cons_succ, relG, eqG, eqG1, eqG2, eqG3, gdG, gdG1, gnG, gnG1, List.getD_cons_zero, List.getD_cons_succ, List.getElem?_cons_succ, List.getElem?_cons_zero, Option.map_some, Option.getD_some, valsG, List.map_cons, List.map_nil, List.length_cons, List.length_nil]; exact ⟨_, rfl, (by first | with_reducible assumption | exact krg _ | exact Keep.al (krg _) _), fun W9 hk9 => Ops11.keep ⟨A9, c9, rfl, s9⟩ hk9⟩)
      · (intro us W h9 hW hE hd hs K hK; obtain ⟨u0, u1, u2, u3, u4, u5, u6, rfl⟩ := rog 7 h9 rfl; clear h9; clear hd; clear hs; simp only [fillG, List.set_cons_zero, List.set_cons_succ]; refine want_n rfl ?_; go_wp2_with (first | fail); simp only [DoneG, fillG, List.set_cons_zero, List.set_cons_succ, relG, eqG, eqG1, eqG2, eqG3, gdG, gdG1, gnG, gnG1, List.getD_cons_zero, List.getD_cons_succ, List.getElem?_cons_succ, List.getElem?_cons_zero, Option.map_some, Option.getD_some, valsG, List.map_cons, List.map_nil, List.length_cons, List.length_nil]; exact ⟨_, rfl, (by first | with_reducible assumption | exact krg _ | exact Keep.al (krg _) _), fun _ _ => rfl⟩)
      · (intro us W h9 hW hE hd hs K hK; obtain ⟨u0, u1, u2, u3, u4, u5, u6, rfl⟩ := rog 7 h9 rfl; clear h9; simp only [DepG, AtG, and_true, relG, eqG, eqG1, eqG2, eqG3, gdG, gdG1, gnG, gnG1, List.getD_cons_zero, List.getD_cons_succ, List.getElem?_cons_succ, List.getElem?_cons_zero, Option.map_some, Option.getD_some, valsG, List.map_cons, List.map_nil, List.length_cons, List.length_nil] at hd; have d1 := hd; clear hd; subst d1; clear hs; simp only [fillG, List.set_cons_zero, List.set_cons_succ]; have hKW := Keep.tr (Keep.dr (Keep.rf _)) (hE rfl); have e0 := Keep.cell hKW e0; refine want_n rfl ?_; go_wp2_with (first | fail); simp only [DoneG, fillG, List.set_cons_zero, List.set_cons_succ, relG, eqG, eqG1, eqG2, eqG3, gdG, gdG1, gnG, gnG1, List.getD_cons_zero, List.getD_cons_succ, List.getElem?_cons_succ, List.getElem?_cons_zero, Option.map_some, Option.getD_some, valsG, List.map_cons, List.map_nil, List.length_cons, List.length_nil]; exact ⟨_, rfl, (by first | with_reducible assumption | exact krg _ | exact Keep.al (krg _) _), fun _ _ => rfl⟩)
      · (intro us W h9 hW hE hd hs K hK; obtain ⟨u0, u1, u2, u3, u4, u5, u6, rfl⟩ := rog 7 h9 rfl; clear h9; simp only [DepG, AtG, and_true, relG, eqG, eqG1, eqG2, eqG3, gdG, gdG1, gnG, gnG1, List.getD_cons_zero, List.getD_cons_succ, List.getElem?_cons_succ, List.getElem?_cons_zero, Option.map_some, Option.getD_some, valsG, List.map_cons, List.map_nil, List.length_cons, List.length_nil] at hd; obtain ⟨d0, d2⟩ := hd; obtain ⟨A0, c0, rfl, o0⟩ := d0; subst d2; clear hs; simp only [fillG, List.set_cons_zero, List.set_cons_succ]; have hKW := Keep.tr (Keep.dr (Keep.rf _)) (hE rfl); have e0 := Keep.cell hKW e0; refine want_n rfl ?_; go_wp2_with (first | (go_at_call 91; refine (strIndex _ _ _ o o0).mono ?_; rintro e w9 ⟨rfl, hk9⟩) | fail); simp only [DoneG, fillG, List.set_cons_zero, List.set_cons_succ, relG, eqG, eqG1, eqG2, eqG3, gdG, gdG1, gnG, gnG1, List.getD_cons_zero, List.getD_cons_succ, List.getElem?_cons_succ, List.getElem?_cons_zero, Option.map_some, Option.getD_some, valsG, List.map_cons, List.map_nil, List.length_cons, List.length_nil]; exact ⟨_, rfl, (by first | with_reducible assumption | exact krg _ | exact Keep.al (krg _) _), fun _ _ => rfl⟩)
      · (intro us W h9 hW hE hd hs K hK; obtain ⟨u0, u1, u2, u3, u4, u5, u6, rfl⟩ := rog 7 h9 rfl; clear h9; simp only [DepG, AtG, and_true, relG, eqG, eqG1, eqG2, eqG3, gdG, gdG1, gnG, gnG1, List.getD_cons_zero, List.getD_cons_succ, List.getElem?_cons_succ, List.getElem?_cons_zero, Option.map_some, Option.getD_some, valsG, List.map_cons, List.map_nil, List.length_cons, List.length_nil] at hd; have d3 := hd; clear hd; subst d3; clear hs; simp only [fillG, List.set_cons_zero, List.set_cons_succ]; have hKW := Keep.tr (Keep.dr (Keep.rf _)) (hE rfl); have e0 := Keep.cell hKW e0; refine want_n rfl ?_; go_wp2_with (first | fail); simp only [DoneG, fillG, List.set_cons_zero, List.set_cons_succ, relG, eqG, eqG1, eqG2, eqG3, gdG, gdG1, gnG, gnG1, List.getD_cons_zero, List.getD_cons_succ, List.getElem?_cons_succ, List.getElem?_cons_zero, Option.map_some, Option.getD_some, valsG, List.map_cons, List.map_nil, List.length_cons, List.length_nil]; exact ⟨_, rfl, (by first | with_reducible assumption | exact krg _ | exact Keep.al (krg _) _), fun _ _ => rfl⟩)
      · (intro us W h9 hW hE hd hs K hK; obtain ⟨u0, u1, u2, u3, u4, u5, u6, rfl⟩ := rog 7 h9 rfl; clear h9; simp only [DepG, AtG, and_true, relG, eqG, eqG1, eqG2, eqG3, gdG, gdG1, gnG, gnG1, List.getD_cons_zero, List.getD_cons_succ, List.getElem?_cons_succ, List.getElem?_cons_zero, Option.map_some, Option.getD_some, valsG, List.map_cons, List.map_nil, List.length_cons, List.length_nil] at hd; have d4 := hd; clear hd; subst d4; clear hs; simp only [fillG, List.set_cons_zero, List.set_cons_succ]; have hKW := Keep.tr (Keep.dr (Keep.rf _)) (hE rfl); have e0 := Keep.cell hKW e0; refine want_n rfl ?_; go_wp2_with (first | fail); simp only [DoneG, fillG, List.set_cons_zero, List.set_cons_succ, relG, eqG, eqG1, eqG2, eqG3, gdG, gdG1, gnG, gnG1, List.getD_cons_zero, List.getD_cons_succ, List.getElem?_cons_succ, List.getElem?_cons_zero, Option.map_some, Option.getD_some, valsG, List.map_cons, List.map_nil, List.length_cons, List.length_nil]; exact ⟨_, rfl, (by first | with_reducible assumption | exact krg _ | exact Keep.al (krg _) _), fun W9 hk9 => OneB.keep ⟨_, _, rfl, Ob.new [UInt8.ofNat (Em.opI o % 256).toNat] (by rw [u8n]; rfl) rfl rfl (Below.size hKW) (by simp)⟩ hk9⟩)
      · (intro us W h9 hW hE hd hs K hK; obtain ⟨u0, u1, u2, u3, u4, u5, u6, rfl⟩ := rog 7 h9 rfl; clear h9; simp only [DepG, AtG, and_true, relG, eqG, eqG1, eqG2, eqG3, gdG, gdG1, gnG, gnG1, List.getD_cons_zero, List.getD_cons_succ, List.getElem?_cons_succ, List.getElem?_cons_zero, Option.map_some, Option.getD_some, valsG, List.map_cons, List.map_nil, List.length_cons, List.length_nil] at hd; have d5 := hd; clear hd; clear hs; simp only [fillG, List.set_cons_zero, List.set_cons_succ]; have hKW := Keep.tr (Keep.dr (Keep.rf _)) (hE rfl); have e0 := Keep.cell hKW e0; refine want_n rfl ?_; go_wp2_with (first | fail); simp only [DoneG, fillG, List.set_cons_zero, List.set_cons_succ, relG, eqG, eqG1, eqG2, eqG3, gdG, gdG1, gnG, gnG1, List.getD_cons_zero, List.getD_cons_succ, List.getElem?_cons_succ, List.getElem?_cons_zero, Option.map_some, Option.getD_some, valsG, List.map_cons, List.map_nil, List.length_cons, List.length_nil]; exact ⟨_, rfl, (by first | with_reducible assumption | exact krg _ | exact Keep.al (krg _) _), fun _ _ => rfl⟩)
    (intro us W7 h9 hW hE hA; obtain ⟨u0, u1, u2, u3, u4, u5, u6, rfl⟩ := rog 7 h9 rfl; clear h9; simp only [AllG, AtG, and_true, relG, eqG, eqG1, eqG2, eqG3, gdG, gdG1, gnG, gnG1, List.getD_cons_zero, List.getD_cons_succ, List.getElem?_cons_succ, List.getElem?_cons_zero, Option.map_some, Option.getD_some, valsG, List.map_cons, List.map_nil, List.length_cons, List.length_nil] at hA; obtain ⟨d0, d5, d6⟩ := hA; obtain ⟨A0, c0, rfl, o0⟩ := d0; subst d6; simp only [fillG, List.set_cons_zero, List.set_cons_succ]; have k7 := Keep.tr (Keep.dr (Keep.rf _)) hW; clear hW hE)
    obtain ⟨A5, c5, rfl, o5x⟩ := d5
    have HNE := hide (show ∀ k, (Value.slice A5 1 c5).ownBlock = some k → k ≠ w.heap.size from fun k hk e => by
      have := (World.ownsRow.lt (show W7.ownsRow _ _ _ _ _ _ from o5x) k hk).1
      omega)
    have o5 : Ob W7 w.heap.size 5 (.slice A5 1 c5) _ := o5x.lower k4.size
    have kw7 := Keep.tr k4 k7
    have hb7 := (k7.frm fun _ => False).heap (fun h => h) hb0
    have x0 := top_cells hb7 0
    have x1 := top_cells hb7 1
    have x2 := top_cells hb7 2
    simp only [List.getElem?_toArray, List.getElem?_cons_succ, List.getElem?_cons_zero] at x0 x1 x2
    have O5 := hide o5
    clear o0 o5 hb0 hb7 e0
    by_cases hv : o = Em.wVar
    · have h1c : (str o).toList = [118, 97, 114] := by rw [str_list, hv]; rfl
      have hP := varPut (n % 18446744073709551616).toNat (by omega) W7
      rw [Int.toNat_of_nonneg (by omega)] at hP
      have HQ := hide (show (UInt8.ofNat (Em.opI o % 256).toNat :: Em.putN (n % 18446744073709551616).toNat) ++ Em.mputL (ks.drop 0) = M from by
        rw [HM.out, if_pos hv, List.drop_zero]
        rfl)
      have hpl := Em.putN_len10 (v := (n % 18446744073709551616).toNat) (by omega)
      have HPP := hide hP
      generalize Em.putN (n % 18446744073709551616).toNat = pn at *
      generalize UInt8.ofNat (Em.opI o % 256).toNat = hd at *
      clear hv hP
      go_wp2_with fail
      refine HPP.out.mono ?_
      rintro e w8 ⟨v8, rfl, o8, k8⟩
      obtain ⟨A8, c8, rfl⟩ := own_slice (show w8.ownsRow _ _ _ _ _ _ from o8)
      replace x2 := Keep.cell k8 x2
      have kw8 := Keep.tr kw7 k8
      go_wp2_with (first
        | (at_builtin; go_loud (refine appB (w0 := w) rfl (.tmp 15) (.tmp 19) rfl _ [hd] rfl (O5.out.keep k8) _ pn rfl o8.bs kw8 (by simp; omega) ?_); intro v9 w9 ho9 hk9 hg9 hat9; have x29 := (Frm.of_grown (S := fun k => (Value.slice A5 1 c5).ownBlock = some k) hg9 fun _ e => e).cell (a := ⟨w.heap.size, 2, none⟩) (fun e => HNE.out _ e rfl) x2; have HO9 := hide ho9; clear ho9 hg9 hat9)
        | fail)
      go_loopw [3, 24] (fun b i W => ∃ (j : Nat) (q : List UInt8), j ≤ ks.length ∧ i = .int .i64 j ∧ q ++ Em.mputL (ks.drop j) = M ∧ Obs W w.heap.size b q ∧ Keep w W) (fun _ i _ => ks.length - (intOf i).toNat)
      case atStart => exact ⟨0, _, Nat.zero_le _, rfl, HQ.out, HO9.out, (by repeat (first | exact Keep.rf _ | assumption | apply Keep.al | apply Keep.dr | apply Keep.dn))⟩
      case round =>
        obtain ⟨j, q, hj, rfl, hx, ho, hkw⟩ := hrel
        have kw : Keep w wr := hkw
        have HX := hide hx
        have HO := hide ho
        obtain ⟨bA, bc, rfl⟩ := own_slice (show wr.ownsRow _ _ _ _ _ _ from ho)
        clear hx ho
        by_cases hlt : j < ks.length
        · have hlti : (decide ((j : Int) < (ks.length : Int))) = true := by simp; omega
          obtain ⟨ad, rfl, hcell⟩ := hr (by omega)
          obtain ⟨cs, hcs, hcl, hkt⟩ := hcell j hlt
          have hkt0 := hide hkt
          have HDR := hide (show Em.mputL (ks.drop j) = Em.mput ks[j] ++ Em.mputL (ks.drop (j + 1)) from by rw [List.drop_eq_getElem_cons hlt, Em.mputL])
          have HKD := hide (HKN.out _ (List.getElem_mem hlt))
          generalize ks[j] = kt at *
          cases d with
          | zero => exact hkt.elim
          | succ d =>
            obtain ⟨kv, rfl, kn, qA, qc, rfl, _⟩ := hkt
            have c0 := Keep.cell kw (hcl 0 _ rfl)
            rw [Nat.add_zero] at c0
            have c1 := cell_off (Keep.cell kw (hcl 1 _ rfl))
            have c2 := cell_off (Keep.cell kw (hcl 2 _ rfl))
            clear hcell hcl hr
            have hon : (q ++ Em.mput kt) ++ Em.mputL (ks.drop (j + 1)) = M := by rw [← HX.out, HDR.out, List.append_assoc]
            have hll : q.length + (Em.mput kt).length ≤ 1100000 := by
              have := HML.out
              rw [← hon, List.length_append, List.length_append] at this
              omega
            have HON := hide hon
            clear hon
            go_wp2_with fail
            refine (IH.out kt _ _ (hkt0.out.keep (Keep.tr kw (by repeat (first | exact Keep.rf _ | assumption | apply Keep.al | apply Keep.dr | apply Keep.dn)))) HKD.out).mono ?_
            rintro e w6 ⟨v6, rfl, o6, k6⟩
            have k7 : Keep wr w6 := Keep.tr (by repeat (first | exact Keep.rf _ | assumption | apply Keep.al | apply Keep.dr | apply Keep.dn)) k6
            obtain ⟨A6, c6, rfl⟩ := own_slice (show w6.ownsRow _ _ _ _ _ _ from o6)
            go_wp2_with (first
              | (at_builtin; go_loud (refine appB (w0 := w) rfl (.tmp 28) (.tmp 30) rfl _ q rfl (HO.out.keep k7) _ (Em.mput kt) rfl o6.bs (Keep.tr kw k7) (by omega) ?_); intro v8 w8 ho8 hk8 hg8 hat8)
              | fail)
            have HO8 := hide ho8
            have k8 : Keep w w8 := hk8
            clear ho8 hg8 hat8
            go_roundw
            case rel => exact ⟨j + 1, _, by omega, by go_num, HON.out, HO8.out, k8⟩
            case measure => simp [intOf]; omega
        · have hlti : (decide ((j : Int) < (ks.length : Int))) = false := by simp; omega
          have hfin := hide (show q = M from by rw [← HX.out, List.drop_of_length_le (by omega), Em.mputL, List.append_nil])
          go_wp2_with fail
          go_ret
          exact ⟨_, rfl, by rw [← hfin.out]; exact HO.out, kw⟩
    · have hvb : ((str o).toList == [118, 97, 114]) = false := by rw [opB]; exact decide_eq_false hv
      have HQ := hide (show [UInt8.ofNat (Em.opI o % 256).toNat] ++ Em.mputL (ks.drop 0) = M from by
        rw [HM.out, if_neg hv, List.drop_zero]
        rfl)
      generalize UInt8.ofNat (Em.opI o % 256).toNat = hd at *
      clear hv
      go_wp2_with fail
      go_loopw [3, 24] (fun b i W => ∃ (j : Nat) (q : List UInt8), j ≤ ks.length ∧ i = .int .i64 j ∧ q ++ Em.mputL (ks.drop j) = M ∧ Obs W w.heap.size b q ∧ Keep w W) (fun _ i _ => ks.length - (intOf i).toNat)
      case atStart => exact ⟨0, [hd], Nat.zero_le _, rfl, HQ.out, O5.out, (by repeat (first | exact Keep.rf _ | assumption | apply Keep.al | apply Keep.dr | apply Keep.dn))⟩
      case round =>
        obtain ⟨j, q, hj, rfl, hx, ho, hkw⟩ := hrel
        have kw : Keep w wr := hkw
        have HX := hide hx
        have HO := hide ho
        obtain ⟨bA, bc, rfl⟩ := own_slice (show wr.ownsRow _ _ _ _ _ _ from ho)
        clear hx ho
        by_cases hlt : j < ks.length
        · have hlti : (decide ((j : Int) < (ks.length : Int))) = true := by simp; omega
          obtain ⟨ad, rfl, hcell⟩ := hr (by omega)
          obtain ⟨cs, hcs, hcl, hkt⟩ := hcell j hlt
          have hkt0 := hide hkt
          have HDR := hide (show Em.mputL (ks.drop j) = Em.mput ks[j] ++ Em.mputL (ks.drop (j + 1)) from by rw [List.drop_eq_getElem_cons hlt, Em.mputL])
          have HKD := hide (HKN.out _ (List.getElem_mem hlt))
          generalize ks[j] = kt at *
          cases d with
          | zero => exact hkt.elim
          | succ d =>
            obtain ⟨kv, rfl, kn, qA, qc, rfl, _⟩ := hkt
            have c0 := Keep.cell kw (hcl 0 _ rfl)
            rw [Nat.add_zero] at c0
            have c1 := cell_off (Keep.cell kw (hcl 1 _ rfl))
            have c2 := cell_off (Keep.cell kw (hcl 2 _ rfl))
            clear hcell hcl hr
            have hon : (q ++ Em.mput kt) ++ Em.mputL (ks.drop (j + 1)) = M := by rw [← HX.out, HDR.out, List.append_assoc]
            have hll : q.length + (Em.mput kt).length ≤ 1100000 := by
              have := HML.out
              rw [← hon, List.length_append, List.length_append] at this
              omega
            have HON := hide hon
            clear hon
            go_wp2_with fail
            refine (IH.out kt _ _ (hkt0.out.keep (Keep.tr kw (by repeat (first | exact Keep.rf _ | assumption | apply Keep.al | apply Keep.dr | apply Keep.dn)))) HKD.out).mono ?_
            rintro e w6 ⟨v6, rfl, o6, k6⟩
            have k7 : Keep wr w6 := Keep.tr (by repeat (first | exact Keep.rf _ | assumption | apply Keep.al | apply Keep.dr | apply Keep.dn)) k6
            obtain ⟨A6, c6, rfl⟩ := own_slice (show w6.ownsRow _ _ _ _ _ _ from o6)
            go_wp2_with (first
              | (at_builtin; go_loud (refine appB (w0 := w) rfl (.tmp 28) (.tmp 30) rfl _ q rfl (HO.out.keep k7) _ (Em.mput kt) rfl o6.bs (Keep.tr kw k7) (by omega) ?_); intro v8 w8 ho8 hk8 hg8 hat8)
              | fail)
            have HO8 := hide ho8
            have k8 : Keep w w8 := hk8
            clear ho8 hg8 hat8
            go_roundw
            case rel => exact ⟨j + 1, _, by omega, by go_num, HON.out, HO8.out, k8⟩
            case measure => simp [intOf]; omega
        · have hlti : (decide ((j : Int) < (ks.length : Int))) = false := by simp; omega
          have hfin := hide (show q = M from by rw [← HX.out, List.drop_of_length_le (by omega), Em.mputL, List.append_nil])
          go_wp2_with fail
          go_ret
          exact ⟨_, rfl, by rw [← hfin.out]; exact HO.out, kw⟩
end Go.Proofs.Ytcbkklfdeloeeaa
