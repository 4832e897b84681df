/- Walk: bytes read as a program (the reference). Printed by gen_codes.py. -/
import Derived.Test.YtcbkklfdeloeeaaCodeR
namespace Go.Proofs.Ytcbkklfdeloeeaa
open Go.RowKit
open Em (Prg)
set_option linter.unusedVariables false
set_option linter.unusedSimpArgs false
set_option maxRecDepth 100000
/-- A text was read. -/
def TxtAt (tt : Nat) (w wr : World) (p : Nat) (st : Option (List UInt8)) (W : World) (v : Value) : Prop :=
  ∃ x, v = sv x ∧ x.length ≤ 2000 ∧ (∀ t r, texS st = some (t, r) → x = t) ∧ StC tt w W p ((texS st).map fun x => x.2) ∧ Frm (· = p) wr W
theorem TxtAt.keep {tt : Nat} {w wr W W' : World} {p : Nat} {st : Option (List UInt8)} {v : Value} (h : TxtAt tt w wr p st W v) (k : Keep W W') : TxtAt tt w wr p st W' v := by
  obtain ⟨x, h1, h2, h3, h4, h5⟩ := h
  exact ⟨x, h1, h2, h3, h4.keep k, h5.tr (k.frm _)⟩
set_option maxHeartbeats 32000000 in
theorem refRead13 (w : World) (v : Value) (l : List UInt8) (hs : Bs w v l) : Calls Try.prog 25 #[v] w (ReadPR w l) := by
  have HS := hide hs
  obtain ⟨A, c, rfl, hlc, hcm, _⟩ := hs
  have hz := heap_alloc_new w (.cells #[.int .i64 0, .slice none 0 0, .slice none 0 0] 36)
  have hz2 : ((w.alloc (.cells #[.int .i64 0, .slice none 0 0, .slice none 0 0] 36)).alloc (.cells #[.slice A l.length c, .bool true] 96)).heap[w.heap.size]? = some (.cells #[.int .i64 0, .slice none 0 0, .slice none 0 0] 36) := ((Keep.al (Keep.rf _) _).frm fun _ => False).heap (fun h => h) hz
  have hp2 := new_second w (.cells #[.int .i64 0, .slice none 0 0, .slice none 0 0] 36) (.cells #[.slice A l.length c, .bool true] 96)
  have k2 : Keep w ((w.alloc (.cells #[.int .i64 0, .slice none 0 0, .slice none 0 0] 36)).alloc (.cells #[.slice A l.length c, .bool true] 96)) := (by repeat (first | exact Keep.rf _ | assumption | apply Keep.al | apply Keep.dr | apply Keep.dn))
  have hst2 : StC 96 w _ (w.heap.size + 1) (some l) := ⟨A, c, HS.out, hp2⟩
  have HC := hide (refNum13 w _ (w.heap.size + 1) 4 (some l) k2 (by omega) hst2)
  clear hz hp2 hst2
  go_enter Try.func25, Try.ntmps25
  go_wp2_with fail
  generalize World.alloc (World.alloc w _) _ = W2 at *
  refine HC.out.mono ?_
  rintro e w3 ⟨rfl, hst3, hF3⟩
  have hz3 := hF3.heap (fun e => by have e : w.heap.size = w.heap.size + 1 := e; omega) hz2
  have k3 : Keep w w3 := Frm.keep k2 hF3 fun i e => by have e : i = w.heap.size + 1 := e; omega
  have hlt3 : w.heap.size + 1 < w3.heap.size := hst3.lt
  have hdv := cntV_le 4 (some l)
  generalize hd : cntV 4 (some l) = d at *
  generalize hs1 : (cntS 4 (some l)).map (fun x => x.2) = st1 at *
  have HD := hide hd
  have HS1 := hide hs1
  clear hz2 k2 HC hF3 hd hs1
  go_wp2_with fail
  have k34 : Keep w3 (w3.alloc (.cells #[.int .i64 (d : Int), .slice none 0 0, .slice none 0 0] 36)) := (by repeat (first | exact Keep.rf _ | assumption | apply Keep.al | apply Keep.dr | apply Keep.dn))
  have hz4 := (k34.frm fun _ => False).heap (fun h => h) hz3
  have hb4 := heap_alloc_new w3 (.cells #[.int .i64 (d : Int), .slice none 0 0, .slice none 0 0] 36)
  have hst4 := hst3.keep k34
  have k4 := Keep.tr k3 k34
  have hs4 : (w3.alloc (.cells #[.int .i64 (d : Int), .slice none 0 0, .slice none 0 0] 36)).heap.size = w3.heap.size + 1 := size_alloc _ _
  clear hz3 hst3 k34 k3
  generalize World.alloc w3 _ = W5 at *
  have HC := hide (refNum13 w W5 (w.heap.size + 1) 2000 st1 k4 (by omega) hst4)
  refine HC.out.mono ?_
  rintro e w6 ⟨rfl, hst6, hF6⟩
  have hnv := cntV_le 2000 st1
  generalize hn0 : cntV 2000 st1 = n0 at *
  generalize hs2 : (cntS 2000 st1).map (fun x => x.2) = st2 at *
  have HN0 := hide hn0
  have HS2 := hide hs2
  generalize hpp : w.heap.size + 1 = p at *
  generalize hbb : w3.heap.size = b5 at *
  have hwp : w.heap.size < p := by omega
  have hpb : p < b5 := by omega
  have hb5 : b5 < W5.heap.size := by omega
  have hst : RdS 96 w W5 w6 p b5 (d : Int) n0 st2 st2 (.slice none 0 0) (.slice none 0 0) [] :=
    ⟨⟨by simp, .inl ⟨rfl, rfl⟩⟩, hF6.heap (fun e => by have e : b5 = p := e; omega) hb4, hF6.heap (fun e => by have e : w.heap.size = p := e; omega) hz4, Frm.keep k4 hF6 fun i e => by have e : i = p := e; omega, hF6.size, hst6, (fun h => by rw [h]; rfl), fun x e => by
      rw [e]
      show Em.rdMany Em.rdTx n0 x = _
      simp only [List.length_nil, Nat.sub_zero]
      cases Em.rdMany Em.rdTx n0 x <;> rfl⟩
  have HST := hide hst
  clear HC hz4 hb4 hst4 hst6 hF6 hn0 hs2 hst hs4 hlt3 hbb
  go_upto_block 0 with fail
  go_cut [7] (fun i W => ∃ (st : Option (List UInt8)) (rA : Option Addr) (rc : Nat) (xs : List (List UInt8)), RdS 96 w W5 W p b5 (d : Int) n0 st2 st (.slice rA xs.length rc) (.slice rA xs.length rc) xs ∧ (st = none ∨ xs.length = n0) ∧ xs.length ≤ n0)
  case first =>
    go_wp2_with fail
    go_loopw [7] (fun i W => ∃ (k : Nat) (st : Option (List UInt8)) (v : Value) (xs : List (List UInt8)), i = .int .u64 (k : Int) ∧ (xs.length = k ∧ k ≤ n0) ∧ RdS 96 w W5 W p b5 (d : Int) n0 st2 st v v xs) (fun i _ => n0 - (intOf i).toNat)
    case atStart => exact ⟨0, _, _, [], rfl, by simp, HST.out⟩
    case round =>
      clear HST
      obtain ⟨k, st, v, xs, rfl, ⟨rfl, hkn⟩, hI⟩ := hrel
      obtain ⟨rA, rc, rfl⟩ := own_slice hI.own
      have HI := hide hI
      have hsz := hI.size
      have x2 := top_cells hI.blk 2
      have hc1 := hI.stt.cell1
      simp only [List.getElem?_toArray, List.getElem?_cons_succ, List.getElem?_cons_zero] at x2
      have hnb : ¬ TPC p (.slice rA xs.length rc) (⟨b5, 2, none⟩ : Addr).block := by
        rintro (e | e)
        · have e : b5 = p := e
          omega
        · have := (World.ownsRow.lt hI.own _ e).1
          simp only at this
          omega
      clear hI
      by_cases hgo : xs.length < n0 ∧ st.isSome = true
      · have g1 : decide ((xs.length : Int) < (n0 : Int)) = true := decide_eq_true (by omega)
        rw [hgo.2] at hc1
        go_wp2_with fail
        apply region_last 7 _ (by kernel_rfl) Keep (Frm (TPC p (.slice rA xs.length rc))) krg ktg (Frm.rf _) (fun _ _ _ => Frm.tr) (fun _ _ h => Keep.frm h _) [some 32, some 33, some 34, some 35, some 36, some 37, some 38, none] [eqG _ , fun us _ v => v = .slice rA xs.length rc, eqG _ , fun us W v => TxtAt 96 w wr p st W v, fun us W v => LoneV 9 (us.getD 0 undef) W v, fun us W v => PshS 96 w W5 p b5 (d : Int) n0 st2 ((texS st).map fun x => x.2) (.slice rA xs.length rc) (xs.length + 1) W v, eqG _ , fun _ _ _ => True] [⟨[], [], false, false, false⟩, ⟨[0], [], false, false, false⟩, ⟨[], [], true, false, false⟩, ⟨[2], [], true, true, true⟩, ⟨[3], [], false, false, true⟩, ⟨[1, 3, 4], [], false, true, true⟩, ⟨[], [], false, false, false⟩, ⟨[5, 6], [], false, false, false⟩] [5, 6] (by kernel_rfl) (by kernel_rfl) (by kernel_rfl) rfl (by kernel_rfl)
        · refine ⟨?_, ?_, ?_, ?_, ?_, ?_, ?_, trivial⟩
          · (intro us W h9 hW hE hd hs K hK; obtain ⟨u0, u1, u2, u3, u4, u5, u6, u7, rfl⟩ := rog 8 h9 rfl; clear h9; clear hd; clear hs; simp only [fillG, List.set_cons_zero, List.set_cons_succ]; refine want_n rfl ?_; go_wp2_with (first | fail); simp only [DoneG, fillG, List.set_cons_zero, List.set_cons_succ, relG, eqG, eqG1, eqG2, eqG3, gdG, gdG1, gnG, gnG1, List.getD_cons_zero, List.getD_cons_succ, List.getElem?_cons_succ, List.getElem?_cons_zero, Option.map_some, Option.getD_some, valsG, List.map_cons, List.map_nil, List.length_cons, List.length_nil]; exact ⟨_, rfl, (by first | with_reducible assumption | exact krg _ | exact Keep.al (krg _) _), fun _ _ => rfl⟩)
          · (intro us W h9 hW hE hd hs K hK; obtain ⟨u0, u1, u2, u3, u4, u5, u6, u7, rfl⟩ := rog 8 h9 rfl; clear h9; simp only [DepG, AtG, and_true, relG, eqG, eqG1, eqG2, eqG3, gdG, gdG1, gnG, gnG1, List.getD_cons_zero, List.getD_cons_succ, List.getElem?_cons_succ, List.getElem?_cons_zero, Option.map_some, Option.getD_some, valsG, List.map_cons, List.map_nil, List.length_cons, List.length_nil] at hd; have d0 := hd; clear hd; subst d0; clear hs; simp only [fillG, List.set_cons_zero, List.set_cons_succ]; refine want_n rfl ?_; have b2 := (Frm.tr (Frm.dr (Frm.rf _ _)) hW).cell hnb x2; go_wp2_with fail; simp only [DoneG, fillG, List.set_cons_zero, List.set_cons_succ, relG, eqG, eqG1, eqG2, eqG3, gdG, gdG1, gnG, gnG1, List.getD_cons_zero, List.getD_cons_succ, List.getElem?_cons_succ, List.getElem?_cons_zero, Option.map_some, Option.getD_some, valsG, List.map_cons, List.map_nil, List.length_cons, List.length_nil]; exact ⟨_, rfl, (by first | with_reducible assumption | exact krg _ | exact Keep.al (krg _) _), fun _ _ => rfl⟩)
          · (intro us W h9 hW hE hd hs K hK; obtain ⟨u0, u1, u2, u3, u4, u5, u6, u7, rfl⟩ := rog 8 h9 rfl; clear h9; clear hd; clear hs; simp only [fillG, List.set_cons_zero, List.set_cons_succ]; refine want_n rfl ?_; go_wp2_with (first | fail); simp only [DoneG, fillG, List.set_cons_zero, List.set_cons_succ, relG, eqG, eqG1, eqG2, eqG3, gdG, gdG1, gnG, gnG1, List.getD_cons_zero, List.getD_cons_succ, List.getElem?_cons_succ, List.getElem?_cons_zero, Option.map_some, Option.getD_some, valsG, List.map_cons, List.map_nil, List.length_cons, List.length_nil]; exact ⟨_, rfl, (by first | with_reducible assumption | exact krg _ | exact Keep.al (krg _) _), fun _ _ => rfl⟩)
          · (intro us W h9 hW hE hd hs K hK; obtain ⟨u0, u1, u2, u3, u4, u5, u6, u7, rfl⟩ := rog 8 h9 rfl; clear h9; simp only [DepG, AtG, and_true, relG, eqG, eqG1, eqG2, eqG3, gdG, gdG1, gnG, gnG1, List.getD_cons_zero, List.getD_cons_succ, List.getElem?_cons_succ, List.getElem?_cons_zero, Option.map_some, Option.getD_some, valsG, List.map_cons, List.map_nil, List.length_cons, List.length_nil] at hd; have d2 := hd; clear hd; subst d2; clear hs; simp only [fillG, List.set_cons_zero, List.set_cons_succ]; have hKW := Keep.tr (Keep.dr (Keep.rf _)) (hE rfl); have x2 := Keep.cell hKW x2; refine want_n rfl ?_; go_wp2_with (first | (go_at_call 68; refine (refText13 w _ p st (Keep.tr HI.out.keep hKW) (by omega) (HI.out.stt.keep hKW)).mono ?_; rintro e w9 ⟨⟨x9, rfl, l9, e9⟩, s9, f9⟩; have hrel : Frm (TPC p (.slice rA xs.length rc)) W w9 := f9.mono fun k _ e => .inl e) | fail); simp only [DoneG, fillG, List.set_cons_zero, List.set_cons_succ, relG, eqG, eqG1, eqG2, eqG3, gdG, gdG1, gnG, gnG1, List.getD_cons_zero, List.getD_cons_succ, List.getElem?_cons_succ, List.getElem?_cons_zero, Option.map_some, Option.getD_some, valsG, List.map_cons, List.map_nil, List.length_cons, List.length_nil]; exact ⟨_, rfl, (by first | with_reducible assumption | exact trivial), fun W9 hk9 => TxtAt.keep ⟨x9, rfl, l9, e9, s9, (hKW.frm _).tr f9⟩ hk9⟩)
          · (intro us W h9 hW hE hd hs K hK; obtain ⟨u0, u1, u2, u3, u4, u5, u6, u7, rfl⟩ := rog 8 h9 rfl; clear h9; simp only [DepG, AtG, and_true, relG, eqG, eqG1, eqG2, eqG3, gdG, gdG1, gnG, gnG1, List.getD_cons_zero, List.getD_cons_succ, List.getElem?_cons_succ, List.getElem?_cons_zero, Option.map_some, Option.getD_some, valsG, List.map_cons, List.map_nil, List.length_cons, List.length_nil] at hd; have d3 := hd; clear hd; obtain ⟨x3, rfl, l3, e3, s3, f3⟩ := d3; clear hs; simp only [fillG, List.set_cons_zero, List.set_cons_succ]; refine want_n rfl ?_; go_wp2_with (first | fail); simp only [DoneG, fillG, List.set_cons_zero, List.set_cons_succ, relG, eqG, eqG1, eqG2, eqG3, gdG, gdG1, gnG, gnG1, List.getD_cons_zero, List.getD_cons_succ, List.getElem?_cons_succ, List.getElem?_cons_zero, Option.map_some, Option.getD_some, valsG, List.map_cons, List.map_nil, List.length_cons, List.length_nil]; exact ⟨_, rfl, (by first | with_reducible assumption | exact krg _ | exact Keep.al (krg _) _), fun W9 hk9 => ⟨_, rfl, (hk9.frm fun _ => False).heap (fun h => h) (heap_alloc_new _ _)⟩⟩)
          · (intro us W h9 hW hE hd hs K hK; obtain ⟨u0, u1, u2, u3, u4, u5, u6, u7, rfl⟩ := rog 8 h9 rfl; clear h9; simp only [DepG, AtG, and_true, relG, eqG, eqG1, eqG2, eqG3, gdG, gdG1, gnG, gnG1, List.getD_cons_zero, List.getD_cons_succ, List.getElem?_cons_succ, List.getElem?_cons_zero, Option.map_some, Option.getD_some, valsG, List.map_cons, List.map_nil, List.length_cons, List.length_nil] at hd; obtain ⟨d1, d3, d4⟩ := hd; subst d1; obtain ⟨x3, rfl, l3, e3, s3, f3⟩ := d3; obtain ⟨g4, rfl, h4⟩ := d4; clear hs; simp only [fillG, List.set_cons_zero, List.set_cons_succ]; refine want_n rfl ?_; refine wp_app (.tmp 33) (.tmp 36) 34 rfl W5.heap.size 9 _ 1 16 Try.underlying34 strInfo rfl (by omega) _ xs.length (xs.map sv) rfl (f3.own HI.out.own fun q hq e => by have e : q = p := e; have := (World.ownsRow.lt HI.out.own q hq).1; omega) _ 1 [sv x3] rfl (src1 h4) (one_str x3) (by simp only [maxLen]; omega) (by omega) (Nat.le_trans hsz f3.size) ?_; intro v6 w6 ha; have hrel : Frm (TPC p (.slice rA xs.length rc)) W w6 := Frm.of_grown ha.2.1 fun _ e => .inr e; refine hK _ _ ?_; simp only [DoneG, fillG, List.set_cons_zero, List.set_cons_succ, relG, eqG, eqG1, eqG2, eqG3, gdG, gdG1, gnG, gnG1, List.getD_cons_zero, List.getD_cons_succ, List.getElem?_cons_succ, List.getElem?_cons_zero, Option.map_some, Option.getD_some, valsG, List.map_cons, List.map_nil, List.length_cons, List.length_nil]; exact ⟨_, rfl, (by first | with_reducible assumption | exact trivial), fun W9 hk9 => (HI.out.push hwp hpb hb5 (by omega) f3 s3 e3 ha).keep hk9⟩)
          · (intro us W h9 hW hE hd hs K hK; obtain ⟨u0, u1, u2, u3, u4, u5, u6, u7, rfl⟩ := rog 8 h9 rfl; clear h9; clear hd; clear hs; simp only [fillG, List.set_cons_zero, List.set_cons_succ]; refine want_n rfl ?_; go_wp2_with (first | fail); simp only [DoneG, fillG, List.set_cons_zero, List.set_cons_succ, relG, eqG, eqG1, eqG2, eqG3, gdG, gdG1, gnG, gnG1, List.getD_cons_zero, List.getD_cons_succ, List.getElem?_cons_succ, List.getElem?_cons_zero, Option.map_some, Option.getD_some, valsG, List.map_cons, List.map_nil, List.length_cons, List.length_nil]; exact ⟨_, rfl, (by first | with_reducible assumption | exact krg _ | exact Keep.al (krg _) _), fun _ _ => rfl⟩)
        (intro us W7 h9 hW hE hA hl9; obtain ⟨u0, u1, u2, u3, u4, u5, u6, u7, rfl⟩ := rog 8 h9 rfl; clear h9; clear hl9; simp only [AllG, AtG, and_true, relG, eqG, eqG1, eqG2, eqG3, gdG, gdG1, gnG, gnG1, List.getD_cons_zero, List.getD_cons_succ, List.getElem?_cons_succ, List.getElem?_cons_zero, Option.map_some, Option.getD_some, valsG, List.map_cons, List.map_nil, List.length_cons, List.length_nil] at hA; obtain ⟨d5, d6⟩ := hA; subst d6; simp only [fillG, List.set_cons_zero, List.set_cons_succ]; refine want_n rfl ?_)
        obtain ⟨xs7, A7, c7, rfl, hx7, hk7⟩ := d5
        have tpc := top_cells hk7.blk 2
        have tpf := top_free hk7.blk 2
        simp only [List.getElem?_toArray, List.getElem?_cons_succ, List.getElem?_cons_zero] at tpc
        have HK7 := hide (hk7.put hwp hpb hb5)
        have HX7 := hide hx7
        clear hk7 hW hE hx7
        go_wp2
        go_roundw
        case rel => exact ⟨xs.length + 1, _, _, xs7, by go_num, ⟨HX7.out, by omega⟩, HK7.out⟩
        case measure => simp [intOf]; omega
      · have hst : st = none ∨ xs.length = n0 := by
          rcases Nat.lt_or_ge xs.length n0 with e | e
          · left
            cases st with
            | none => rfl
            | some x => exact (hgo ⟨e, rfl⟩).elim
          · exact .inr (by omega)
        have HSTT := hide hst
        have hgo2 : ¬ xs.length < n0 ∨ (xs.length < n0 ∧ wr.cell? ⟨p, 1, none⟩ = some (.bool false)) := by
          rcases Nat.lt_or_ge xs.length n0 with e | e
          · refine .inr ⟨e, ?_⟩
            rw [hc1]
            cases st with
            | none => rfl
            | some x => exact (hgo ⟨e, rfl⟩).elim
          · exact .inl (by omega)
        have hxn : xs.length ≤ n0 := by omega
        clear hst hgo hc1
        rcases hgo2 with g1 | ⟨g1, hc1⟩
        · have g1i : decide ((xs.length : Int) < (n0 : Int)) = false := decide_eq_false (by omega)
          go_wp2_with fail
          go_meet
          exact ⟨st, rA, rc, xs, HI.out, HSTT.out, hxn⟩
        · have g1i : decide ((xs.length : Int) < (n0 : Int)) = true := decide_eq_true (by omega)
          go_wp2_with fail
          go_meet
          exact ⟨st, rA, rc, xs, HI.out, HSTT.out, hxn⟩
  case rest =>
    clear HST
    obtain ⟨st, rA, rc, xs, hI, hst, hxn⟩ := hcut
    have HI := hide hI
    have hsz := hI.size
    have hxl : xs.length ≤ 2000 := by omega
    have h3n := hI.no
    have h3y : ∀ x, st = some x → st2.bind (Em.rdMany Em.rdTx n0) = some (xs, x) := by
      intro x e
      have hx := hI.yes x e
      rcases hst with h | h
      · rw [h] at e; cases e
      · rw [h, Nat.sub_self, Em.rdMany] at hx
        simpa using hx
    have H3N := hide h3n
    have H3Y := hide h3y
    have HC := hide (refNum13 w wc p 200 st hI.keep (by omega) hI.stt)
    have hmv := cntV_le 200 st
    generalize hm0 : cntV 200 st = m0 at *
    generalize hs4 : (cntS 200 st).map (fun x => x.2) = st4 at *
    have HM0 := hide hm0
    have HS4 := hide hs4
    clear h3n h3y hst hm0 hs4 hI
    go_wp2_with fail
    refine HC.out.mono ?_
    rintro e w7 ⟨rfl, hst7, hF7⟩
    have hstart : RdF 96 w w7 w7 p b5 (d : Int) (.slice rA xs.length rc) xs m0 st4 st4 (.slice none 0 0) [] [] := by
      have hown : ∀ k, (Value.slice rA xs.length rc).ownBlock = some k → W5.heap.size ≤ k ∧ k < wc.heap.size := World.ownsRow.lt HI.out.own
      have hs7 := hF7.size
      refine ⟨RowF.nil _ _, ⟨hF7.own (own_lower HI.out.own (Nat.zero_le _)) fun q hq e => by have e : q = p := e; have := hown q hq; omega, fun q hq => by have := hown q hq; omega⟩, hF7.heap (fun e => by have e : b5 = p := e; omega) HI.out.blk, hF7.heap (fun e => by have e : w.heap.size = p := e; omega) HI.out.zero,
        Frm.keep HI.out.keep hF7 fun i e => by have e : i = p := e; omega, Nat.le_refl _, hst7, (fun h => by rw [h]; rfl), fun x e => by
          rw [e]
          show Em.rdMany Em.rdF m0 x = _
          simp only [List.length_nil, Nat.sub_zero]
          cases Em.rdMany Em.rdF m0 x <;> rfl⟩
    have hb57 : b5 < w7.heap.size := by have := hF7.size; omega
    have HST := hide hstart
    clear hstart hst7 hF7 HC hsz
    go_upto_block 2 with fail
    go_cut [8] (fun i W => ∃ (st : Option (List UInt8)) (fA : Option Addr) (fc : Nat) (us : List Value) (fs : List (List (Int × Int))), RdF 96 w w7 W p b5 (d : Int) (.slice rA xs.length rc) xs m0 st4 st (.slice fA us.length fc) us fs ∧ (st = none ∨ fs.length = m0))
    case first =>
      go_wp2_with fail
      go_loopw [8] (fun i W => ∃ (k : Nat) (st : Option (List UInt8)) (v : Value) (us : List Value) (fs : List (List (Int × Int))), i = .int .u64 (k : Int) ∧ (fs.length = k ∧ k ≤ m0) ∧ RdF 96 w w7 W p b5 (d : Int) (.slice rA xs.length rc) xs m0 st4 st v us fs) (fun i _ => m0 - (intOf i).toNat)
      case atStart => exact ⟨0, _, _, [], [], rfl, by simp, HST.out⟩
      case round =>
        clear HST
        rename World => wq
        obtain ⟨k2, stf, vf, us, fs, rfl, ⟨hk2, hkm⟩, hJ⟩ := hrel
        have hfl : fs.length ≤ k2 ∧ k2 ≤ fs.length := by omega
        clear hk2
        obtain ⟨fA, fc, rfl⟩ := own_slice hJ.row.own
        have HJ := hide hJ
        have hsz2 := hJ.size
        have y1 := top_cells hJ.blk 1
        have hc2 := hJ.stt.cell1
        simp only [List.getElem?_toArray, List.getElem?_cons_succ, List.getElem?_cons_zero] at y1
        have hus : us.length ≤ 200 := by have := hJ.row.len; omega
        have hpr : p < wq.heap.size := by omega
        clear hJ
        by_cases hgo : k2 < m0 ∧ stf.isSome = true
        · have e1 : decide ((k2 : Int) < (m0 : Int)) = true := decide_eq_true (by omega)
          rw [hgo.2] at hc2
          have HC := hide (refNum13 w wq p 4000 stf HJ.out.keep (by omega) HJ.out.stt)
          have hqv := cntV_le 4000 stf
          generalize hm1 : cntV 4000 stf = m1 at *
          generalize hs5 : (cntS 4000 stf).map (fun x => x.2) = st5 at *
          have HM1 := hide hm1
          have HS5 := hide hs5
          clear hm1 hs5
          go_wp2_with fail
          refine HC.out.mono ?_
          rintro e w8 ⟨rfl, hst8, hF8⟩
          have hK : RdI 96 w wq w8 p m1 st5 st5 (.slice none 0 0) [] :=
            ⟨⟨by simp, .inl ⟨rfl, rfl⟩⟩, hF8, by simp, hst8, (fun h => by rw [h]; rfl), fun x e => by
              rw [e]
              show Em.rdMany Em.rdI m1 x = _
              simp only [List.length_nil, Nat.sub_zero]
              cases Em.rdMany Em.rdI m1 x <;> rfl⟩
          have HK := hide hK
          clear hK hst8 hF8 HC
          go_upto_block 4 with fail
          go_cut [9, 11] (fun v i W => ∃ (sti : Option (List UInt8)) (iA : Option Addr) (ic : Nat) (ys : List (Int × Int)), v = .slice iA ys.length ic ∧ ys.length ≤ 4000 ∧ RdI 96 w wq W p m1 st5 sti (.slice iA ys.length ic) ys ∧ (sti = none ∨ ys.length = m1))
          case first =>
            go_wp2_with fail
            go_loopw [9, 11] (fun v i W => ∃ (k : Nat) (st : Option (List UInt8)) (ys : List (Int × Int)), i = .int .u64 (k : Int) ∧ (ys.length = k ∧ k ≤ m1) ∧ RdI 96 w wq W p m1 st5 st v ys) (fun _ i _ => m1 - (intOf i).toNat)
            case atStart => exact ⟨0, _, [], rfl, by simp, HK.out⟩
            case round =>
              clear HK
              obtain ⟨k3, sti, ys, rfl, ⟨hk3, hki⟩, hL⟩ := hrel
              have hyl3 : ys.length ≤ k3 ∧ k3 ≤ ys.length := by omega
              clear hk3
              obtain ⟨iA, ic, rfl⟩ := own_slice hL.own
              have HL := hide hL
              have hc3 := hL.stt.cell1
              have hlo3 := World.ownsRow.lt hL.own
              have kwL : Keep w wq := HJ.out.keep
              have kw3 := Frm.keep kwL hL.frm fun i e => by have e : i = p := e; omega
              have hsL := hL.frm.size
              clear hL
              by_cases hgi : k3 < m1 ∧ sti.isSome = true
              · have e2 : decide ((k3 : Int) < (m1 : Int)) = true := decide_eq_true (by omega)
                rw [hgi.2] at hc3
                have HIN := hide (refInstr13 w _ p sti kw3 (by omega) HL.out.stt)
                go_wp2_with fail
                refine HIN.out.mono ?_
                rintro e w9 ⟨o9, n9, rfl, hwo, hwn, hx9, hs9, hF9⟩
                have hown9 : (w9.alloc (.cells #[.int .i64 o9, .int .i64 n9] 91)).ownsRow wq.heap.size 91 2 (.slice iA ys.length ic) ys.length (ys.map encI).flatten :=
                  own_keep (hF9.own HL.out.own fun q hq e => by have e : q = p := e; have := hlo3 q hq; omega) (by repeat (first | exact Keep.rf _ | assumption | apply Keep.al | apply Keep.dr | apply Keep.dn))
                have HX9 := hide hx9
                have HS9 := hide hs9
                have HF9 := hide hF9
                have hs9z := hF9.size
                have HOW := hide hown9
                clear hx9 hs9 hF9 hown9 HIN
                go_wp2_with (first
                  | (at_builtin; go_loud (refine wpList_app rfl (.tmp 65) (.tmp 68) 89 rfl wq.heap.size 91 _ 2 16 Try.underlying89 insInfo rfl (by omega) _ ys.length (ys.map encI).flatten rfl HOW.out _ 1 [.int .i64 o9, .int .i64 n9] rfl (src_lit _ _ [.int .i64 o9, .int .i64 n9] rfl rfl) (one_ins _ _) (by simp only [maxLen]; omega) (by omega) (by simp only [size_alloc]; omega) ?_; intro v10 w10 ha; obtain ⟨jA, jc, rfl⟩ := own_slice ha.1; have hpu := HL.out.push hpr (by omega) HF9.out (by repeat (first | exact Keep.rf _ | assumption | apply Keep.al | apply Keep.dr | apply Keep.dn)) hwo hwn HX9.out HS9.out ha; have HPU := hide hpu; clear hpu ha))
                  | fail)
                go_roundw
                case rel => exact ⟨k3 + 1, _, ys ++ [(o9, n9)], by go_num, ⟨by simp; omega, by omega⟩, HPU.out⟩
                case measure => simp [intOf]; omega
              · have hsti : sti = none ∨ ys.length = m1 := by
                  rcases Nat.lt_or_ge k3 m1 with e | e
                  · left
                    cases sti with
                    | none => rfl
                    | some x => exact (hgi ⟨e, rfl⟩).elim
                  · exact .inr (by omega)
                have hgi2 : ¬ k3 < m1 ∨ (k3 < m1 ∧ wr.cell? ⟨p, 1, none⟩ = some (.bool false)) := by
                  rcases Nat.lt_or_ge k3 m1 with e | e
                  · refine .inr ⟨e, ?_⟩
                    rw [hc3]
                    cases sti with
                    | none => rfl
                    | some x => exact (hgi ⟨e, rfl⟩).elim
                  · exact .inl (by omega)
                have HSTI := hide hsti
                have hyl : ys.length ≤ 4000 := by omega
                clear hsti hgi hc3
                rcases hgi2 with q1 | ⟨q1, hc3⟩
                · have q1i : decide ((k3 : Int) < (m1 : Int)) = false := decide_eq_false (by omega)
                  go_wp2_with fail
                  go_meet
                  exact ⟨sti, iA, ic, ys, rfl, hyl, HL.out, HSTI.out⟩
                · have q1i : decide ((k3 : Int) < (m1 : Int)) = true := decide_eq_true (by omega)
                  go_wp2_with fail
                  go_meet
                  exact ⟨sti, iA, ic, ys, rfl, hyl, HL.out, HSTI.out⟩
          case rest =>
            clear HK
            obtain ⟨sti, iA, ic, ys, rfl, hyl, hL, hsti⟩ := hcut
            have HL := hide hL
            have hfun : funS stf = st5.bind (Em.rdMany Em.rdI m1) := by rw [fun_parts, ← cnt_many, HM1.out, HS5.out]
            have hfn : sti = none → funS stf = none := fun e => by rw [hfun]; exact hL.no e
            have hfy : ∀ x, sti = some x → funS stf = some (ys, x) := fun x e => by
              rw [hfun, hL.yes x e]
              rcases hsti with h | h
              · rw [h] at e; cases e
              · rw [h, Nat.sub_self, Em.rdMany]
                simp
            have HFN := hide hfn
            have HFY := hide hfy
            have z1 := hL.frm.cell (a := ⟨b5, 1, none⟩) (fun e => by have e : b5 = p := e; omega) y1
            have hsL := hL.frm.size
            clear hfun hfn hfy hsti
            have hownf := own_keep (hL.frm.own HJ.out.row.own fun q hq e => by have e : q = p := e; have := World.ownsRow.lt HJ.out.row.own q hq; omega) (Keep.al (Keep.rf _) (.cells #[.slice iA ys.length ic] 89))
            have HOWF := hide hownf
            clear hownf hL
            go_wp2_with (first
              | (at_builtin; go_loud (refine wpList_app rfl (.tmp 71) (.tmp 73) 33 rfl w7.heap.size 89 _ 1 24 Try.underlying33 funInfo rfl (by omega) _ us.length us rfl HOWF.out _ 1 [.slice iA ys.length ic] rfl (src_lit _ _ [.slice iA ys.length ic] rfl rfl) (one_sl _ _ _) (by simp only [maxLen]; omega) (by omega) (by simp only [size_alloc]; omega) ?_; intro v11 w11 ha; obtain ⟨jA, jc, rfl⟩ := own_slice ha.1; have hpu := HJ.out.push hwp hpb hb57 (by omega) HL.out.frm (by repeat (first | exact Keep.rf _ | assumption | apply Keep.al | apply Keep.dr | apply Keep.dn)) HL.out.own HL.out.wf HL.out.stt HFN.out HFY.out ha; have v1 := top_cells hpu.1 1; have v2 := top_free hpu.1 1; simp only [List.getElem?_toArray, List.getElem?_cons_succ, List.getElem?_cons_zero] at v1; have HPU := hide hpu.2; clear hpu ha))
              | fail)
            go_roundw
            case rel => exact ⟨k2 + 1, _, _, us ++ [.slice iA ys.length ic], fs ++ [ys], by go_num, ⟨by simp; omega, by omega⟩, HPU.out⟩
            case measure => simp [intOf]; omega
        · have hstf : stf = none ∨ fs.length = m0 := by
            rcases Nat.lt_or_ge k2 m0 with e | e
            · left
              cases stf with
              | none => rfl
              | some x => exact (hgo ⟨e, rfl⟩).elim
            · exact .inr (by omega)
          have hgi2 : ¬ k2 < m0 ∨ (k2 < m0 ∧ wq.cell? ⟨p, 1, none⟩ = some (.bool false)) := by
            rcases Nat.lt_or_ge k2 m0 with e | e
            · refine .inr ⟨e, ?_⟩
              rw [hc2]
              cases stf with
              | none => rfl
              | some x => exact (hgo ⟨e, rfl⟩).elim
            · exact .inl (by omega)
          have HSTF := hide hstf
          clear hstf hgo hc2
          rcases hgi2 with q1 | ⟨q1, hc2⟩
          · have q1i : decide ((k2 : Int) < (m0 : Int)) = false := decide_eq_false (by omega)
            go_wp2_with fail
            go_meet
            exact ⟨stf, fA, fc, us, fs, HJ.out, HSTF.out⟩
          · have q1i : decide ((k2 : Int) < (m0 : Int)) = true := decide_eq_true (by omega)
            go_wp2_with fail
            go_meet
            exact ⟨stf, fA, fc, us, fs, HJ.out, HSTF.out⟩
    case rest =>
      clear HST
      obtain ⟨stf, fA, fc, us, fs, hJ, hstf⟩ := hcut
      rename World => wq
      have HJ := hide hJ
      have h5y : ∀ x, stf = some x → st4.bind (Em.rdMany Em.rdF m0) = some (fs, x) := by
        intro x e
        have hx := hJ.yes x e
        rcases hstf with h | h
        · rw [h] at e; cases e
        · rw [h, Nat.sub_self, Em.rdMany] at hx
          simpa using hx
      have hch := rdP_chain l xs fs st2 st st4 stf n0 m0 d HD.out.symm (by rw [HS1.out]; exact HN0.out.symm) (by rw [HS1.out]; exact HS2.out.symm) H3N.out H3Y.out HM0.out.symm HS4.out.symm hJ.no h5y
      have HCH := hide hch
      have hc2 := hJ.stt.cell1
      have k0q : Keep w wq := hJ.keep
      have a0 := top_cells hJ.zero 0
      have a1 := top_cells hJ.zero 1
      have a2 := top_cells hJ.zero 2
      have q0 := top_free hJ.zero 0
      have q1 := top_free hJ.zero 1
      have q2 := top_free hJ.zero 2
      have d0 := top_cells hJ.blk 0
      have d1 := top_cells hJ.blk 1
      have d2 := top_cells hJ.blk 2
      simp only [List.getElem?_toArray, List.getElem?_cons_succ, List.getElem?_cons_zero] at a0 a1 a2 d0 d1 d2
      clear h5y hch hstf hJ
      cases hsf : stf with
      | none =>
        subst hsf
        have hno : Em.readP l = none := by rw [Em.readP, HCH.out.1 rfl]
        have HNO := hide hno
        simp only [Option.isSome_none] at hc2
        clear hno HCH
        go_wp2_with fail
        refine bodyPost_ret_by (results_cell2 rfl _ _ w.heap.size 36 _ (0, 0) _ rfl (heap_set3p HJ.out.zero _ _ _) Try.underlying36 rfl ?_) rfl ?_
        · kernel_rfl
        · exact ReadPR.no HNO.out (Frm.keep k0q (frm_set3 _ _ _ _ _) fun i e => by have e : i = w.heap.size := e; omega)
      | some r =>
        subst hsf
        have hrp := HCH.out.2 r rfl
        have hpin := rdP_in hrp
        have hpk : PrgK wq [.int .i64 (d : Int), .slice fA us.length fc, .slice rA xs.length rc] ⟨(d : Int), fs, xs⟩ := ⟨_, _, rfl, wf_of ⟨by simp only; omega, by simp only; omega⟩, HJ.out.row.sl, sl_of_strs HJ.out.strs.1 rfl⟩
        have HPK := hide hpk
        have hrd : Em.readP l = if (Em.okP ⟨(d : Int), fs, xs⟩ && r.isEmpty) = true then some ⟨(d : Int), fs, xs⟩ else none := by rw [Em.readP, hrp]
        have HRD := hide hrd
        have HB := hide fun W (k : Keep wq W) => refIs13 W _ _ (hpk.keep k)
        simp only [Option.isSome_some] at hc2
        obtain ⟨rr, rcc, hrs, hrh⟩ := HJ.out.stt
        have hc0 := top_cells hrh 0
        simp only [List.getElem?_toArray, List.getElem?_cons_succ, List.getElem?_cons_zero] at hc0
        clear HCH hrp hpin hpk hrd hrs hrh
        have hpkf : ∀ (W : World) (a b c : Value), Keep wq W → PrgK (((W.setCell ⟨w.heap.size, 0, none⟩ a).setCell ⟨w.heap.size, 1, none⟩ b).setCell ⟨w.heap.size, 2, none⟩ c) [.int .i64 (d : Int), .slice fA us.length fc, .slice rA xs.length rc] ⟨(d : Int), fs, xs⟩ := by
          intro W a b c k
          have F := frm_set3 W w.heap.size a b c
          refine ⟨_, _, rfl, wf_of ⟨by simp only; omega, by simp only; omega⟩, ((HJ.out.row.frm (k.frm fun _ => False) fun _ h => h.elim).frm F fun i e => .inl (by have e : i = w.heap.size := e; omega)).sl, sl_of_strs (F.own (own_keep HJ.out.strs.1 k) fun q hq e => ?_) rfl⟩
          have := HJ.out.strs.2 q hq
          have e : q = w.heap.size := e
          omega
        have HPKF := hide hpkf
        clear hpkf
        generalize Em.okP ⟨(d : Int), fs, xs⟩ = ok at *
        cases r with
        | cons b r =>
          have HNO := hide (show Em.readP l = none from by rw [HRD.out]; simp)
          have hgr : decide ((r.length : Int) + 1 > 0) = true := decide_eq_true (by omega)
          simp only [List.length_cons, Int.natCast_add, Int.cast_ofNat_Int] at hc0
          go_wp2_with fail
          refine bodyPost_ret_by (results_cell2 rfl _ _ w.heap.size 36 _ (0, 0) _ rfl (heap_set3p HJ.out.zero _ _ _) Try.underlying36 rfl ?_) rfl ?_
          · kernel_rfl
          · exact ReadPR.no HNO.out (Frm.keep k0q (frm_set3 _ _ _ _ _) fun i e => by have e : i = w.heap.size := e; omega)
        | nil =>
          simp only [List.length_nil] at hc0
          have hrd2 : Em.readP l = if ok = true then some ⟨(d : Int), fs, xs⟩ else none := by rw [HRD.out]; simp
          have HRD2 := hide hrd2
          clear hrd2
          go_wp2_with fail
          refine (HB.out _ (Keep.rf _)).mono ?_
          rintro e w8 ⟨rfl, k8⟩
          have k08 := Keep.tr k0q k8
          have hz8 := (k8.frm fun _ => False).heap (fun h => h) HJ.out.zero
          replace a0 := Keep.cell k8 a0
          replace a1 := Keep.cell k8 a1
          replace a2 := Keep.cell k8 a2
          replace q0 := top_free hz8 0
          replace q1 := top_free hz8 1
          replace q2 := top_free hz8 2
          replace d0 := Keep.cell k8 d0
          replace d1 := Keep.cell k8 d1
          replace d2 := Keep.cell k8 d2
          have HZ8 := hide hz8
          have K8 := hide k8
          clear hz8 HB k8
          cases ok with
          | true =>
            have HY := hide (show Em.readP l = some ⟨(d : Int), fs, xs⟩ from HRD2.out)
            go_wp2_with fail
            refine bodyPost_ret_by (results_cell2 rfl _ _ w.heap.size 36 _ (0, 0) _ rfl (heap_set3p HZ8.out _ _ _) Try.underlying36 rfl ?_) rfl ?_
            · kernel_rfl
            · exact ReadPR.yes HY.out (Frm.keep k08 (frm_set3 _ _ _ _ _) fun i e => by have e : i = w.heap.size := e; omega) (HPKF.out _ _ _ _ K8.out)
          | false =>
            have HNO := hide (show Em.readP l = none from HRD2.out)
            go_wp2_with fail
            refine bodyPost_ret_by (results_cell2 rfl _ _ w.heap.size 36 _ (0, 0) _ rfl (heap_set3p HZ8.out _ _ _) Try.underlying36 rfl ?_) rfl ?_
            · kernel_rfl
            · exact ReadPR.no HNO.out (Frm.keep k08 (frm_set3 _ _ _ _ _) fun i e => by have e : i = w.heap.size := e; omega)
end Go.Proofs.Ytcbkklfdeloeeaa
