/- Walk: a type as bytes (the reference). -/
import Derived.Test.YtcbkklfdeloeeaaMarkW
namespace Go.Proofs.Ytcbkklfdeloeeaa
open Go.RowKit
open Em (Ty)
set_option linter.unusedVariables false
set_option linter.unusedSimpArgs false
set_option maxRecDepth 100000
mutual
/-- Each Op is one. -/
def goodT : Ty → Prop
  | .mk o n ks => 1 ≤ Em.opI o ∧ goodL ks
def goodL : List Ty → Prop
  | [] => True
  | k :: ks => goodT k ∧ goodL ks
end
theorem goodL_mem {ks : List Ty} (h : goodL ks) : ∀ k ∈ ks, goodT k := by
  induction ks with
  | nil => intro k hk; simp at hk
  | cons a ks ih =>
    rw [goodL] at h
    intro k hk
    rcases List.mem_cons.1 hk with rfl | hk
    · exact h.1
    · exact ih h.2 k hk
theorem opI_at (i : Nat) (h : i < 11) (o : List UInt8) (e : Em.opsL[i]'(by simpa [Em.opsL] using h) = o) : Em.opI o = i := by
  subst e
  have : ∀ i : Fin 11, Em.opI (Em.opsL[i.1]'(by simp [Em.opsL])) = i.1 := by decide
  exact this ⟨i, h⟩
theorem opI_hit (o : List UInt8) (h : 1 ≤ Em.opI o) : ∃ (i : Nat) (hi : i < 11), Em.opI o = i ∧ Em.opsL[i]'(by simpa [Em.opsL] using hi) = o := by
  unfold Em.opI Em.sIdx at h ⊢
  cases e : Em.opsL.idxOf? o with
  | none => rw [e] at h; simp only at h; omega
  | some i =>
    rw [List.idxOf?, List.findIdx?_eq_some_iff_getElem] at e
    obtain ⟨h1, h2, _⟩ := e
    exact ⟨i, by simpa [Em.opsL] using h1, rfl, by simpa using h2⟩
set_option maxHeartbeats 8000000 in
theorem refPut12 (d : Nat) : ∀ (t : Ty) (w : World) (cs : List Value), TyK d w cs t → nodes t ≤ 100000 → goodT t → Calls Try.prog 84 #[.agg cs.toArray] w (RetB w (Em.mput t)) := by
  induction d with
  | zero => intro t w cs h; exact h.elim
  | succ d ih =>
    intro t w cs h hnd hgd
    obtain ⟨kv, rfl, hn, kA, kc, rfl, hlc, hcm, hr⟩ := h
    have IH := hide ih
    have hlen := mput_len t
    have hM : Em.mput t = UInt8.ofNat (Em.opI t.op % 256).toNat :: ((if t.op = Em.wVar then Em.putN (t.n % 18446744073709551616).toNat else []) ++ Em.mputL t.kids) := by cases t; rfl
    have hkn : ∀ k ∈ t.kids, nodes k ≤ 100000 := by
      cases t with
      | mk o n ks =>
        intro k hk
        rw [nodes] at hnd
        have := nodes_kid (ks := ks) hk
        omega
    have hkg : ∀ k ∈ t.kids, goodT k := by
      cases t with
      | mk o n ks =>
        rw [goodT] at hgd
        exact goodL_mem hgd.2
    have hop : 1 ≤ Em.opI t.op := by
      cases t with
      | mk o n ks =>
        rw [goodT] at hgd
        exact hgd.1
    have hML : (Em.mput t).length ≤ 1100000 := by omega
    obtain ⟨oi, hoi, hoe, hog⟩ := opI_hit _ hop
    have hoi1 : ¬ oi < 1 := by omega
    have HM := hide hM
    have HML := hide hML
    have HKN := hide hkn
    have HKG := hide hkg
    clear ih hM hML hlen hkn hkg hgd
    generalize Em.mput t = M at *
    generalize t.op = o at *
    generalize t.n = n at *
    generalize t.kids = ks at *
    go_enter Try.func84, Try.ntmps84
    go_wp2_with fail
    generalize hW4 : w.alloc (.cells #[.string (str o), .int .i64 n, .slice kA ks.length kc] 26) = W4
    have k4 : Keep w W4 := by rw [← hW4]; exact (by repeat (first | exact Keep.rf _ | assumption | apply Keep.al | apply Keep.dr | apply Keep.dn))
    have hb0 : W4.heap[w.heap.size]? = some (.cells #[.string (str o), .int .i64 n, .slice kA ks.length kc] 26) := by
      rw [← hW4]
      exact heap_alloc_new w _
    have hs4 : w.heap.size < W4.heap.size := (Array.getElem?_eq_some_iff.1 hb0).1
    clear hW4
    refine (refOps12 _).mono ?_
    rintro e w5 ⟨A5, c5, rfl, s5, k5⟩
    have S5 := hide s5
    obtain ⟨A5', c5', e5, _, _, hsr⟩ := s5
    injection e5 with e51 e52 e53
    subst e51 e53
    obtain ⟨sad, rfl, hscell⟩ := hsr (by decide)
    clear e52 hsr
    go_wp2_with fail
    go_loopw [3, 5] (fun b i W => ∃ (j : Nat), 1 ≤ j ∧ j ≤ 11 ∧ i = .int .i64 j ∧ Obs W w5.heap.size b (if oi < j then [UInt8.ofNat oi] else []) ∧ Keep w5 W) (fun _ i _ => 11 - (intOf i).toNat)
    case atStart => exact ⟨1, by omega, by omega, rfl, by rw [if_neg hoi1]; exact Ob.nil _ _ _, Keep.rf _⟩
    case round =>
      obtain ⟨j, hj1, hj2, rfl, ho, hkw⟩ := hrel
      have HO := hide ho
      have kw5 := Keep.tr k5 hkw
      have kw := Keep.tr k4 kw5
      have hbw := (kw5.frm fun _ => False).heap (fun h => h) hb0
      have x0 := top_cells hbw 0
      have x1 := top_cells hbw 1
      have x2 := top_cells hbw 2
      simp only [List.getElem?_toArray, List.getElem?_cons_succ, List.getElem?_cons_zero] at x0 x1 x2
      by_cases hlt : j < 11
      · have hlti : (decide ((j : Int) < 11)) = true := by simp; omega
        obtain ⟨scs, hsl, hscl, hsk⟩ := hscell j (by simpa [Em.opsL] using hlt)
        have hsk : scs = [.string (str (Em.opsL[j]'(by simpa [Em.opsL] using hlt)))] := hsk
        subst hsk
        have s0 := Keep.cell hkw (hscl 0 _ rfl)
        rw [Nat.add_zero, Nat.mul_one] at s0
        by_cases hji : j = oi
        · subst hji
          have hxb : ((str (Em.opsL[j]'(by simpa [Em.opsL] using hlt))).toList == (str o).toList) = true := by rw [hog]; simp
          rw [if_neg (Nat.lt_irrefl j)] at ho
          obtain ⟨bA, bc, rfl⟩ := own_slice (show wr.ownsRow _ _ _ _ _ _ from ho)
          have HO2 := hide ho
          have hq8 : (j : Int) < 256 := by omega
          have HU := hide (u8_bv j (by omega))
          clear ho HO hscl
          generalize Em.opsL[j]'(by simpa [Em.opsL] using hlt) = sj at *
          go_wp2_with fail
          apply region_all (by kernel_rfl) Keep Keep krg ktg krg ktg (fun _ _ h => h) [some 14, some 15, some 16, some 17, some 18, some 19, some 20] [eqG _ , eqG _ , eqG _ , eqG _ , eqG _ , eqG _ , eqG _ ] [⟨[], [], true, false, false⟩, ⟨[], [], true, false, false⟩, ⟨[0, 1], [], true, false, false⟩, ⟨[2], [], true, false, false⟩, ⟨[], [], true, false, false⟩, ⟨[4], [], true, false, false⟩, ⟨[3, 5], [], true, false, false⟩] [6] (by kernel_rfl) (by kernel_rfl) 
          · refine ⟨?_, ?_, ?_, ?_, ?_, ?_, ?_, trivial⟩
            · (intro us W h9 hW hE hd hs K hK; obtain ⟨u0, u1, u2, u3, u4, u5, u6, rfl⟩ := rog 7 h9 rfl; clear h9; clear hd; clear hs; simp only [fillG, List.set_cons_zero, List.set_cons_succ]; refine want_n rfl ?_; go_wp2_with (first | fail); simp only [DoneG, fillG, List.set_cons_zero, List.set_cons_succ, relG, eqG, eqG1, eqG2, eqG3, gdG, gdG1, gnG, gnG1, List.getD_cons_zero, List.getD_cons_succ, List.getElem?_cons_succ, List.getElem?_cons_zero, Option.map_some, Option.getD_some, valsG, List.map_cons, List.map_nil, List.length_cons, List.length_nil]; exact ⟨_, rfl, (by first | with_reducible assumption | exact krg _ | exact Keep.al (krg _) _), fun _ _ => rfl⟩)
            · (intro us W h9 hW hE hd hs K hK; obtain ⟨u0, u1, u2, u3, u4, u5, u6, rfl⟩ := rog 7 h9 rfl; clear h9; clear hd; clear hs; simp only [fillG, List.set_cons_zero, List.set_cons_succ]; refine want_n rfl ?_; go_wp2_with (first | fail); simp only [DoneG, fillG, List.set_cons_zero, List.set_cons_succ, relG, eqG, eqG1, eqG2, eqG3, gdG, gdG1, gnG, gnG1, List.getD_cons_zero, List.getD_cons_succ, List.getElem?_cons_succ, List.getElem?_cons_zero, Option.map_some, Option.getD_some, valsG, List.map_cons, List.map_nil, List.length_cons, List.length_nil]; exact ⟨_, rfl, (by first | with_reducible assumption | exact krg _ | exact Keep.al (krg _) _), fun _ _ => rfl⟩)
            · (intro us W h9 hW hE hd hs K hK; obtain ⟨u0, u1, u2, u3, u4, u5, u6, rfl⟩ := rog 7 h9 rfl; clear h9; simp only [DepG, AtG, and_true, relG, eqG, eqG1, eqG2, eqG3, gdG, gdG1, gnG, gnG1, List.getD_cons_zero, List.getD_cons_succ, List.getElem?_cons_succ, List.getElem?_cons_zero, Option.map_some, Option.getD_some, valsG, List.map_cons, List.map_nil, List.length_cons, List.length_nil] at hd; obtain ⟨d0, d1⟩ := hd; subst d0; subst d1; clear hs; simp only [fillG, List.set_cons_zero, List.set_cons_succ]; refine want_n rfl ?_; go_wp2_with (first | fail); simp only [DoneG, fillG, List.set_cons_zero, List.set_cons_succ, relG, eqG, eqG1, eqG2, eqG3, gdG, gdG1, gnG, gnG1, List.getD_cons_zero, List.getD_cons_succ, List.getElem?_cons_succ, List.getElem?_cons_zero, Option.map_some, Option.getD_some, valsG, List.map_cons, List.map_nil, List.length_cons, List.length_nil]; exact ⟨_, rfl, (by first | with_reducible assumption | exact krg _ | exact Keep.al (krg _) _), fun _ _ => rfl⟩)
            · (intro us W h9 hW hE hd hs K hK; obtain ⟨u0, u1, u2, u3, u4, u5, u6, rfl⟩ := rog 7 h9 rfl; clear h9; simp only [DepG, AtG, and_true, relG, eqG, eqG1, eqG2, eqG3, gdG, gdG1, gnG, gnG1, List.getD_cons_zero, List.getD_cons_succ, List.getElem?_cons_succ, List.getElem?_cons_zero, Option.map_some, Option.getD_some, valsG, List.map_cons, List.map_nil, List.length_cons, List.length_nil] at hd; have d2 := hd; clear hd; subst d2; clear hs; simp only [fillG, List.set_cons_zero, List.set_cons_succ]; have hKW := Keep.tr (Keep.dr (Keep.rf _)) (hE rfl); have s0 := Keep.cell hKW s0; have x0 := Keep.cell hKW x0; refine want_n rfl ?_; go_wp2_with (first | fail); simp only [DoneG, fillG, List.set_cons_zero, List.set_cons_succ, relG, eqG, eqG1, eqG2, eqG3, gdG, gdG1, gnG, gnG1, List.getD_cons_zero, List.getD_cons_succ, List.getElem?_cons_succ, List.getElem?_cons_zero, Option.map_some, Option.getD_some, valsG, List.map_cons, List.map_nil, List.length_cons, List.length_nil]; exact ⟨_, rfl, (by first | with_reducible assumption | exact krg _ | exact Keep.al (krg _) _), fun _ _ => rfl⟩)
            · (intro us W h9 hW hE hd hs K hK; obtain ⟨u0, u1, u2, u3, u4, u5, u6, rfl⟩ := rog 7 h9 rfl; clear h9; clear hd; clear hs; simp only [fillG, List.set_cons_zero, List.set_cons_succ]; refine want_n rfl ?_; go_wp2_with (first | fail); simp only [DoneG, fillG, List.set_cons_zero, List.set_cons_succ, relG, eqG, eqG1, eqG2, eqG3, gdG, gdG1, gnG, gnG1, List.getD_cons_zero, List.getD_cons_succ, List.getElem?_cons_succ, List.getElem?_cons_zero, Option.map_some, Option.getD_some, valsG, List.map_cons, List.map_nil, List.length_cons, List.length_nil]; exact ⟨_, rfl, (by first | with_reducible assumption | exact krg _ | exact Keep.al (krg _) _), fun _ _ => rfl⟩)
            · (intro us W h9 hW hE hd hs K hK; obtain ⟨u0, u1, u2, u3, u4, u5, u6, rfl⟩ := rog 7 h9 rfl; clear h9; simp only [DepG, AtG, and_true, relG, eqG, eqG1, eqG2, eqG3, gdG, gdG1, gnG, gnG1, List.getD_cons_zero, List.getD_cons_succ, List.getElem?_cons_succ, List.getElem?_cons_zero, Option.map_some, Option.getD_some, valsG, List.map_cons, List.map_nil, List.length_cons, List.length_nil] at hd; have d4 := hd; clear hd; subst d4; clear hs; simp only [fillG, List.set_cons_zero, List.set_cons_succ]; have hKW := Keep.tr (Keep.dr (Keep.rf _)) (hE rfl); have s0 := Keep.cell hKW s0; have x0 := Keep.cell hKW x0; refine want_n rfl ?_; go_wp2_with (first | fail); simp only [DoneG, fillG, List.set_cons_zero, List.set_cons_succ, relG, eqG, eqG1, eqG2, eqG3, gdG, gdG1, gnG, gnG1, List.getD_cons_zero, List.getD_cons_succ, List.getElem?_cons_succ, List.getElem?_cons_zero, Option.map_some, Option.getD_some, valsG, List.map_cons, List.map_nil, List.length_cons, List.length_nil]; exact ⟨_, rfl, (by first | with_reducible assumption | exact krg _ | exact Keep.al (krg _) _), fun _ _ => rfl⟩)
            · (intro us W h9 hW hE hd hs K hK; obtain ⟨u0, u1, u2, u3, u4, u5, u6, rfl⟩ := rog 7 h9 rfl; clear h9; simp only [DepG, AtG, and_true, relG, eqG, eqG1, eqG2, eqG3, gdG, gdG1, gnG, gnG1, List.getD_cons_zero, List.getD_cons_succ, List.getElem?_cons_succ, List.getElem?_cons_zero, Option.map_some, Option.getD_some, valsG, List.map_cons, List.map_nil, List.length_cons, List.length_nil] at hd; obtain ⟨d3, d5⟩ := hd; subst d3; subst d5; clear hs; simp only [fillG, List.set_cons_zero, List.set_cons_succ]; refine want_n rfl ?_; go_wp2_with (first | fail); simp only [DoneG, fillG, List.set_cons_zero, List.set_cons_succ, relG, eqG, eqG1, eqG2, eqG3, gdG, gdG1, gnG, gnG1, List.getD_cons_zero, List.getD_cons_succ, List.getElem?_cons_succ, List.getElem?_cons_zero, Option.map_some, Option.getD_some, valsG, List.map_cons, List.map_nil, List.length_cons, List.length_nil]; exact ⟨_, rfl, (by first | with_reducible assumption | exact krg _ | exact Keep.al (krg _) _), fun _ _ => rfl⟩)
          (intro us W7 h9 hW hE hA; obtain ⟨u0, u1, u2, u3, u4, u5, u6, rfl⟩ := rog 7 h9 rfl; clear h9; simp only [AllG, AtG, and_true, relG, eqG, eqG1, eqG2, eqG3, gdG, gdG1, gnG, gnG1, List.getD_cons_zero, List.getD_cons_succ, List.getElem?_cons_succ, List.getElem?_cons_zero, Option.map_some, Option.getD_some, valsG, List.map_cons, List.map_nil, List.length_cons, List.length_nil] at hA; have d6 := hA; clear hA; subst d6; simp only [fillG, List.set_cons_zero, List.set_cons_succ]; have k7 := Keep.tr (Keep.dr (Keep.rf _)) hW; clear hW hE)
          go_wp2_with (first
            | (at_builtin; go_loud (refine appB (w0 := w5) rfl (.tmp 21) (.tmp 24) rfl _ [] rfl (HO2.out.keep (by repeat (first | exact Keep.rf _ | assumption | apply Keep.al | apply Keep.dr | apply Keep.dn))) _ [UInt8.ofNat j] rfl (Bs.box HU.out (by first | rfl | simp)) (Keep.tr hkw (by repeat (first | exact Keep.rf _ | assumption | apply Keep.al | apply Keep.dr | apply Keep.dn))) (by simp) ?_); intro v8 w8 ho8 hk8 hg8 hat8)
            | fail)
          have HO8 := hide ho8
          clear ho8 hg8 hat8
          go_roundw
          case rel => exact ⟨j + 1, by omega, by omega, by go_num, by rw [if_pos (by omega)]; exact HO8.out, hk8⟩
          case measure => simp [intOf]; omega
        · have hxb : ((str (Em.opsL[j]'(by simpa [Em.opsL] using hlt))).toList == (str o).toList) = false := by
            rw [str_lbeq]
            refine decide_eq_false fun e => ?_
            have := opI_at j hlt o e
            omega
          rw [show (if oi < j then [UInt8.ofNat oi] else []) = (if oi < j + 1 then [UInt8.ofNat oi] else []) from by
            by_cases h : oi < j
            · rw [if_pos h, if_pos (by omega)]
            · rw [if_neg h, if_neg (by omega)]] at ho
          have HO2 := hide ho
          clear ho HO hscl
          generalize Em.opsL[j]'(by simpa [Em.opsL] using hlt) = sj at *
          go_wp2_with fail
          apply region_all (by kernel_rfl) Keep Keep krg ktg krg ktg (fun _ _ h => h) [some 14, some 15, some 16, some 17, some 18, some 19, some 20] [eqG _ , eqG _ , eqG _ , eqG _ , eqG _ , eqG _ , eqG _ ] [⟨[], [], true, false, false⟩, ⟨[], [], true, false, false⟩, ⟨[0, 1], [], true, false, false⟩, ⟨[2], [], true, false, false⟩, ⟨[], [], true, false, false⟩, ⟨[4], [], true, false, false⟩, ⟨[3, 5], [], true, false, false⟩] [6] (by kernel_rfl) (by kernel_rfl) 
          · refine ⟨?_, ?_, ?_, ?_, ?_, ?_, ?_, trivial⟩
            · (intro us W h9 hW hE hd hs K hK; obtain ⟨u0, u1, u2, u3, u4, u5, u6, rfl⟩ := rog 7 h9 rfl; clear h9; clear hd; clear hs; simp only [fillG, List.set_cons_zero, List.set_cons_succ]; refine want_n rfl ?_; go_wp2_with (first | fail); simp only [DoneG, fillG, List.set_cons_zero, List.set_cons_succ, relG, eqG, eqG1, eqG2, eqG3, gdG, gdG1, gnG, gnG1, List.getD_cons_zero, List.getD_cons_succ, List.getElem?_cons_succ, List.getElem?_cons_zero, Option.map_some, Option.getD_some, valsG, List.map_cons, List.map_nil, List.length_cons, List.length_nil]; exact ⟨_, rfl, (by first | with_reducible assumption | exact krg _ | exact Keep.al (krg _) _), fun _ _ => rfl⟩)
            · (intro us W h9 hW hE hd hs K hK; obtain ⟨u0, u1, u2, u3, u4, u5, u6, rfl⟩ := rog 7 h9 rfl; clear h9; clear hd; clear hs; simp only [fillG, List.set_cons_zero, List.set_cons_succ]; refine want_n rfl ?_; go_wp2_with (first | fail); simp only [DoneG, fillG, List.set_cons_zero, List.set_cons_succ, relG, eqG, eqG1, eqG2, eqG3, gdG, gdG1, gnG, gnG1, List.getD_cons_zero, List.getD_cons_succ, List.getElem?_cons_succ, List.getElem?_cons_zero, Option.map_some, Option.getD_some, valsG, List.map_cons, List.map_nil, List.length_cons, List.length_nil]; exact ⟨_, rfl, (by first | with_reducible assumption | exact krg _ | exact Keep.al (krg _) _), fun _ _ => rfl⟩)
            · (intro us W h9 hW hE hd hs K hK; obtain ⟨u0, u1, u2, u3, u4, u5, u6, rfl⟩ := rog 7 h9 rfl; clear h9; simp only [DepG, AtG, and_true, relG, eqG, eqG1, eqG2, eqG3, gdG, gdG1, gnG, gnG1, List.getD_cons_zero, List.getD_cons_succ, List.getElem?_cons_succ, List.getElem?_cons_zero, Option.map_some, Option.getD_some, valsG, List.map_cons, List.map_nil, List.length_cons, List.length_nil] at hd; obtain ⟨d0, d1⟩ := hd; subst d0; subst d1; clear hs; simp only [fillG, List.set_cons_zero, List.set_cons_succ]; refine want_n rfl ?_; go_wp2_with (first | fail); simp only [DoneG, fillG, List.set_cons_zero, List.set_cons_succ, relG, eqG, eqG1, eqG2, eqG3, gdG, gdG1, gnG, gnG1, List.getD_cons_zero, List.getD_cons_succ, List.getElem?_cons_succ, List.getElem?_cons_zero, Option.map_some, Option.getD_some, valsG, List.map_cons, List.map_nil, List.length_cons, List.length_nil]; exact ⟨_, rfl, (by first | with_reducible assumption | exact krg _ | exact Keep.al (krg _) _), fun _ _ => rfl⟩)
            · (intro us W h9 hW hE hd hs K hK; obtain ⟨u0, u1, u2, u3, u4, u5, u6, rfl⟩ := rog 7 h9 rfl; clear h9; simp only [DepG, AtG, and_true, relG, eqG, eqG1, eqG2, eqG3, gdG, gdG1, gnG, gnG1, List.getD_cons_zero, List.getD_cons_succ, List.getElem?_cons_succ, List.getElem?_cons_zero, Option.map_some, Option.getD_some, valsG, List.map_cons, List.map_nil, List.length_cons, List.length_nil] at hd; have d2 := hd; clear hd; subst d2; clear hs; simp only [fillG, List.set_cons_zero, List.set_cons_succ]; have hKW := Keep.tr (Keep.dr (Keep.rf _)) (hE rfl); have s0 := Keep.cell hKW s0; have x0 := Keep.cell hKW x0; refine want_n rfl ?_; go_wp2_with (first | fail); simp only [DoneG, fillG, List.set_cons_zero, List.set_cons_succ, relG, eqG, eqG1, eqG2, eqG3, gdG, gdG1, gnG, gnG1, List.getD_cons_zero, List.getD_cons_succ, List.getElem?_cons_succ, List.getElem?_cons_zero, Option.map_some, Option.getD_some, valsG, List.map_cons, List.map_nil, List.length_cons, List.length_nil]; exact ⟨_, rfl, (by first | with_reducible assumption | exact krg _ | exact Keep.al (krg _) _), fun _ _ => rfl⟩)
            · (intro us W h9 hW hE hd hs K hK; obtain ⟨u0, u1, u2, u3, u4, u5, u6, rfl⟩ := rog 7 h9 rfl; clear h9; clear hd; clear hs; simp only [fillG, List.set_cons_zero, List.set_cons_succ]; refine want_n rfl ?_; go_wp2_with (first | fail); simp only [DoneG, fillG, List.set_cons_zero, List.set_cons_succ, relG, eqG, eqG1, eqG2, eqG3, gdG, gdG1, gnG, gnG1, List.getD_cons_zero, List.getD_cons_succ, List.getElem?_cons_succ, List.getElem?_cons_zero, Option.map_some, Option.getD_some, valsG, List.map_cons, List.map_nil, List.length_cons, List.length_nil]; exact ⟨_, rfl, (by first | with_reducible assumption | exact krg _ | exact Keep.al (krg _) _), fun _ _ => rfl⟩)
            · (intro us W h9 hW hE hd hs K hK; obtain ⟨u0, u1, u2, u3, u4, u5, u6, rfl⟩ := rog 7 h9 rfl; clear h9; simp only [DepG, AtG, and_true, relG, eqG, eqG1, eqG2, eqG3, gdG, gdG1, gnG, gnG1, List.getD_cons_zero, List.getD_cons_succ, List.getElem?_cons_succ, List.getElem?_cons_zero, Option.map_some, Option.getD_some, valsG, List.map_cons, List.map_nil, List.length_cons, List.length_nil] at hd; have d4 := hd; clear hd; subst d4; clear hs; simp only [fillG, List.set_cons_zero, List.set_cons_succ]; have hKW := Keep.tr (Keep.dr (Keep.rf _)) (hE rfl); have s0 := Keep.cell hKW s0; have x0 := Keep.cell hKW x0; refine want_n rfl ?_; go_wp2_with (first | fail); simp only [DoneG, fillG, List.set_cons_zero, List.set_cons_succ, relG, eqG, eqG1, eqG2, eqG3, gdG, gdG1, gnG, gnG1, List.getD_cons_zero, List.getD_cons_succ, List.getElem?_cons_succ, List.getElem?_cons_zero, Option.map_some, Option.getD_some, valsG, List.map_cons, List.map_nil, List.length_cons, List.length_nil]; exact ⟨_, rfl, (by first | with_reducible assumption | exact krg _ | exact Keep.al (krg _) _), fun _ _ => rfl⟩)
            · (intro us W h9 hW hE hd hs K hK; obtain ⟨u0, u1, u2, u3, u4, u5, u6, rfl⟩ := rog 7 h9 rfl; clear h9; simp only [DepG, AtG, and_true, relG, eqG, eqG1, eqG2, eqG3, gdG, gdG1, gnG, gnG1, List.getD_cons_zero, List.getD_cons_succ, List.getElem?_cons_succ, List.getElem?_cons_zero, Option.map_some, Option.getD_some, valsG, List.map_cons, List.map_nil, List.length_cons, List.length_nil] at hd; obtain ⟨d3, d5⟩ := hd; subst d3; subst d5; clear hs; simp only [fillG, List.set_cons_zero, List.set_cons_succ]; refine want_n rfl ?_; go_wp2_with (first | fail); simp only [DoneG, fillG, List.set_cons_zero, List.set_cons_succ, relG, eqG, eqG1, eqG2, eqG3, gdG, gdG1, gnG, gnG1, List.getD_cons_zero, List.getD_cons_succ, List.getElem?_cons_succ, List.getElem?_cons_zero, Option.map_some, Option.getD_some, valsG, List.map_cons, List.map_nil, List.length_cons, List.length_nil]; exact ⟨_, rfl, (by first | with_reducible assumption | exact krg _ | exact Keep.al (krg _) _), fun _ _ => rfl⟩)
          (intro us W7 h9 hW hE hA; obtain ⟨u0, u1, u2, u3, u4, u5, u6, rfl⟩ := rog 7 h9 rfl; clear h9; simp only [AllG, AtG, and_true, relG, eqG, eqG1, eqG2, eqG3, gdG, gdG1, gnG, gnG1, List.getD_cons_zero, List.getD_cons_succ, List.getElem?_cons_succ, List.getElem?_cons_zero, Option.map_some, Option.getD_some, valsG, List.map_cons, List.map_nil, List.length_cons, List.length_nil] at hA; have d6 := hA; clear hA; subst d6; simp only [fillG, List.set_cons_zero, List.set_cons_succ]; have k7 := Keep.tr (Keep.dr (Keep.rf _)) hW; clear hW hE)
          go_wp2_with fail
          go_roundw
          case rel => exact ⟨j + 1, by omega, by omega, by go_num, HO2.out.keep k7, Keep.tr hkw k7⟩
          case measure => simp [intOf]; omega
      · have hj11 : j = 11 := by omega
        have hlti : (decide ((j : Int) < 11)) = false := by simp; omega
        rw [if_pos (by omega)] at ho
        obtain ⟨bA, bc, rfl⟩ := own_slice (show wr.ownsRow _ _ _ _ _ _ from ho)
        have O5 := hide (show Obs wr W4.heap.size (.slice bA [UInt8.ofNat oi].length bc) [UInt8.ofNat oi] from ho.lower k5.size)
        have hb1 : UInt8.ofNat (Em.opI o % 256).toNat = UInt8.ofNat oi := by
          rw [hoe, show ((oi : Int) % 256).toNat = oi by omega]
        have HM2 := HM.out
        rw [hb1] at HM2
        have HM3 := hide HM2
        clear ho HO HM2 hb1 hscell hj11 hj1 hj2 HM
        by_cases hv : o = Em.wVar
        · have h1c : (str o).toList = [118, 97, 114] := by rw [str_list, hv]; rfl
          have hP := refPut (n % 18446744073709551616).toNat (by omega) wr
          rw [Int.toNat_of_nonneg (by omega)] at hP
          have HQ := hide (show (UInt8.ofNat oi :: Em.putN (n % 18446744073709551616).toNat) ++ Em.mputL (ks.drop 0) = M from by
            rw [HM3.out, if_pos hv, List.drop_zero]
            rfl)
          have hpl := Em.putN_len10 (v := (n % 18446744073709551616).toNat) (by omega)
          have HPP := hide hP
          generalize Em.putN (n % 18446744073709551616).toNat = pn at *
          generalize UInt8.ofNat oi = hd at *
          clear hv hP
          go_wp2_with fail
          refine HPP.out.mono ?_
          rintro e w8 ⟨v8, rfl, o8, k8⟩
          obtain ⟨A8, c8, rfl⟩ := own_slice (show w8.ownsRow _ _ _ _ _ _ from o8)
          go_wp2_with (first
            | (at_builtin; go_loud (refine appB (w0 := W4) rfl (.tmp 29) (.tmp 33) rfl _ [hd] rfl (O5.out.keep k8) _ pn rfl o8.bs (Keep.tr kw5 k8) (by simp; omega) ?_); intro v9 w9 ho9 hk9 hg9 hat9; have HO9 := hide ho9; clear ho9 hg9 hat9)
            | fail)
          clear kw5 kw hkw hbw x0 x1 x2
          go_loopw [3, 6] (fun b i W => ∃ (j : Nat) (q : List UInt8), j ≤ ks.length ∧ i = .int .i64 j ∧ q ++ Em.mputL (ks.drop j) = M ∧ Obs W W4.heap.size b q ∧ Keep W4 W) (fun _ i _ => ks.length - (intOf i).toNat)
          case atStart => exact ⟨0, _, Nat.zero_le _, rfl, HQ.out, HO9.out, hk9⟩
          case round =>
            obtain ⟨j, q, hj, rfl, hx, ho, hkw⟩ := hrel
            have kw : Keep w wr := Keep.tr k4 hkw
            have hbw := (hkw.frm fun _ => False).heap (fun h => h) hb0
            have y2 := top_cells hbw 2
            simp only [List.getElem?_toArray, List.getElem?_cons_succ, List.getElem?_cons_zero] at y2
            have HX := hide hx
            have HO := hide ho
            obtain ⟨bA, bc, rfl⟩ := own_slice (show wr.ownsRow _ _ _ _ _ _ from ho)
            clear hx ho hbw
            by_cases hlt : j < ks.length
            · have hlti : (decide ((j : Int) < (ks.length : Int))) = true := by simp; omega
              obtain ⟨ad, rfl, hcell⟩ := hr (by omega)
              obtain ⟨cs, hcs, hcl, hkt⟩ := hcell j hlt
              have hkt0 := hide hkt
              have HDR := hide (show Em.mputL (ks.drop j) = Em.mput ks[j] ++ Em.mputL (ks.drop (j + 1)) from by rw [List.drop_eq_getElem_cons hlt, Em.mputL])
              have HKD := hide (HKN.out _ (List.getElem_mem hlt))
              have HKE := hide (HKG.out _ (List.getElem_mem hlt))
              generalize ks[j] = kt at *
              cases d with
              | zero => exact hkt.elim
              | succ d =>
                obtain ⟨kv, rfl, kn, qA, qc, rfl, _⟩ := hkt
                have c0 := Keep.cell kw (hcl 0 _ rfl)
                rw [Nat.add_zero] at c0
                have c1 := cell_off (Keep.cell kw (hcl 1 _ rfl))
                have c2 := cell_off (Keep.cell kw (hcl 2 _ rfl))
                clear hcell hcl hr
                have hon : (q ++ Em.mput kt) ++ Em.mputL (ks.drop (j + 1)) = M := by rw [← HX.out, HDR.out, List.append_assoc]
                have hll : q.length + (Em.mput kt).length ≤ 1100000 := by
                  have := HML.out
                  rw [← hon, List.length_append, List.length_append] at this
                  omega
                have HON := hide hon
                clear hon
                go_wp2_with fail
                refine (IH.out kt _ _ (hkt0.out.keep kw) HKD.out HKE.out).mono ?_
                rintro e w6 ⟨v6, rfl, o6, k6⟩
                obtain ⟨A6, c6, rfl⟩ := own_slice (show w6.ownsRow _ _ _ _ _ _ from o6)
                go_wp2_with (first
                  | (at_builtin; go_loud (refine appB (w0 := W4) rfl (.tmp 42) (.tmp 48) rfl _ q rfl (HO.out.keep k6) _ (Em.mput kt) rfl o6.bs (Keep.tr hkw k6) (by omega) ?_); intro v8 w8 ho8 hk8 hg8 hat8)
                  | fail)
                have HO8 := hide ho8
                clear ho8 hg8 hat8
                go_roundw
                case rel => exact ⟨j + 1, _, by omega, by go_num, HON.out, HO8.out, hk8⟩
                case measure => simp [intOf]; omega
            · have hlti : (decide ((j : Int) < (ks.length : Int))) = false := by simp; omega
              have hfin := hide (show q = M from by rw [← HX.out, List.drop_of_length_le (by omega), Em.mputL, List.append_nil])
              go_wp2_with fail
              go_ret
              exact ⟨_, rfl, by rw [← hfin.out]; exact HO.out.lower k4.size, kw⟩
        · have hvb : ((str o).toList == [118, 97, 114]) = false := by rw [opB]; exact decide_eq_false hv
          have HQ := hide (show [UInt8.ofNat oi] ++ Em.mputL (ks.drop 0) = M from by
            rw [HM3.out, if_neg hv, List.drop_zero]
            rfl)
          generalize UInt8.ofNat oi = hd at *
          clear hv
          go_wp2_with fail
          have KW5 := hide kw5
          clear kw5 kw hkw hbw x0 x1 x2
          go_loopw [3, 6] (fun b i W => ∃ (j : Nat) (q : List UInt8), j ≤ ks.length ∧ i = .int .i64 j ∧ q ++ Em.mputL (ks.drop j) = M ∧ Obs W W4.heap.size b q ∧ Keep W4 W) (fun _ i _ => ks.length - (intOf i).toNat)
          case atStart => exact ⟨0, _, Nat.zero_le _, rfl, HQ.out, O5.out, KW5.out⟩
          case round =>
            obtain ⟨j, q, hj, rfl, hx, ho, hkw⟩ := hrel
            have kw : Keep w wr := Keep.tr k4 hkw
            have hbw := (hkw.frm fun _ => False).heap (fun h => h) hb0
            have y2 := top_cells hbw 2
            simp only [List.getElem?_toArray, List.getElem?_cons_succ, List.getElem?_cons_zero] at y2
            have HX := hide hx
            have HO := hide ho
            obtain ⟨bA, bc, rfl⟩ := own_slice (show wr.ownsRow _ _ _ _ _ _ from ho)
            clear hx ho hbw
            by_cases hlt : j < ks.length
            · have hlti : (decide ((j : Int) < (ks.length : Int))) = true := by simp; omega
              obtain ⟨ad, rfl, hcell⟩ := hr (by omega)
              obtain ⟨cs, hcs, hcl, hkt⟩ := hcell j hlt
              have hkt0 := hide hkt
              have HDR := hide (show Em.mputL (ks.drop j) = Em.mput ks[j] ++ Em.mputL (ks.drop (j + 1)) from by rw [List.drop_eq_getElem_cons hlt, Em.mputL])
              have HKD := hide (HKN.out _ (List.getElem_mem hlt))
              have HKE := hide (HKG.out _ (List.getElem_mem hlt))
              generalize ks[j] = kt at *
              cases d with
              | zero => exact hkt.elim
              | succ d =>
                obtain ⟨kv, rfl, kn, qA, qc, rfl, _⟩ := hkt
                have c0 := Keep.cell kw (hcl 0 _ rfl)
                rw [Nat.add_zero] at c0
                have c1 := cell_off (Keep.cell kw (hcl 1 _ rfl))
                have c2 := cell_off (Keep.cell kw (hcl 2 _ rfl))
                clear hcell hcl hr
                have hon : (q ++ Em.mput kt) ++ Em.mputL (ks.drop (j + 1)) = M := by rw [← HX.out, HDR.out, List.append_assoc]
                have hll : q.length + (Em.mput kt).length ≤ 1100000 := by
                  have := HML.out
                  rw [← hon, List.length_append, List.length_append] at this
                  omega
                have HON := hide hon
                clear hon
                go_wp2_with fail
                refine (IH.out kt _ _ (hkt0.out.keep kw) HKD.out HKE.out).mono ?_
                rintro e w6 ⟨v6, rfl, o6, k6⟩
                obtain ⟨A6, c6, rfl⟩ := own_slice (show w6.ownsRow _ _ _ _ _ _ from o6)
                go_wp2_with (first
                  | (at_builtin; go_loud (refine appB (w0 := W4) rfl (.tmp 42) (.tmp 48) rfl _ q rfl (HO.out.keep k6) _ (Em.mput kt) rfl o6.bs (Keep.tr hkw k6) (by omega) ?_); intro v8 w8 ho8 hk8 hg8 hat8)
                  | fail)
                have HO8 := hide ho8
                clear ho8 hg8 hat8
                go_roundw
                case rel => exact ⟨j + 1, _, by omega, by go_num, HON.out, HO8.out, hk8⟩
                case measure => simp [intOf]; omega
            · have hlti : (decide ((j : Int) < (ks.length : Int))) = false := by simp; omega
              have hfin := hide (show q = M from by rw [← HX.out, List.drop_of_length_le (by omega), Em.mputL, List.append_nil])
              go_wp2_with fail
              go_ret
              exact ⟨_, rfl, by rw [← hfin.out]; exact HO.out.lower k4.size, kw⟩
end Go.Proofs.Ytcbkklfdeloeeaa
