/- Walks: a number, a body (reference of server). -/
import Derived.Test.YtcbkklfdeloeeaaCliG
import Derived.OwnWalk
namespace Go.Proofs.Ytcbkklfdeloeeaa
open Go.RowKit
set_option linter.unusedVariables false
set_option linter.unusedSimpArgs false
set_option maxRecDepth 100000
theorem wp_slF0 {P : Program} {w w0 : World} {o : Oper} {a : Act} {K : Act → World → Prop} {Q : Exit → Act → World → Prop} (x lo : Operand) (t e : Nat) (ho : o.op = .slice t x (some lo) none none)
    (ht : P.underlying t = some (.slice e)) (hs : (P.info? e).map (fun i => i.size) = some 1) (v : Value) (L : List UInt8) (hx : a.eval x = v) (hb : Bs w0 v L) (kk : IntKind) (i : Int) (hlo : a.eval lo = .int kk i) (k : Nat) (hi : i = (k : Int)) (m : Nat) (hm : L.length = k + m)
    (h : ∀ A' c', Bs w0 (.slice A' m c') (L.drop k) → K (a.put o.dst (.slice A' m c')) w) : o.wp P a w K Q := by
  have hb0 := hb
  obtain ⟨A, c, rfl, g1, g2, g3⟩ := hb
  subst hi
  have hr := run_sl (P := P) w t e 1 ht hs A L.length c (l := k) (h := L.length) (lo := some (.int kk (k : Int))) (hi := none) (.inr ⟨kk, rfl⟩) (.inl ⟨rfl, rfl⟩) (by omega) g1
  have hb1 := hb0.sub k L.length (by omega) (Nat.le_refl _)
  rw [List.take_length] at hb1
  rw [show L.length - k = m from by omega] at hb1 hr
  unfold Oper.wp execOp
  simp only [ho, hx, hlo, Option.map_none, Option.map_some, hr, Oper.upon, Result.andThen_ok, Sem.run_bind, Sem.run_pure]
  exact h _ _ hb1
/-- A number below 2^31 that comes next: what, what is left, was there one. -/
def nX (l : List UInt8) : Option (Nat × List UInt8) := numM 2147483647 l
def nV (l : List UInt8) : Nat := ((nX l).map fun x => x.1).getD 0
def nR (l : List UInt8) : List UInt8 := ((nX l).map fun x => x.2).getD []
def nB (l : List UInt8) : Bool := (nX l).isSome
/-- Bytes that lie in a slice. -/
def SlAt (w0 : World) (l : List UInt8) (v : Value) : Prop := ∃ A c, v = .slice A l.length c ∧ Bs w0 (.slice A l.length c) l
def RetN (w : World) (l : List UInt8) (e : Ending) (w' : World) : Prop := Keep w w' ∧ ∃ A c, e = .returned (.tuple #[.int .i64 (nV l : Int), .slice A (nR l).length c, .bool (nB l)]) ∧ Bs w (.slice A (nR l).length c) (nR l)
theorem nX_no {l : List UInt8} (h : okN true l 2147483647 = false) : nV l = 0 ∧ nR l = [] ∧ nB l = false := by
  have hp := numM_parts 2147483647 l
  rw [h, if_neg (by simp)] at hp
  unfold nV nR nB nX
  rw [hp]
  exact ⟨rfl, rfl, rfl⟩
theorem nX_yes {l : List UInt8} (h : okN true l 2147483647 = true) : nV l = numV l ∧ nR l = numR l ∧ nB l = true := by
  have hp := numM_parts 2147483647 l
  rw [h, if_pos rfl] at hp
  unfold nV nR nB nX
  rw [hp]
  exact ⟨rfl, rfl, rfl⟩
set_option maxHeartbeats 4000000 in
theorem ref5Num (v : Value) (l : List UInt8) (w : World) (h : Bs w v l) : Calls Try.prog 116 #[v] w (RetN w l) := by
  have HS0 := hide h
  have hG := refGet v l w h
  obtain ⟨n, hT, hn, hR⟩ := getT_of l
  rw [hT] at hG
  have HG := hide hG
  have HR := hide hR
  have HLE := hide (show l.length = n + (l.length - n) from by omega)
  have HDL := hide (show (l.drop n).length = l.length - n from List.length_drop)
  have h64 := hide (numV_lt l)
  obtain ⟨A, c, rfl, hlc, hcm, hr⟩ := h
  clear hr hG hT hR
  unfold RetN
  by_cases hg : (Em.getN l).isSome = true
  · by_cases hv : numV l ≤ 2147483647
    · obtain ⟨e1, e2, e3⟩ := nX_yes (l := l) (by simp [okN, hg, hv])
      rw [e1, e2, e3]
      rw [hg] at HG
      clear hg e1 e2 e3
      generalize numV l = v at *
      have hge : decide ((v : Int) ≥ 2147483648) = false := decide_eq_false (by omega)
      generalize numR l = r at *
      go_enter Try.func116, Try.ntmps116
      go_wp2_with fail
      refine HG.out.mono ?_
      rintro e w1 ⟨rfl, k1⟩
      go_wp2_with fail
      have hS := HS0.out
      apply region_all (by kernel_rfl) Keep Keep krg ktg krg ktg (fun _ _ h => h) [some 20, some 21, some 22, some 23, some 24, some 2, some 3, some 4] [eqG _ , eqG _ , eqG _ , eqG _ , fun us W v => ∃ A c, v = .slice A (l.length - n) c ∧ Bs w (.slice A (l.length - n) c) (l.drop n), eqG _ , fun us _ v => v = (us.getD 0 undef), eqG _ ] [⟨[], [], true, false, false⟩, ⟨[0], [], true, false, false⟩, ⟨[], [], true, false, false⟩, ⟨[], [], true, false, false⟩, ⟨[2, 3], [], true, false, false⟩, ⟨[1], [], true, false, false⟩, ⟨[4], [], true, false, false⟩, ⟨[], [], true, false, false⟩] [4, 5, 6, 7] (by kernel_rfl) (by kernel_rfl) 
      · refine ⟨?_, ?_, ?_, ?_, ?_, ?_, ?_, ?_, trivial⟩
        · (intro us W h9 hW hE hd hs K hK; obtain ⟨u0, u1, u2, u3, u4, u5, u6, u7, rfl⟩ := rog 8 h9 rfl; clear h9; clear hd; clear hs; simp only [fillG, List.set_cons_zero, List.set_cons_succ]; refine want_n rfl ?_; go_wp2_with (first | fail); simp only [DoneG, fillG, List.set_cons_zero, List.set_cons_succ, relG, eqG, eqG1, eqG2, eqG3, gdG, gdG1, gnG, gnG1, List.getD_cons_zero, List.getD_cons_succ, List.getElem?_cons_succ, List.getElem?_cons_zero, Option.map_some, Option.getD_some, valsG, List.map_cons, List.map_nil, List.length_cons, List.length_nil]; exact ⟨_, rfl, (by first | with_reducible assumption | exact krg _ | exact Keep.al (krg _) _), fun _ _ => rfl⟩)
        · (intro us W h9 hW hE hd hs K hK; obtain ⟨u0, u1, u2, u3, u4, u5, u6, u7, rfl⟩ := rog 8 h9 rfl; clear h9; simp only [DepG, AtG, and_true, relG, eqG, eqG1, eqG2, eqG3, gdG, gdG1, gnG, gnG1, List.getD_cons_zero, List.getD_cons_succ, List.getElem?_cons_succ, List.getElem?_cons_zero, Option.map_some, Option.getD_some, valsG, List.map_cons, List.map_nil, List.length_cons, List.length_nil] at hd; have d0 := hd; clear hd; subst d0; clear hs; simp only [fillG, List.set_cons_zero, List.set_cons_succ]; refine want_n rfl ?_; go_wp2_with (first | fail); simp only [DoneG, fillG, List.set_cons_zero, List.set_cons_succ, relG, eqG, eqG1, eqG2, eqG3, gdG, gdG1, gnG, gnG1, List.getD_cons_zero, List.getD_cons_succ, List.getElem?_cons_succ, List.getElem?_cons_zero, Option.map_some, Option.getD_some, valsG, List.map_cons, List.map_nil, List.length_cons, List.length_nil]; exact ⟨_, rfl, (by first | with_reducible assumption | exact krg _ | exact Keep.al (krg _) _), fun _ _ => rfl⟩)
        · (intro us W h9 hW hE hd hs K hK; obtain ⟨u0, u1, u2, u3, u4, u5, u6, u7, rfl⟩ := rog 8 h9 rfl; clear h9; clear hd; clear hs; simp only [fillG, List.set_cons_zero, List.set_cons_succ]; refine want_n rfl ?_; go_wp2_with (first | fail); simp only [DoneG, fillG, List.set_cons_zero, List.set_cons_succ, relG, eqG, eqG1, eqG2, eqG3, gdG, gdG1, gnG, gnG1, List.getD_cons_zero, List.getD_cons_succ, List.getElem?_cons_succ, List.getElem?_cons_zero, Option.map_some, Option.getD_some, valsG, List.map_cons, List.map_nil, List.length_cons, List.length_nil]; exact ⟨_, rfl, (by first | with_reducible assumption | exact krg _ | exact Keep.al (krg _) _), fun _ _ => rfl⟩)
        · (intro us W h9 hW hE hd hs K hK; obtain ⟨u0, u1, u2, u3, u4, u5, u6, u7, rfl⟩ := rog 8 h9 rfl; clear h9; clear hd; clear hs; simp only [fillG, List.set_cons_zero, List.set_cons_succ]; refine want_n rfl ?_; go_wp2_with (first | fail); simp only [DoneG, fillG, List.set_cons_zero, List.set_cons_succ, relG, eqG, eqG1, eqG2, eqG3, gdG, gdG1, gnG, gnG1, List.getD_cons_zero, List.getD_cons_succ, List.getElem?_cons_succ, List.getElem?_cons_zero, Option.map_some, Option.getD_some, valsG, List.map_cons, List.map_nil, List.length_cons, List.length_nil]; exact ⟨_, rfl, (by first | with_reducible assumption | exact krg _ | exact Keep.al (krg _) _), fun _ _ => rfl⟩)
        · (intro us W h9 hW hE hd hs K hK; obtain ⟨u0, u1, u2, u3, u4, u5, u6, u7, rfl⟩ := rog 8 h9 rfl; clear h9; simp only [DepG, AtG, and_true, relG, eqG, eqG1, eqG2, eqG3, gdG, gdG1, gnG, gnG1, List.getD_cons_zero, List.getD_cons_succ, List.getElem?_cons_succ, List.getElem?_cons_zero, Option.map_some, Option.getD_some, valsG, List.map_cons, List.map_nil, List.length_cons, List.length_nil] at hd; obtain ⟨d2, d3⟩ := hd; subst d2; subst d3; clear hs; simp only [fillG, List.set_cons_zero, List.set_cons_succ]; have hKW := Keep.tr (Keep.dr (Keep.rf _)) (hE rfl); refine want_n rfl ?_; refine wp_slF0 (.tmp 22) (.tmp 23) _ _ rfl Try.underlying29 sizeB8 _ _ rfl HS0.out _ _ rfl n rfl _ HLE.out ?_; intro A1 c1 hd; refine hK _ _ ?_; simp only [DoneG, fillG, List.set_cons_zero, List.set_cons_succ, relG, eqG, eqG1, eqG2, eqG3, gdG, gdG1, gnG, gnG1, List.getD_cons_zero, List.getD_cons_succ, List.getElem?_cons_succ, List.getElem?_cons_zero, Option.map_some, Option.getD_some, valsG, List.map_cons, List.map_nil, List.length_cons, List.length_nil]; exact ⟨_, rfl, (by first | with_reducible assumption | exact krg _ | exact Keep.al (krg _) _), fun W9 hk9 => ⟨A1, c1, rfl, hd⟩⟩)
        · (intro us W h9 hW hE hd hs K hK; obtain ⟨u0, u1, u2, u3, u4, u5, u6, u7, rfl⟩ := rog 8 h9 rfl; clear h9; simp only [DepG, AtG, and_true, relG, eqG, eqG1, eqG2, eqG3, gdG, gdG1, gnG, gnG1, List.getD_cons_zero, List.getD_cons_succ, List.getElem?_cons_succ, List.getElem?_cons_zero, Option.map_some, Option.getD_some, valsG, List.map_cons, List.map_nil, List.length_cons, List.length_nil] at hd; have d1 := hd; clear hd; subst d1; clear hs; simp only [fillG, List.set_cons_zero, List.set_cons_succ]; refine want_n rfl ?_; go_wp2_with (first | fail); simp only [DoneG, fillG, List.set_cons_zero, List.set_cons_succ, relG, eqG, eqG1, eqG2, eqG3, gdG, gdG1, gnG, gnG1, List.getD_cons_zero, List.getD_cons_succ, List.getElem?_cons_succ, List.getElem?_cons_zero, Option.map_some, Option.getD_some, valsG, List.map_cons, List.map_nil, List.length_cons, List.length_nil]; exact ⟨_, rfl, (by first | with_reducible assumption | exact krg _ | exact Keep.al (krg _) _), fun _ _ => rfl⟩)
        · (intro us W h9 hW hE hd hs K hK; obtain ⟨u0, u1, u2, u3, u4, u5, u6, u7, rfl⟩ := rog 8 h9 rfl; clear h9; simp only [DepG, AtG, and_true, relG, eqG, eqG1, eqG2, eqG3, gdG, gdG1, gnG, gnG1, List.getD_cons_zero, List.getD_cons_succ, List.getElem?_cons_succ, List.getElem?_cons_zero, Option.map_some, Option.getD_some, valsG, List.map_cons, List.map_nil, List.length_cons, List.length_nil] at hd; have d4 := hd; clear hd; obtain ⟨A4, c4, rfl, o4⟩ := d4; clear hs; simp only [fillG, List.set_cons_zero, List.set_cons_succ]; have hKW := Keep.tr (Keep.dr (Keep.rf _)) (hE rfl); refine want_n rfl ?_; go_wp2_with (first | fail); simp only [DoneG, fillG, List.set_cons_zero, List.set_cons_succ, relG, eqG, eqG1, eqG2, eqG3, gdG, gdG1, gnG, gnG1, List.getD_cons_zero, List.getD_cons_succ, List.getElem?_cons_succ, List.getElem?_cons_zero, Option.map_some, Option.getD_some, valsG, List.map_cons, List.map_nil, List.length_cons, List.length_nil]; exact ⟨_, rfl, (by first | with_reducible assumption | exact krg _ | exact Keep.al (krg _) _), fun _ _ => rfl⟩)
        · (intro us W h9 hW hE hd hs K hK; obtain ⟨u0, u1, u2, u3, u4, u5, u6, u7, rfl⟩ := rog 8 h9 rfl; clear h9; clear hd; clear hs; simp only [fillG, List.set_cons_zero, List.set_cons_succ]; refine want_n rfl ?_; go_wp2_with (first | fail); simp only [DoneG, fillG, List.set_cons_zero, List.set_cons_succ, relG, eqG, eqG1, eqG2, eqG3, gdG, gdG1, gnG, gnG1, List.getD_cons_zero, List.getD_cons_succ, List.getElem?_cons_succ, List.getElem?_cons_zero, Option.map_some, Option.getD_some, valsG, List.map_cons, List.map_nil, List.length_cons, List.length_nil]; exact ⟨_, rfl, (by first | with_reducible assumption | exact krg _ | exact Keep.al (krg _) _), fun _ _ => rfl⟩)
      (intro us W3 h9 hW hE hA; obtain ⟨u0, u1, u2, u3, u4, u5, u6, u7, rfl⟩ := rog 8 h9 rfl; clear h9; simp only [AllG, AtG, and_true, relG, eqG, eqG1, eqG2, eqG3, gdG, gdG1, gnG, gnG1, List.getD_cons_zero, List.getD_cons_succ, List.getElem?_cons_succ, List.getElem?_cons_zero, Option.map_some, Option.getD_some, valsG, List.map_cons, List.map_nil, List.length_cons, List.length_nil] at hA; obtain ⟨d4, d5, d6, d7⟩ := hA; obtain ⟨A4, c4, rfl, o4⟩ := d4; subst d5; subst d6; subst d7; simp only [fillG, List.set_cons_zero, List.set_cons_succ]; have k3 := Keep.tr (Keep.dr (Keep.rf _)) hW; clear hW hE)
      go_wp2_with fail
      refine bodyPost_ret (results_tmp3 rfl _ _ _) rfl ?_
      exact ⟨Keep.tr k1 k3, A4, c4, by rw [HR.out, HDL.out]; rfl, by rw [HR.out, HDL.out]; exact o4⟩
    · obtain ⟨e1, e2, e3⟩ := nX_no (l := l) (by simp [okN, hv])
      rw [e1, e2, e3]
      rw [hg] at HG
      clear hg e1 e2 e3
      generalize numV l = v at *
      have hge : decide ((v : Int) ≥ 2147483648) = true := decide_eq_true (by omega)
      go_enter Try.func116, Try.ntmps116
      go_wp2_with fail
      refine HG.out.mono ?_
      rintro e w1 ⟨rfl, k1⟩
      go_wp2_with fail
      refine bodyPost_ret (results_tmp3 rfl _ _ _) rfl ?_
      exact ⟨k1, none, 0, rfl, Bs.nil0 _⟩
  · have hg' : (Em.getN l).isSome = false := by simpa using hg
    obtain ⟨e1, e2, e3⟩ := nX_no (l := l) (by simp [okN, hg'])
    rw [e1, e2, e3]
    rw [hg'] at HG
    clear hg hg' e1 e2 e3
    generalize numV l = v at *
    go_enter Try.func116, Try.ntmps116
    go_wp2_with fail
    refine HG.out.mono ?_
    rintro e w1 ⟨rfl, k1⟩
    go_wp2_with fail
    refine bodyPost_ret (results_tmp3 rfl _ _ _) rfl ?_
    exact ⟨k1, none, 0, rfl, Bs.nil0 _⟩
end Go.Proofs.Ytcbkklfdeloeeaa
