/- Walks: pick: the types of a type's fields, numbers. -/
import Derived.Test.YtoehaijmkmdggaaTPkR
import Derived.Test.YtoehaijmkmdggaaTRdN
import Derived.Test.YtoehaijmkmdggaaTVarZ
set_option linter.unusedSimpArgs false
set_option linter.unusedVariables false
namespace Go.Proofs.Ytoehaijmkmdggaa
open Go.RowKit
open Em (Ty)
set_option linter.unusedVariables false
set_option linter.unusedSimpArgs false
set_option maxRecDepth 100000
section
variable {I : Nat → Prop} {w : World} {d : Nat} {cs : List Value} {t : Ty}
set_option maxHeartbeats 8000000 in
theorem pickShape (ht : TyI I d w cs t) (hok : Em.okS t = true) (hpl : ¬ Em.isPl t.op) : Calls Try.prog 104 #[.agg cs.toArray] w (ShpA I w t) := by
  cases d with
  | zero => exact ht.elim
  | succ d =>
    have ht0 := hide ht
    obtain ⟨v, rfl, hn, hs, hin⟩ := ht
    have hO := opB t.op
    have ho := Em.okS_op hok
    obtain ⟨o, n, ks⟩ := t
    simp only [Em.Ty.op, Em.Ty.n, Em.Ty.kids] at *
    obtain ⟨A, c, rfl, l1, l2, hr⟩ := id hs
    have HS := hide hs
    have HIN := hide hin
    have hnb := in_i64 hn
    clear hs hin
    rcases ho with rfl | rfl | rfl | rfl | rfl | ⟨rfl, hl⟩ | ⟨rfl, hl⟩ | ⟨rfl, hl⟩
    · exact absurd (.inl rfl) hpl
    · exact absurd (.inr (.inl rfl)) hpl
    · exact absurd (.inr (.inr rfl)) hpl
    · -- string
      have HK := hide (show Em.kidsT (.mk Em.wString n ks) = [] from rfl)
      clear hpl hok hr
      unfold Em.wString at *
      go_enter Try.func104, Try.ntmps104
      go_wp2_with fail
      go_ret2
      exact ⟨_, 1, rfl, by rw [HK.out]; exact Sl.nil _, fun ad n c e hn => (by cases e), (by repeat (first | exact Keep.rf _ | assumption | apply Keep.al | apply Keep.dr | apply Keep.dn))⟩
    · -- cell
      have HK := hide (show Em.kidsT (.mk Em.wCell n ks) = [.mk Em.wInt 0 [], .mk Em.wList 0 [.mk Em.wCell 0 []]] from rfl)
      clear hpl hok hr
      unfold Em.wCell at *
      go_enter Try.func104, Try.ntmps104
      go_wp2_with fail
      go_ret2
      have h2 := new2 w (.cells #[.string (str [99, 101, 108, 108]), .int .i64 n, .slice A ks.length c] 25) (.cells #[.string (str [99, 101, 108, 108]), .int .i64 0, .slice none 0 0] 25) (.cells #[.string (str [105, 110, 116]), .int .i64 0, .slice none 0 0, .string (str [108, 105, 115, 116]), .int .i64 0, .slice (some ⟨w.heap.size + 1, 0, none⟩) 1 1] 25)
      have h3 := new3 w (.cells #[.string (str [99, 101, 108, 108]), .int .i64 n, .slice A ks.length c] 25) (.cells #[.string (str [99, 101, 108, 108]), .int .i64 0, .slice none 0 0] 25) (.cells #[.string (str [105, 110, 116]), .int .i64 0, .slice none 0 0, .string (str [108, 105, 115, 116]), .int .i64 0, .slice (some ⟨w.heap.size + 1, 0, none⟩) 1 1] 25)
      refine ⟨_, 3, rfl, ?_, fun ad n c e hn => ?_, (by repeat (first | exact Keep.rf _ | assumption | apply Keep.al | apply Keep.dr | apply Keep.dn))⟩
      · rw [HK.out]
        refine sl_two3 h3 (TyI.le (e := 3) (TyI.leaf _) (by decide)) ⟨_, rfl, (by decide : (Lit.int .i64 0).wf = true), sl_one3 h2 (TyI.le (e := 2) (TyI.leaf _) (by decide)), fun ad n c e hn => ?_⟩
        cases e
        exact .inr ⟨by simp, by simp⟩
      · cases e
        refine .inr ⟨?_, ?_⟩
        · show w.heap.size ≤ w.heap.size + 1 + 1
          omega
        · show w.heap.size + 1 + 1 < _
          simp only [size_alloc]
          omega
    · -- list
      obtain ⟨ad, rfl, hcell⟩ := hr (by omega)
      obtain ⟨ks0, hk1, hk2, hk3⟩ := hcell 0 (by omega)
      have hhd : ks.headD (.mk [] 0 []) = ks[0] := by
        cases ks with
        | nil => simp at hl
        | cons a u => rfl
      have HK := hide (show Em.kidsT (.mk Em.wList n ks) = [ks[0], .mk Em.wList n ks] from by rw [← hhd]; rfl)
      generalize ks[0] = k0 at *
      have hk4 := hide hk3
      cases d with
      | zero => exact hk3.elim
      | succ d =>
        obtain ⟨kv, rfl, kn, kS, kI⟩ := hk3
        obtain ⟨kA, kc, rfl, _⟩ := id kS
        have kx1 : Keep w (w.alloc (.cells #[.string (str Em.wList), .int .i64 n, .slice (some ad) ks.length c] 25)) := (by repeat (first | exact Keep.rf _ | assumption | apply Keep.al | apply Keep.dr | apply Keep.dn))
        have c0 := Keep.cell kx1 (hk2 0 _ rfl)
        have c1 := cell_off (Keep.cell kx1 (hk2 1 _ rfl))
        have c2 := cell_off (Keep.cell kx1 (hk2 2 _ rfl))
        have hadd : ad.add 0 = ad := by simp [Addr.add]
        simp only [Nat.zero_mul, Nat.add_zero, hadd] at c0 c1 c2
        have hB := heap_alloc_new w (.cells #[.string (str Em.wList), .int .i64 n, .slice (some ad) ks.length c] 25)
        have b0 := top_cells hB 0
        have b1 := top_cells hB 1
        have b2 := top_cells hB 2
        simp only [List.getElem?_toArray, List.getElem?_cons_succ, List.getElem?_cons_zero] at b0 b1 b2
        have hlp : (0 : Int) < (ks.length : Int) := by omega
        have hlp2 : 0 < ks.length := by omega
        have HFIN := hide (show ∀ W g, Keep w W → w.heap.size ≤ g → W.heap[g]? = some (.cells #[.string (str k0.op), .int .i64 k0.n, .slice kA k0.kids.length kc, .string (str Em.wList), .int .i64 n, .slice (some ad) ks.length c] 25) → ShpA I w (.mk Em.wList n ks) (.returned (.tuple #[.int .i64 2, .slice (some ⟨g, 0, none⟩) 2 2])) W from fun W g k hg hh => by
          have hgl := (Array.getElem?_eq_some_iff.1 hh).1
          refine ⟨_, d + 2, rfl, ?_, fun ad n c e hn => ?_, k⟩
          · rw [HK.out]
            exact sl_two3 hh (((hk4.out.keep k).mono fun k hk => .inl hk).le (by omega)) ((ht0.out.keep k).mono fun k hk => .inl hk)
          · cases e
            exact .inr ⟨hg, hgl⟩)
        clear hpl hok hr hcell hk1 hk2 hhd hl hB kS kI
        unfold Em.wList at *
        go_enter Try.func104, Try.ntmps104
        go_wp2_with fail
        have hJ := And.intro b0 (And.intro b1 (And.intro b2 (And.intro c0 (And.intro c1 c2))))
        generalize hw1 : World.alloc w _ = w1 at *
        have hs1 : w.heap.size ≤ w1.heap.size := by rw [← hw1]; simp
        clear hw1
        have HSK := hide (fun (W : World) (k : Keep w1 W) => And.intro (Keep.cell k b0) (And.intro (Keep.cell k b1) (And.intro (Keep.cell k b2) (And.intro (Keep.cell k c0) (And.intro (Keep.cell k c1) (Keep.cell k c2))))))
        clear hJ b0 b1 b2 c0 c1 c2
        go_region_held3 (fun W => W.cell? ⟨w.heap.size, 0, none⟩ = some (.string (str [108, 105, 115, 116])) ∧ W.cell? ⟨w.heap.size, 1, none⟩ = some (.int .i64 n) ∧ W.cell? ⟨w.heap.size, 2, none⟩ = some (.slice (some ad) ks.length c) ∧ W.cell? ad = some (.string (str k0.op)) ∧ W.cell? ⟨ad.block, ad.off + 1, none⟩ = some (.int .i64 k0.n) ∧ W.cell? ⟨ad.block, ad.off + 2, none⟩ = some (.slice kA k0.kids.length kc)) (first | exact HSK.out _ (by repeat (first | exact Keep.rf _ | assumption | apply Keep.al | apply Keep.dr | apply Keep.dn))) (first | fail)
        all_goals
          go_wp2_with fail
          go_ret2
          refine HFIN.out _ w1.heap.size (Keep.tr kx1 (by repeat (first | exact Keep.rf _ | assumption | apply Keep.al | apply Keep.dr | apply Keep.dn))) hs1 ?_
          first
            | exact heap_alloc_new w1.drew _
            | exact heap_alloc_new _ _
    · -- ref
      have HK := hide (show Em.kidsT (.mk Em.wRef n ks) = ks from rfl)
      have HFIN := hide (show ∀ W, Keep w W → ShpA I w (.mk Em.wRef n ks) (.returned (.tuple #[.int .i64 4, .slice A ks.length c])) W from fun W k => ⟨_, d, rfl, by rw [HK.out]; exact (HS.out.keep k fun _ _ h => h.keep k).mono fun _ _ h => h.mono fun k hk => .inl hk, fun ad n c e hn => .inl (HIN.out ad n c e hn), k⟩)
      clear hl
      have hB := heap_alloc_new w (.cells #[.string (str Em.wRef), .int .i64 n, .slice A ks.length c] 25)
      have b2 := top_cells hB 2
      simp only [List.getElem?_toArray, List.getElem?_cons_succ, List.getElem?_cons_zero] at b2
      clear hpl hok hr hB
      unfold Em.wRef at *
      go_enter Try.func104, Try.ntmps104
      go_wp2_with fail
      go_quiet (fail)
      go_wp2_with fail
      go_ret2
      exact HFIN.out _ (by repeat (first | exact Keep.rf _ | assumption | apply Keep.al | apply Keep.dr | apply Keep.dn))
    · -- pair
      have HK := hide (show Em.kidsT (.mk Em.wPair n ks) = ks from rfl)
      have HFIN := hide (show ∀ W, Keep w W → ShpA I w (.mk Em.wPair n ks) (.returned (.tuple #[.int .i64 3, .slice A ks.length c])) W from fun W k => ⟨_, d, rfl, by rw [HK.out]; exact (HS.out.keep k fun _ _ h => h.keep k).mono fun _ _ h => h.mono fun k hk => .inl hk, fun ad n c e hn => .inl (HIN.out ad n c e hn), k⟩)
      clear hl
      have hB := heap_alloc_new w (.cells #[.string (str Em.wPair), .int .i64 n, .slice A ks.length c] 25)
      have b2 := top_cells hB 2
      simp only [List.getElem?_toArray, List.getElem?_cons_succ, List.getElem?_cons_zero] at b2
      clear hpl hok hr hB
      unfold Em.wPair at *
      go_enter Try.func104, Try.ntmps104
      go_wp2_with fail
      go_quiet (fail)
      go_wp2_with fail
      go_ret2
      exact HFIN.out _ (by repeat (first | exact Keep.rf _ | assumption | apply Keep.al | apply Keep.dr | apply Keep.dn))
end
/-- Something was picked. -/
def PutA (tt B : Nat) (Z : Nat → Prop) (w0 w : World) (p mb : Nat) (hv ov : Value) (tys : List (Ty × List Value)) (s : Em.Pk) (w' : World) : Prop := ∃ ov', PkM tt B Z w0 w' p mb hv ov' tys s ∧ PWent Z Z w w' p mb ov ov'
section
variable {B : Nat} {Z : Nat → Prop} {w0 w : World} {p mb : Nat} {hv ov : Value} {tys : List (Ty × List Value)} {s : Em.Pk}
set_option maxHeartbeats 4000000 in
theorem pkPuts (h : PkM 88 B Z w0 w p mb hv ov tys s) (n : Nat) (hn : n < 18446744073709551616) (hl : s.b.length ≤ 500000000) : Calls Try.prog 76 #[.pointer (some ⟨p, 0, none⟩), .int .u64 (n : Int)] w fun e w' => e = .returned (.tuple #[]) ∧ PutA 88 B Z w0 w p mb hv ov tys (s.put n) w' := by
  have HH := hide h
  have hpl := Em.putN_len10 hn
  have HV := hide (fun W => varPut n hn W)
  obtain ⟨A0, c0, rfl⟩ := h.own.slice
  have c1 := top_cells h.top 1
  simp only [List.getElem?_toArray, List.getElem?_cons_succ, List.getElem?_cons_zero] at c1
  have HBW := hide (show B ≤ w.heap.size from by have := (h.ltO p (.inl rfl)); omega)
  clear h hn
  go_enter Try.func76, Try.ntmps76
  go_wp2_with fail
  apply region_last 10 _ (by kernel_rfl) Keep AnyW krg ktg anyrf anytr anyk [some 4, some 5, some 6, some 7, some 8, some 9, some 10, some 11, some 12, some 13, none] [eqG _ , eqG _ , eqG _ , eqG _ , eqG _ , eqG _ , fun us W v => ∃ A c, v = .slice A (Em.putN n).length c ∧ Bs W (.slice A (Em.putN n).length c) (Em.putN n), fun us W v => BGrow w B (.slice A0 s.b.length c0) (s.b ++ Em.putN n) W v, eqG _ , eqG _ , fun _ _ _ => True] [⟨[], [], false, false, false⟩, ⟨[], [], true, false, false⟩, ⟨[1], [], true, false, false⟩, ⟨[2], [], true, false, false⟩, ⟨[3], [], true, false, false⟩, ⟨[], [], true, false, false⟩, ⟨[5], [], true, false, true⟩, ⟨[4, 6], [], true, true, true⟩, ⟨[0], [], false, false, false⟩, ⟨[8], [], false, false, false⟩, ⟨[7, 9], [], false, false, false⟩] [7, 9] (by kernel_rfl) (by kernel_rfl) (by kernel_rfl) rfl (by kernel_rfl)
  · refine ⟨?_, ?_, ?_, ?_, ?_, ?_, ?_, ?_, ?_, ?_, trivial⟩ <;> (intro us W h9 hW hE hd hs K hK; obtain ⟨u0, u1, u2, u3, u4, u5, u6, u7, u8, u9, u10, rfl⟩ := rog 11 h9 rfl; clear h9; try simp only [DepG, AtG, and_true, relG, eqG, eqG1, eqG2, eqG3, gdG, gdG1, gnG, gnG1, List.getD_cons_zero, List.getD_cons_succ, List.getElem?_cons_succ, List.getElem?_cons_zero, Option.map_some, Option.getD_some, valsG, List.map_cons, List.map_nil, List.length_cons, List.length_nil] at hd)
    · ((try clear hd); clear hs; simp only [fillG, List.set_cons_zero, List.set_cons_succ]; refine want_n rfl ?_; go_wp2_with (first | fail); simp only [DoneG, fillG, List.set_cons_zero, List.set_cons_succ, relG, eqG, eqG1, eqG2, eqG3, gdG, gdG1, gnG, gnG1, List.getD_cons_zero, List.getD_cons_succ, List.getElem?_cons_succ, List.getElem?_cons_zero, Option.map_some, Option.getD_some, valsG, List.map_cons, List.map_nil, List.length_cons, List.length_nil]; exact ⟨_, rfl, (by first | with_reducible assumption | exact krg _ | exact Keep.al (krg _) _), fun _ _ => rfl⟩)
    · ((try clear hd); clear hs; simp only [fillG, List.set_cons_zero, List.set_cons_succ]; refine want_n rfl ?_; go_wp2_with (first | fail); simp only [DoneG, fillG, List.set_cons_zero, List.set_cons_succ, relG, eqG, eqG1, eqG2, eqG3, gdG, gdG1, gnG, gnG1, List.getD_cons_zero, List.getD_cons_succ, List.getElem?_cons_succ, List.getElem?_cons_zero, Option.map_some, Option.getD_some, valsG, List.map_cons, List.map_nil, List.length_cons, List.length_nil]; exact ⟨_, rfl, (by first | with_reducible assumption | exact krg _ | exact Keep.al (krg _) _), fun _ _ => rfl⟩)
    · (have d1 := hd; clear hd; subst d1; clear hs; simp only [fillG, List.set_cons_zero, List.set_cons_succ]; refine want_n rfl ?_; go_wp2_with (first | fail); simp only [DoneG, fillG, List.set_cons_zero, List.set_cons_succ, relG, eqG, eqG1, eqG2, eqG3, gdG, gdG1, gnG, gnG1, List.getD_cons_zero, List.getD_cons_succ, List.getElem?_cons_succ, List.getElem?_cons_zero, Option.map_some, Option.getD_some, valsG, List.map_cons, List.map_nil, List.length_cons, List.length_nil]; exact ⟨_, rfl, (by first | with_reducible assumption | exact krg _ | exact Keep.al (krg _) _), fun _ _ => rfl⟩)
    · (have d2 := hd; clear hd; subst d2; clear hs; simp only [fillG, List.set_cons_zero, List.set_cons_succ]; refine want_n rfl ?_; go_wp2_with (first | fail); simp only [DoneG, fillG, List.set_cons_zero, List.set_cons_succ, relG, eqG, eqG1, eqG2, eqG3, gdG, gdG1, gnG, gnG1, List.getD_cons_zero, List.getD_cons_succ, List.getElem?_cons_succ, List.getElem?_cons_zero, Option.map_some, Option.getD_some, valsG, List.map_cons, List.map_nil, List.length_cons, List.length_nil]; exact ⟨_, rfl, (by first | with_reducible assumption | exact krg _ | exact Keep.al (krg _) _), fun _ _ => rfl⟩)
    · (have d3 := hd; clear hd; subst d3; clear hs; simp only [fillG, List.set_cons_zero, List.set_cons_succ]; have hKW := Keep.tr (Keep.dr (Keep.rf _)) (hE rfl); have c1 := Keep.cell hKW c1; refine want_n rfl ?_; go_wp2_with (first | fail); simp only [DoneG, fillG, List.set_cons_zero, List.set_cons_succ, relG, eqG, eqG1, eqG2, eqG3, gdG, gdG1, gnG, gnG1, List.getD_cons_zero, List.getD_cons_succ, List.getElem?_cons_succ, List.getElem?_cons_zero, Option.map_some, Option.getD_some, valsG, List.map_cons, List.map_nil, List.length_cons, List.length_nil]; exact ⟨_, rfl, (by first | with_reducible assumption | exact krg _ | exact Keep.al (krg _) _), fun _ _ => rfl⟩)
    · ((try clear hd); clear hs; simp only [fillG, List.set_cons_zero, List.set_cons_succ]; refine want_n rfl ?_; go_wp2_with (first | fail); simp only [DoneG, fillG, List.set_cons_zero, List.set_cons_succ, relG, eqG, eqG1, eqG2, eqG3, gdG, gdG1, gnG, gnG1, List.getD_cons_zero, List.getD_cons_succ, List.getElem?_cons_succ, List.getElem?_cons_zero, Option.map_some, Option.getD_some, valsG, List.map_cons, List.map_nil, List.length_cons, List.length_nil]; exact ⟨_, rfl, (by first | with_reducible assumption | exact krg _ | exact Keep.al (krg _) _), fun _ _ => rfl⟩)
    · (have d5 := hd; clear hd; subst d5; clear hs; simp only [fillG, List.set_cons_zero, List.set_cons_succ]; have hKW := Keep.tr (Keep.dr (Keep.rf _)) (hE rfl); have c1 := Keep.cell hKW c1; refine want_n rfl ?_; go_wp2_with (first | (go_at_call 102; refine (HV.out _).mono ?_; rintro e w' ⟨v6, rfl, ho6, kT⟩; obtain ⟨A6, c6, rfl⟩ := ho6.slice) | fail); simp only [DoneG, fillG, List.set_cons_zero, List.set_cons_succ, relG, eqG, eqG1, eqG2, eqG3, gdG, gdG1, gnG, gnG1, List.getD_cons_zero, List.getD_cons_succ, List.getElem?_cons_succ, List.getElem?_cons_zero, Option.map_some, Option.getD_some, valsG, List.map_cons, List.map_nil, List.length_cons, List.length_nil]; exact ⟨_, rfl, (by first | with_reducible assumption | exact krg _ | exact Keep.al (krg _) _), fun W9 hk9 => ⟨A6, c6, rfl, (ho6.keep hk9).bs⟩⟩)
    · (obtain ⟨d4, d6⟩ := hd; subst d4; obtain ⟨A6, c6, rfl, o6⟩ := d6; clear hs; simp only [fillG, List.set_cons_zero, List.set_cons_succ]; have hKW := Keep.tr (Keep.dr (Keep.rf _)) (hE rfl); have c1 := Keep.cell hKW c1; refine want_n rfl ?_; refine wp_app (.tmp 8) (.tmp 10) 22 rfl B 5 _ 1 1 Try.underlying22 infoU8 rfl (by omega) _ s.b.length (s.b.map Go.Proofs.Ytoehaijmkmdggaa.bv) rfl (own_keep HH.out.own hKW) _ (Em.putN n).length ((Em.putN n).map Go.Proofs.Ytoehaijmkmdggaa.bv) rfl o6.src (fun u hu => bv_one u _ hu) (by simp only [maxLen]; omega) (by omega) (Nat.le_trans HBW.out (Below.size hKW)) ?_; intro v9 w9 ha9; refine hK _ _ ?_; simp only [DoneG, fillG, List.set_cons_zero, List.set_cons_succ, relG, eqG, eqG1, eqG2, eqG3, gdG, gdG1, gnG, gnG1, List.getD_cons_zero, List.getD_cons_succ, List.getElem?_cons_succ, List.getElem?_cons_zero, Option.map_some, Option.getD_some, valsG, List.map_cons, List.map_nil, List.length_cons, List.length_nil]; exact ⟨_, rfl, (by first | with_reducible assumption | exact trivial), fun W9 hk9 => BGrow.keep ⟨_, hKW, ha9.2.1, ha9.2.2, App.ob ha9 rfl⟩ hk9⟩)
    · (have d0 := hd; clear hd; subst d0; clear hs; simp only [fillG, List.set_cons_zero, List.set_cons_succ]; refine want_n rfl ?_; go_wp2_with (first | fail); simp only [DoneG, fillG, List.set_cons_zero, List.set_cons_succ, relG, eqG, eqG1, eqG2, eqG3, gdG, gdG1, gnG, gnG1, List.getD_cons_zero, List.getD_cons_succ, List.getElem?_cons_succ, List.getElem?_cons_zero, Option.map_some, Option.getD_some, valsG, List.map_cons, List.map_nil, List.length_cons, List.length_nil]; exact ⟨_, rfl, (by first | with_reducible assumption | exact krg _ | exact Keep.al (krg _) _), fun _ _ => rfl⟩)
    · (have d8 := hd; clear hd; subst d8; clear hs; simp only [fillG, List.set_cons_zero, List.set_cons_succ]; refine want_n rfl ?_; go_wp2_with (first | fail); simp only [DoneG, fillG, List.set_cons_zero, List.set_cons_succ, relG, eqG, eqG1, eqG2, eqG3, gdG, gdG1, gnG, gnG1, List.getD_cons_zero, List.getD_cons_succ, List.getElem?_cons_succ, List.getElem?_cons_zero, Option.map_some, Option.getD_some, valsG, List.map_cons, List.map_nil, List.length_cons, List.length_nil]; exact ⟨_, rfl, (by first | with_reducible assumption | exact krg _ | exact Keep.al (krg _) _), fun _ _ => rfl⟩)
  (intro us W5 h9 hW hE hA hl9; obtain ⟨u0, u1, u2, u3, u4, u5, u6, u7, u8, u9, u10, rfl⟩ := rog 11 h9 rfl; clear h9; clear hl9; simp only [AllG, AtG, and_true, relG, eqG, eqG1, eqG2, eqG3, gdG, gdG1, gnG, gnG1, List.getD_cons_zero, List.getD_cons_succ, List.getElem?_cons_succ, List.getElem?_cons_zero, Option.map_some, Option.getD_some, valsG, List.map_cons, List.map_nil, List.length_cons, List.length_nil] at hA; obtain ⟨d7, d9⟩ := hA; subst d9; simp only [fillG, List.set_cons_zero, List.set_cons_succ]; refine want_n rfl ?_)
  have htop := HH.out.topG d7
  have tpc := top_cells htop 1
  have tpf := top_free htop 1
  simp only [List.getElem?_toArray, List.getElem?_cons_succ, List.getElem?_cons_zero] at tpc
  obtain ⟨h9, w9⟩ := HH.out.grew d7
  obtain ⟨A9, n9, c9, e9⟩ : ∃ A n c, u7 = Value.slice A n c := by obtain ⟨A, c, e⟩ := h9.own.slice; exact ⟨_, _, _, e⟩
  subst e9
  have H9 := hide h9
  have W9' := hide w9
  clear h9 w9 d7 htop hW hE
  go_wp2_with fail
  (try simp only [Exit.inBlock, Exit.then]); refine bodyPost_end (results_none rfl _ _ _) rfl ?_
  exact ⟨rfl, _, H9.out, W9'.out⟩
/-- What a value comes to. -/
def ValKA (tt B : Nat) (Z : Nat → Prop) (w0 w : World) (p mb : Nat) (hv ov : Value) (o : Em.PkO) (e : Ending) (w' : World) : Prop := match o with
  | .ok s' => e = .returned (.int .i64 0) ∧ ∃ Z' ov' tys', PkM tt B Z' w0 w' p mb hv ov' tys' s' ∧ PWent Z Z' w w' p mb ov ov'
  | .err c => e = .returned (.int .i64 c) ∧ (c = 1 ∨ c = 7) ∧ Keep w0 w'
theorem numK_no {many n : Int} (h : ¬ n % 2 = 1 ∨ (0 ≤ many ∧ (n / 2 < 0 ∨ many ≤ n / 2))) (s : Em.Pk) : Em.numK many n s = .err 1 := if_pos h
theorem half_in {n : Int} (hn : (Lit.int .i64 n).wf = true) : -9223372036854775808 ≤ n / 2 ∧ n / 2 ≤ 9223372036854775807 := by
  have := in_i64 hn
  omega
set_option maxHeartbeats 8000000 in
theorem pkNumber (h : PkM 88 B Z w0 w p mb hv ov tys s) (n : Int) (hn : (Lit.int .i64 n).wf = true) (many : Int) (hm : many = -1 ∨ many = 2 ∨ many = 1) (hl : s.b.length ≤ 500000000) : Calls Try.prog 75 #[.pointer (some ⟨p, 0, none⟩), .int .i64 n, .int .i64 many] w (ValKA 88 B Z w0 w p mb hv ov (Em.numK many n s)) := by
  have HH := hide h
  have hh := half_in hn
  have K0 := hide h.k0
  by_cases ho : n % 2 = 1
  · have hob : (n % 2 == 1) = true := by simpa using ho
    have HO := hide ho
    rcases hm with rfl | rfl | rfl
    · have HX := hide (show Em.numK (-1) n s = .ok (s.put (Em.zig (n / 2))) from by
        unfold Em.numK
        rw [if_neg (by intro h; rcases h with h | h; exact h ho; omega), if_pos rfl])
      have hz := Em.zig_lt hh.1 hh.2
      have HZ := varZig (n / 2) hh.1 hh.2 w
      have HP := hide (pkPuts h (Em.zig (n / 2)) hz hl)
      clear h ho
      go_enter Try.func75, Try.ntmps75
      go_wp2_with fail
      refine (heapNum n w).mono ?_
      rintro e w' ⟨rfl, rfl⟩
      go_wp2_with fail
      refine (heapIsInt n w).mono ?_
      rintro e w' ⟨rfl, rfl⟩
      rw [hob]
      go_wp2_with fail
      refine HZ.mono ?_
      rintro e w' ⟨rfl, rfl⟩
      go_wp2_with fail
      refine HP.out.mono ?_
      rintro e w' ⟨rfl, ov', h1, h2⟩
      have H1 := hide h1
      have H2 := hide h2
      clear h1 h2
      go_wp2_with fail
      go_ret
      rw [HX.out]
      exact ⟨rfl, Z, ov', tys, H1.out, H2.out⟩
    · by_cases hr : n / 2 < 0 ∨ 2 ≤ n / 2
      · have HX := hide (numK_no (s := s) (.inr ⟨by omega, hr⟩ : ¬ n % 2 = 1 ∨ ((0 : Int) ≤ 2 ∧ (n / 2 < 0 ∨ 2 ≤ n / 2))))
        clear h ho
        go_enter Try.func75, Try.ntmps75
        go_wp2_with fail
        refine (heapNum n w).mono ?_
        rintro e w' ⟨rfl, rfl⟩
        go_wp2_with fail
        refine (heapIsInt n w).mono ?_
        rintro e w' ⟨rfl, rfl⟩
        rw [hob]
        generalize n / 2 = m at *
        rcases hr with hr | hr
        · go_wp2_with fail
          go_ret
          rw [HX.out]
          exact ⟨rfl, .inl rfl, K0.out⟩
        · have hr0 : ¬ m < 0 := by omega
          have hr1 : m ≥ 2 := hr
          go_wp2_with fail
          go_ret
          rw [HX.out]
          exact ⟨rfl, .inl rfl, K0.out⟩
      · have hr0 : ¬ n / 2 < 0 := by omega
        have hr1 : ¬ n / 2 ≥ 2 := by omega
        have HX := hide (show Em.numK 2 n s = .ok (s.put (n / 2).toNat) from by
          unfold Em.numK
          rw [if_neg (by intro h; rcases h with h | h; exact h ho; omega), if_neg (by decide), if_pos rfl])
        have HP := hide (pkPuts h (n / 2).toNat (by omega) hl)
        have hq : ((n / 2).toNat : Int) = n / 2 := by omega
        rw [hq] at HP
        clear h ho hq
        go_enter Try.func75, Try.ntmps75
        go_wp2_with fail
        refine (heapNum n w).mono ?_
        rintro e w' ⟨rfl, rfl⟩
        go_wp2_with fail
        refine (heapIsInt n w).mono ?_
        rintro e w' ⟨rfl, rfl⟩
        rw [hob]
        generalize n / 2 = m at *
        go_wp2_with fail
        refine HP.out.mono ?_
        rintro e w' ⟨rfl, ov', h1, h2⟩
        have H1 := hide h1
        have H2 := hide h2
        clear h1 h2
        go_wp2_with fail
        go_ret
        rw [HX.out]
        exact ⟨rfl, Z, ov', tys, H1.out, H2.out⟩
    · by_cases hr : n / 2 < 0 ∨ 1 ≤ n / 2
      · have HX := hide (numK_no (s := s) (.inr ⟨by omega, hr⟩ : ¬ n % 2 = 1 ∨ ((0 : Int) ≤ 1 ∧ (n / 2 < 0 ∨ 1 ≤ n / 2))))
        clear h ho
        go_enter Try.func75, Try.ntmps75
        go_wp2_with fail
        refine (heapNum n w).mono ?_
        rintro e w' ⟨rfl, rfl⟩
        go_wp2_with fail
        refine (heapIsInt n w).mono ?_
        rintro e w' ⟨rfl, rfl⟩
        rw [hob]
        generalize n / 2 = m at *
        rcases hr with hr | hr
        · go_wp2_with fail
          go_ret
          rw [HX.out]
          exact ⟨rfl, .inl rfl, K0.out⟩
        · have hr0 : ¬ m < 0 := by omega
          have hr1 : m ≥ 1 := hr
          go_wp2_with fail
          go_ret
          rw [HX.out]
          exact ⟨rfl, .inl rfl, K0.out⟩
      · have hr0 : ¬ n / 2 < 0 := by omega
        have hr1 : ¬ n / 2 ≥ 1 := by omega
        have HX := hide (show Em.numK 1 n s = .ok s from by
          unfold Em.numK
          rw [if_neg (by intro h; rcases h with h | h; exact h ho; omega), if_neg (by decide), if_neg (by decide)])
        clear h ho
        go_enter Try.func75, Try.ntmps75
        go_wp2_with fail
        refine (heapNum n w).mono ?_
        rintro e w' ⟨rfl, rfl⟩
        go_wp2_with fail
        refine (heapIsInt n w).mono ?_
        rintro e w' ⟨rfl, rfl⟩
        rw [hob]
        generalize n / 2 = m at *
        go_wp2_with fail
        go_ret
        rw [HX.out]
        exact ⟨rfl, Z, ov, tys, HH.out, PWent.rf⟩
  · have hob : (n % 2 == 1) = false := by simpa using ho
    have HX := hide (fun many => numK_no (many := many) (s := s) (.inl ho : ¬ n % 2 = 1 ∨ (0 ≤ many ∧ (n / 2 < 0 ∨ many ≤ n / 2))))
    clear h ho
    go_enter Try.func75, Try.ntmps75
    go_wp2_with fail
    refine (heapNum n w).mono ?_
    rintro e w' ⟨rfl, rfl⟩
    go_wp2_with fail
    refine (heapIsInt n w).mono ?_
    rintro e w' ⟨rfl, rfl⟩
    rw [hob]
    go_wp2_with fail
    go_ret
    rw [HX.out]
    exact ⟨rfl, .inl rfl, K0.out⟩
end
end Go.Proofs.Ytoehaijmkmdggaa
