/- Walks: Spoil (package net). -/
import Derived.Test.YtjhndioapcneoaaNetQ
import Derived.Laws.BitsAllLaws
namespace Go.Proofs.Ytjhndioapcneoaa
open Go.RowKit
set_option linter.unusedVariables false
set_option linter.unusedSimpArgs false
set_option maxRecDepth 100000
theorem flat_set : ∀ (ms : List (Value × Bool)) (k : Nat) (u : Value) (f : Bool), ms[k]? = some (u, f) → (ms.map encM).flatten.set (k * 2 + 1) (.bool true) = ((ms.set k (u, true)).map encM).flatten
  | [], k, u, f, h => by simp at h
  | m :: ms, 0, u, f, h => by
    simp at h
    subst h
    simp [encM]
  | m :: ms, k + 1, u, f, h => by
    have ih := flat_set ms k u f (by simpa using h)
    rw [List.set_cons_succ, List.map_cons, List.map_cons, List.flatten_cons, List.flatten_cons, ← ih, List.set_append_right _ _ (by simp [encM]; omega)]
    simp only [encM, List.length_cons, List.length_nil]
    rw [show (k + 1) * 2 + 1 - (0 + 1 + 1) = k * 2 + 1 by omega]
theorem NRaw.spoil {tn te tb : TypeId} {w : World} {p : Nat} {vs : Nat → Value} {ms : Nat → List (Value × Bool)} {R : Em.Nt} (h : NRaw tn te tb w p vs ms R) {S : Nat → Prop} (hS : ∀ x k, atP p vs ms x = some k → S k) (hl : ∀ k, S k → k < w.heap.size) {j k g c gb cb : Nat} {f : Bool} {l : List UInt8} (hv : vs j = .slice (some ⟨g, 0, none⟩) (ms j).length c)
    (hx : (ms j)[k]? = some (.slice (some ⟨gb, 0, none⟩) l.length cb, f)) (ho : w.ownsRow 0 tb 1 (.slice (some ⟨gb, 0, none⟩) l.length cb) l.length (l.map bv)) (q : Nat) (b : UInt8) :
    After tn te tb w p S (up R j ((R j).set k (l.set q b, true))) ((w.setCell ⟨gb, q, none⟩ (bv b)).setCell ⟨g, k * 2 + 1, none⟩ (.bool true)) := by
  have hgb : atP p vs ms (.msg j k) = some gb := by
    show blk _ = _
    rw [hx]
    rfl
  have hg : atP p vs ms (.row j) = some g := by
    show (vs j).ownBlock = _
    rw [hv]
    rfl
  have hne : gb ≠ g := fun e => by
    subst e
    have := h.inj _ _ gb hgb hg
    cases this
  have hF : Frm (fun k => k = gb ∨ k = g) w ((w.setCell ⟨gb, q, none⟩ (bv b)).setCell ⟨g, k * 2 + 1, none⟩ (.bool true)) :=
    Frm.st (p := ⟨g, k * 2 + 1, none⟩) (Frm.st (p := ⟨gb, q, none⟩) (Frm.rf _ w) (.inl (.inl rfl)) _) (.inl (.inr rfl)) _
  have r1 := h.row j
  have r2 : (w.setCell ⟨gb, q, none⟩ (bv b)).ownsRow 0 te 2 (vs j) (ms j).length ((ms j).map encM).flatten := set_own r1 fun i hi e => by
    rw [hv] at hi
    injection hi with hi
    exact hne (by rw [← e, ← hi])
  rw [hv] at r2
  have r3 := (World.ownsRow.stored r2 (k * 2 + 1) (.bool true)).1
  rw [flat_set _ _ _ _ hx] at r3
  have b1 : Ob (w.setCell ⟨gb, q, none⟩ (bv b)) 0 tb (.slice (some ⟨gb, 0, none⟩) l.length cb) (l.set q b) := Ob.set ho rfl q b
  have b2 := set_own (j := k * 2 + 1) (u := .bool true) (g := g) (show (w.setCell ⟨gb, q, none⟩ (bv b)).ownsRow 0 tb 1 (.slice (some ⟨gb, 0, none⟩) l.length cb) (l.set q b).length ((l.set q b).map bv) from b1) fun i hi e => by
    have hi : some gb = some i := hi
    injection hi with hi
    exact hne (hi.trans e)
  have ht := h.turn (l := l.set q b) hx (hF.mono fun i _ e => by
    rcases e with rfl | rfl
    · exact .inl rfl
    · exact .inr (by rw [hv]; rfl)) (by rw [hv]; exact r3) b2
  refine ht.after hl (hF.mono fun i _ e => ?_) fun x i hi => ?_
  · rcases e with rfl | rfl
    · exact hS _ _ hgb
    · exact hS _ _ hg
  · cases x with
    | top => exact .inl (hS .top i hi)
    | row m => exact .inl (hS (.row m) i hi)
    | msg m n =>
      by_cases e : m = j
      · subst e
        have hi : blk (up ms m ((ms m).set k (.slice (some ⟨gb, 0, none⟩) l.length cb, true)) m)[n]? = some i := hi
        rw [up_at] at hi
        by_cases e : k = n
        · subst e
          rw [List.getElem?_set_self (List.getElem?_eq_some_iff.1 hx).1] at hi
          have : i = gb := by
            injection hi with hi
            exact hi.symm
          exact .inl (by rw [this]; exact hS _ _ hgb)
        · rw [List.getElem?_set_ne e] at hi
          exact .inl (hS (.msg m n) i hi)
      · have hi : blk (up ms j ((ms j).set k (.slice (some ⟨gb, 0, none⟩) l.length cb, true)) m)[n]? = some i := hi
        rw [up_ne _ _ _ e] at hi
        exact .inl (hS (.msg m n) i hi)
/-- Which byte is turned. -/
theorem turn_at (a : Int) (n : Nat) (hn : 0 < n) : -(n : Int) < a.tmod n ∧ a.tmod n < n ∧ ∃ q : Nat, q < n ∧ (a.tmod n + n).tmod n = q ∧ (a % (n : Int)).toNat = q := by
  have hn' : (n : Int) ≠ 0 := by omega
  have h1 : -(n : Int) < a.tmod n := by
    rcases Int.le_total 0 a with h | h
    · have := Int.tmod_nonneg (n : Int) h; omega
    · have := Int.lt_tmod_of_pos a (by omega : (0 : Int) < n); omega
  have h2 : a.tmod n < n := Int.tmod_lt_of_pos a (by omega)
  refine ⟨h1, h2, (a % (n : Int)).toNat, ?_, ?_, rfl⟩
  · have := Int.emod_lt_of_pos a (by omega : (0 : Int) < n)
    have := Int.emod_nonneg a hn'
    omega
  · rw [Int.toNat_of_nonneg (Int.emod_nonneg a hn'), Int.tmod_eq_emod_of_nonneg (by omega), Int.add_emod_right]
    have h3 := Int.mul_tdiv_add_tmod a n
    conv => rhs; rw [← h3]
    rw [Int.mul_add_emod_self_left]
theorem Keep.frozen {w w' : World} (h : Keep w w') {a : Addr} (hb : a.block < w.heap.size) (hf : w.frozen? a = false) : w'.frozen? a = false := by
  unfold World.frozen? at hf ⊢
  rw [h.block _ hb]
  exact hf
theorem xor_u8 (x y : UInt8) : bits .xor .u8 (x.toNat : Int) (y.toNat : Int) = ((x ^^^ y).toNat : Int) := by
  rw [u8_xor_nat _ _ x.toNat_lt y.toNat_lt, UInt8.toNat_xor]
set_option maxHeartbeats 4000000 in
theorem netSpoil0 {p : Nat} {S : Nat → Prop} {R : Em.Nt} (w : World) (h : NetP w p S R) (k : Nat) (hkl : k < (R 0).length) (hh : R.has 0 k = true) (a : Int) (hsm : ∀ m ∈ R 0, m.1.length ≤ 1000000) (ha : (Lit.int .i64 a).wf = true) (b : UInt8) : Calls Try.prog 25 #[.pointer (some ⟨p, 0, none⟩), .int .i64 0, .int .i64 k, .int .i64 a, .int .u8 (b.toNat : Int)] w fun e w' => e = .returned (.bool (R.spoils 0 k)) ∧ AftP w p S (R.spoil 0 k a b) w' := by
  have his := netIs w h 0 k
  rw [hh] at his
  have HK := hide fun W (k : Keep w W) => h.after k
  obtain ⟨vs, ms, h, hS, hl⟩ := h
  obtain ⟨g, rc, bA, bc, f, l, hre, hrc, hrc2, hmk, hRk, b0, b1, hcell, hfz, hbo⟩ := h.readg 0 k hkl
  have hat : R.at 0 k = (l, f) := Em.Nt.at_get hRk
  have hsp : R.spoils 0 k = (!f && decide (0 < l.length)) := by rw [Em.Nt.spoils, hh, hat]; rfl
  have hs1 : R.spoils 0 k = true → R.spoil 0 k a b = up R 0 ((R 0).set k (Em.turn l a b, true)) := fun e => by
    rw [Em.Nt.spoil, e, hat]
    rfl
  have hs0 : R.spoils 0 k = false → R.spoil 0 k a b = R := fun e => by
    rw [Em.Nt.spoil, e]
    rfl
  rw [hsp] at hs0 hs1 ⊢
  clear hsp hh hat
  have hab := in_i64 ha
  clear ha
  have tp := top_cells h.top 0
  have c0 : w.cell? ⟨p, 0, none⟩ = some (vs 0) := tp
  have hkm : k < (ms 0).length := by
    have := h.len 0
    omega
  by_cases hn : l.length = 0
  · have hl0 : l = [] := List.eq_nil_of_length_eq_zero hn
    subst hl0
    have HS := hide (hs0 (by simp))
    have HK0 := HK
    generalize hmsj : ms 0 = mj at *
    generalize hvj : vs 0 = vj at *
    subst hre
    clear h tp hS hl hs0 hs1 hcell hfz hbo hmk
    simp only [List.length_nil] at *
    go_enter Try.func25, Try.ntmps25
    go_wp2_with fail
    refine his.mono ?_
    rintro e w' ⟨rfl, rfl⟩
    go_wp2_with fail
    go_ret
    exact ⟨by simp, by rw [HS.out]; exact HK.out _ (by repeat (first | exact Keep.rf _ | assumption | apply Keep.al | apply Keep.dr | apply Keep.dn))⟩
  · cases f with
    | true =>
      have HS := hide (hs0 (by simp))
      have hn0 : ((l.length : Int) == 0) = false := by rw [beq_eq_false_iff_ne]; omega
      generalize hmsj : ms 0 = mj at *
      generalize hvj : vs 0 = vj at *
      subst hre
      clear h tp hS hl hs0 hs1 hcell hfz hbo hmk
      go_enter Try.func25, Try.ntmps25
      go_wp2_with fail
      refine his.mono ?_
      rintro e w' ⟨rfl, rfl⟩
      go_wp2_with fail
      go_ret
      exact ⟨by simp, by rw [HS.out]; exact HK.out _ (by repeat (first | exact Keep.rf _ | assumption | apply Keep.al | apply Keep.dr | apply Keep.dn))⟩
    | false =>
      have HS := hide (hs1 (by simp; omega))
      have hn0 : ((l.length : Int) == 0) = false := by rw [beq_eq_false_iff_ne]; omega
      obtain ⟨gb, cb, hbe, hb1, hb2, hgb, hbc, hbf⟩ := own_form hbo (by omega)
      injection hbe with e1 e2 e3
      subst e1 e3
      obtain ⟨r1, r2, q, hq, hq2, hq3⟩ := turn_at a l.length (by omega)
      have hlm : l.length ≤ 1000000 := hsm _ (List.mem_of_getElem? hRk)
      have hs3 : a.tmod l.length + l.length ≤ 9223372036854775807 := by omega
      have hs4 : -9223372036854775808 ≤ a.tmod l.length + l.length := by omega
      have hn1 : ¬ (l.length : Int) = 0 := by omega
      have HP := hide fun (W : World) (kW : Keep w W) => After.of_keep kW (NRaw.spoil (h.frm (kW.frm fun _ => False) fun _ _ _ h => h) hS (fun q hq => Nat.lt_of_lt_of_le (hl q hq) kW.size) hre hmk (own_keep hbo kW) q (l[q] ^^^ b)) hl
      have hgl : g < w.heap.size := hl g (hS (.row 0) g (by show (vs 0).ownBlock = _; rw [hre]; rfl))
      have hqc : w.cell? ⟨gb, q, none⟩ = some (.int .u8 (l[q].toNat : Int)) := hbc q (bv l[q]) (by rw [List.getElem?_map, List.getElem?_eq_getElem hq]; rfl)
      have hqf := hbf q
      have HT := hide (show Em.turn l a b = l.set q (l[q] ^^^ b) from by
        rw [Em.turn, hq3, List.getD_eq_getElem?_getD, List.getElem?_eq_getElem hq]
        rfl)
      have hx := xor_u8 l[q] b
      have hgne : gb ≠ g := fun e => by
        subst e
        have := h.inj (.msg 0 k) (.row 0) gb (by show blk _ = _; rw [hmk]; rfl) (by show (vs 0).ownBlock = _; rw [hre]; rfl)
        cases this
      have f3 := hfz (k * 2 + 1)
      generalize l[q] = lq at *
      generalize hr : a.tmod ↑l.length = r at *
      generalize hmsj : ms 0 = mj at *
      generalize hvj : vs 0 = vj at *
      subst hre
      clear h tp hS hl hs0 hs1 hcell hfz hbo hmk hbc hbf HK hRk hq3 hsm hab
      go_enter Try.func25, Try.ntmps25
      go_wp2_with fail
      refine his.mono ?_
      rintro e w' ⟨rfl, rfl⟩
      go_wp2_with fail
      apply region_last 16 _ (by kernel_rfl) Keep Keep krg ktg krg ktg (fun _ _ h => h) [some 39, some 40, some 41, some 42, some 43, some 44, some 45, some 46, some 47, some 48, some 49, some 50, some 51, some 52, some 53, some 54, none] [eqG _ , eqG _ , eqG _ , eqG _ , eqG _ , eqG _ , fun us _ v => v = .int .i64 r, eqG _ , fun us _ v => v = .int .i64 (r + (l.length : Int)), eqG _ , fun us _ v => v = .int .i64 (q : Int), eqG _ , eqG _ , eqG _ , fun us _ v => v = .int .u8 ((lq ^^^ b).toNat : Int), eqG _ , fun _ _ _ => True] [⟨[], [], true, false, false⟩, ⟨[0], [], true, false, false⟩, ⟨[1], [], true, false, false⟩, ⟨[2], [], true, false, false⟩, ⟨[], [], true, false, false⟩, ⟨[], [], true, false, false⟩, ⟨[4, 5], [], true, false, false⟩, ⟨[], [], true, false, false⟩, ⟨[6, 7], [], true, false, false⟩, ⟨[], [], true, false, false⟩, ⟨[8, 9], [], true, false, false⟩, ⟨[3, 10], [], true, false, false⟩, ⟨[11], [], true, false, false⟩, ⟨[], [], true, false, false⟩, ⟨[12, 13], [], true, false, false⟩, ⟨[3, 10], [], true, false, false⟩, ⟨[14, 15], [], true, false, false⟩] [14, 15] (by kernel_rfl) (by kernel_rfl) (by kernel_rfl) rfl (by kernel_rfl)
      · refine ⟨?_, ?_, ?_, ?_, ?_, ?_, ?_, ?_, ?_, ?_, ?_, ?_, ?_, ?_, ?_, ?_, trivial⟩
        · (intro us W h9 hW hE hd hs K hK; obtain ⟨u0, u1, u2, u3, u4, u5, u6, u7, u8, u9, u10, u11, u12, u13, u14, u15, u16, rfl⟩ := rog 17 h9 rfl; clear h9; clear hd; clear hs; simp only [fillG, List.set_cons_zero, List.set_cons_succ]; refine want_n rfl ?_; go_wp2_with (first | fail); simp only [DoneG, fillG, List.set_cons_zero, List.set_cons_succ, relG, eqG, eqG1, eqG2, eqG3, gdG, gdG1, gnG, gnG1, List.getD_cons_zero, List.getD_cons_succ, List.getElem?_cons_succ, List.getElem?_cons_zero, Option.map_some, Option.getD_some, valsG, List.map_cons, List.map_nil, List.length_cons, List.length_nil]; exact ⟨_, rfl, (by first | with_reducible assumption | exact krg _ | exact Keep.al (krg _) _), fun _ _ => rfl⟩)
        · (intro us W h9 hW hE hd hs K hK; obtain ⟨u0, u1, u2, u3, u4, u5, u6, u7, u8, u9, u10, u11, u12, u13, u14, u15, u16, rfl⟩ := rog 17 h9 rfl; clear h9; simp only [DepG, AtG, and_true, relG, eqG, eqG1, eqG2, eqG3, gdG, gdG1, gnG, gnG1, List.getD_cons_zero, List.getD_cons_succ, List.getElem?_cons_succ, List.getElem?_cons_zero, Option.map_some, Option.getD_some, valsG, List.map_cons, List.map_nil, List.length_cons, List.length_nil] at hd; have d0 := hd; clear hd; subst d0; clear hs; simp only [fillG, List.set_cons_zero, List.set_cons_succ]; refine want_n rfl ?_; go_wp2_with (first | fail); simp only [DoneG, fillG, List.set_cons_zero, List.set_cons_succ, relG, eqG, eqG1, eqG2, eqG3, gdG, gdG1, gnG, gnG1, List.getD_cons_zero, List.getD_cons_succ, List.getElem?_cons_succ, List.getElem?_cons_zero, Option.map_some, Option.getD_some, valsG, List.map_cons, List.map_nil, List.length_cons, List.length_nil]; exact ⟨_, rfl, (by first | with_reducible assumption | exact krg _ | exact Keep.al (krg _) _), fun _ _ => rfl⟩)
        · (intro us W h9 hW hE hd hs K hK; obtain ⟨u0, u1, u2, u3, u4, u5, u6, u7, u8, u9, u10, u11, u12, u13, u14, u15, u16, rfl⟩ := rog 17 h9 rfl; clear h9; simp only [DepG, AtG, and_true, relG, eqG, eqG1, eqG2, eqG3, gdG, gdG1, gnG, gnG1, List.getD_cons_zero, List.getD_cons_succ, List.getElem?_cons_succ, List.getElem?_cons_zero, Option.map_some, Option.getD_some, valsG, List.map_cons, List.map_nil, List.length_cons, List.length_nil] at hd; have d1 := hd; clear hd; subst d1; clear hs; simp only [fillG, List.set_cons_zero, List.set_cons_succ]; refine want_n rfl ?_; go_wp2_with (first | fail); simp only [DoneG, fillG, List.set_cons_zero, List.set_cons_succ, relG, eqG, eqG1, eqG2, eqG3, gdG, gdG1, gnG, gnG1, List.getD_cons_zero, List.getD_cons_succ, List.getElem?_cons_succ, List.getElem?_cons_zero, Option.map_some, Option.getD_some, valsG, List.map_cons, List.map_nil, List.length_cons, List.length_nil]; exact ⟨_, rfl, (by first | with_reducible assumption | exact krg _ | exact Keep.al (krg _) _), fun _ _ => rfl⟩)
        · (intro us W h9 hW hE hd hs K hK; obtain ⟨u0, u1, u2, u3, u4, u5, u6, u7, u8, u9, u10, u11, u12, u13, u14, u15, u16, rfl⟩ := rog 17 h9 rfl; clear h9; simp only [DepG, AtG, and_true, relG, eqG, eqG1, eqG2, eqG3, gdG, gdG1, gnG, gnG1, List.getD_cons_zero, List.getD_cons_succ, List.getElem?_cons_succ, List.getElem?_cons_zero, Option.map_some, Option.getD_some, valsG, List.map_cons, List.map_nil, List.length_cons, List.length_nil] at hd; have d2 := hd; clear hd; subst d2; clear hs; simp only [fillG, List.set_cons_zero, List.set_cons_succ]; have hKW := Keep.tr (Keep.dr (Keep.rf _)) (hE rfl); have b0 := Keep.cell hKW b0; have hqc := Keep.cell hKW hqc; refine want_n rfl ?_; go_wp2_with (first | fail); simp only [DoneG, fillG, List.set_cons_zero, List.set_cons_succ, relG, eqG, eqG1, eqG2, eqG3, gdG, gdG1, gnG, gnG1, List.getD_cons_zero, List.getD_cons_succ, List.getElem?_cons_succ, List.getElem?_cons_zero, Option.map_some, Option.getD_some, valsG, List.map_cons, List.map_nil, List.length_cons, List.length_nil]; exact ⟨_, rfl, (by first | with_reducible assumption | exact krg _ | exact Keep.al (krg _) _), fun _ _ => rfl⟩)
        · (intro us W h9 hW hE hd hs K hK; obtain ⟨u0, u1, u2, u3, u4, u5, u6, u7, u8, u9, u10, u11, u12, u13, u14, u15, u16, rfl⟩ := rog 17 h9 rfl; clear h9; clear hd; clear hs; simp only [fillG, List.set_cons_zero, List.set_cons_succ]; refine want_n rfl ?_; go_wp2_with (first | fail); simp only [DoneG, fillG, List.set_cons_zero, List.set_cons_succ, relG, eqG, eqG1, eqG2, eqG3, gdG, gdG1, gnG, gnG1, List.getD_cons_zero, List.getD_cons_succ, List.getElem?_cons_succ, List.getElem?_cons_zero, Option.map_some, Option.getD_some, valsG, List.map_cons, List.map_nil, List.length_cons, List.length_nil]; exact ⟨_, rfl, (by first | with_reducible assumption | exact krg _ | exact Keep.al (krg _) _), fun _ _ => rfl⟩)
        · (intro us W h9 hW hE hd hs K hK; obtain ⟨u0, u1, u2, u3, u4, u5, u6, u7, u8, u9, u10, u11, u12, u13, u14, u15, u16, rfl⟩ := rog 17 h9 rfl; clear h9; clear hd; clear hs; simp only [fillG, List.set_cons_zero, List.set_cons_succ]; refine want_n rfl ?_; go_wp2_with (first | fail); simp only [DoneG, fillG, List.set_cons_zero, List.set_cons_succ, relG, eqG, eqG1, eqG2, eqG3, gdG, gdG1, gnG, gnG1, List.getD_cons_zero, List.getD_cons_succ, List.getElem?_cons_succ, List.getElem?_cons_zero, Option.map_some, Option.getD_some, valsG, List.map_cons, List.map_nil, List.length_cons, List.length_nil]; exact ⟨_, rfl, (by first | with_reducible assumption | exact krg _ | exact Keep.al (krg _) _), fun _ _ => rfl⟩)
        · (intro us W h9 hW hE hd hs K hK; obtain ⟨u0, u1, u2, u3, u4, u5, u6, u7, u8, u9, u10, u11, u12, u13, u14, u15, u16, rfl⟩ := rog 17 h9 rfl; clear h9; simp only [DepG, AtG, and_true, relG, eqG, eqG1, eqG2, eqG3, gdG, gdG1, gnG, gnG1, List.getD_cons_zero, List.getD_cons_succ, List.getElem?_cons_succ, List.getElem?_cons_zero, Option.map_some, Option.getD_some, valsG, List.map_cons, List.map_nil, List.length_cons, List.length_nil] at hd; obtain ⟨d4, d5⟩ := hd; subst d4; subst d5; clear hs; simp only [fillG, List.set_cons_zero, List.set_cons_succ]; have hKW := Keep.tr (Keep.dr (Keep.rf _)) (hE rfl); have b0 := Keep.cell hKW b0; have hqc := Keep.cell hKW hqc; refine want_n rfl ?_; go_wp2_with (first | fail); simp only [DoneG, fillG, List.set_cons_zero, List.set_cons_succ, relG, eqG, eqG1, eqG2, eqG3, gdG, gdG1, gnG, gnG1, List.getD_cons_zero, List.getD_cons_succ, List.getElem?_cons_succ, List.getElem?_cons_zero, Option.map_some, Option.getD_some, valsG, List.map_cons, List.map_nil, List.length_cons, List.length_nil]; exact ⟨_, rfl, (by first | with_reducible assumption | exact krg _ | exact Keep.al (krg _) _), fun _ _ => rfl⟩)
        · (intro us W h9 hW hE hd hs K hK; obtain ⟨u0, u1, u2, u3, u4, u5, u6, u7, u8, u9, u10, u11, u12, u13, u14, u15, u16, rfl⟩ := rog 17 h9 rfl; clear h9; clear hd; clear hs; simp only [fillG, List.set_cons_zero, List.set_cons_succ]; refine want_n rfl ?_; go_wp2_with (first | fail); simp only [DoneG, fillG, List.set_cons_zero, List.set_cons_succ, relG, eqG, eqG1, eqG2, eqG3, gdG, gdG1, gnG, gnG1, List.getD_cons_zero, List.getD_cons_succ, List.getElem?_cons_succ, List.getElem?_cons_zero, Option.map_some, Option.getD_some, valsG, List.map_cons, List.map_nil, List.length_cons, List.length_nil]; exact ⟨_, rfl, (by first | with_reducible assumption | exact krg _ | exact Keep.al (krg _) _), fun _ _ => rfl⟩)
        · (intro us W h9 hW hE hd hs K hK; obtain ⟨u0, u1, u2, u3, u4, u5, u6, u7, u8, u9, u10, u11, u12, u13, u14, u15, u16, rfl⟩ := rog 17 h9 rfl; clear h9; simp only [DepG, AtG, and_true, relG, eqG, eqG1, eqG2, eqG3, gdG, gdG1, gnG, gnG1, List.getD_cons_zero, List.getD_cons_succ, List.getElem?_cons_succ, List.getElem?_cons_zero, Option.map_some, Option.getD_some, valsG, List.map_cons, List.map_nil, List.length_cons, List.length_nil] at hd; obtain ⟨d6, d7⟩ := hd; subst d6; subst d7; clear hs; simp only [fillG, List.set_cons_zero, List.set_cons_succ]; have hKW := Keep.tr (Keep.dr (Keep.rf _)) (hE rfl); have b0 := Keep.cell hKW b0; have hqc := Keep.cell hKW hqc; refine want_n rfl ?_; go_wp2_with (first | fail); simp only [DoneG, fillG, List.set_cons_zero, List.set_cons_succ, relG, eqG, eqG1, eqG2, eqG3, gdG, gdG1, gnG, gnG1, List.getD_cons_zero, List.getD_cons_succ, List.getElem?_cons_succ, List.getElem?_cons_zero, Option.map_some, Option.getD_some, valsG, List.map_cons, List.map_nil, List.length_cons, List.length_nil]; exact ⟨_, rfl, (by first | with_reducible assumption | exact krg _ | exact Keep.al (krg _) _), fun _ _ => rfl⟩)
        · (intro us W h9 hW hE hd hs K hK; obtain ⟨u0, u1, u2, u3, u4, u5, u6, u7, u8, u9, u10, u11, u12, u13, u14, u15, u16, rfl⟩ := rog 17 h9 rfl; clear h9; clear hd; clear hs; simp only [fillG, List.set_cons_zero, List.set_cons_succ]; refine want_n rfl ?_; go_wp2_with (first | fail); simp only [DoneG, fillG, List.set_cons_zero, List.set_cons_succ, relG, eqG, eqG1, eqG2, eqG3, gdG, gdG1, gnG, gnG1, List.getD_cons_zero, List.getD_cons_succ, List.getElem?_cons_succ, List.getElem?_cons_zero, Option.map_some, Option.getD_some, valsG, List.map_cons, List.map_nil, List.length_cons, List.length_nil]; exact ⟨_, rfl, (by first | with_reducible assumption | exact krg _ | exact Keep.al (krg _) _), fun _ _ => rfl⟩)
        · (intro us W h9 hW hE hd hs K hK; obtain ⟨u0, u1, u2, u3, u4, u5, u6, u7, u8, u9, u10, u11, u12, u13, u14, u15, u16, rfl⟩ := rog 17 h9 rfl; clear h9; simp only [DepG, AtG, and_true, relG, eqG, eqG1, eqG2, eqG3, gdG, gdG1, gnG, gnG1, List.getD_cons_zero, List.getD_cons_succ, List.getElem?_cons_succ, List.getElem?_cons_zero, Option.map_some, Option.getD_some, valsG, List.map_cons, List.map_nil, List.length_cons, List.length_nil] at hd; obtain ⟨d8, d9⟩ := hd; subst d8; subst d9; clear hs; simp only [fillG, List.set_cons_zero, List.set_cons_succ]; have hKW := Keep.tr (Keep.dr (Keep.rf _)) (hE rfl); have b0 := Keep.cell hKW b0; have hqc := Keep.cell hKW hqc; refine want_n rfl ?_; go_wp2_with (first | fail); simp only [DoneG, fillG, List.set_cons_zero, List.set_cons_succ, relG, eqG, eqG1, eqG2, eqG3, gdG, gdG1, gnG, gnG1, List.getD_cons_zero, List.getD_cons_succ, List.getElem?_cons_succ, List.getElem?_cons_zero, Option.map_some, Option.getD_some, valsG, List.map_cons, List.map_nil, List.length_cons, List.length_nil]; exact ⟨_, rfl, (by first | with_reducible assumption | exact krg _ | exact Keep.al (krg _) _), fun _ _ => rfl⟩)
        · (intro us W h9 hW hE hd hs K hK; obtain ⟨u0, u1, u2, u3, u4, u5, u6, u7, u8, u9, u10, u11, u12, u13, u14, u15, u16, rfl⟩ := rog 17 h9 rfl; clear h9; simp only [DepG, AtG, and_true, relG, eqG, eqG1, eqG2, eqG3, gdG, gdG1, gnG, gnG1, List.getD_cons_zero, List.getD_cons_succ, List.getElem?_cons_succ, List.getElem?_cons_zero, Option.map_some, Option.getD_some, valsG, List.map_cons, List.map_nil, List.length_cons, List.length_nil] at hd; obtain ⟨d3, d10⟩ := hd; subst d3; subst d10; clear hs; simp only [fillG, List.set_cons_zero, List.set_cons_succ]; refine want_n rfl ?_; go_wp2_with (first | fail); simp only [DoneG, fillG, List.set_cons_zero, List.set_cons_succ, relG, eqG, eqG1, eqG2, eqG3, gdG, gdG1, gnG, gnG1, List.getD_cons_zero, List.getD_cons_succ, List.getElem?_cons_succ, List.getElem?_cons_zero, Option.map_some, Option.getD_some, valsG, List.map_cons, List.map_nil, List.length_cons, List.length_nil]; exact ⟨_, rfl, (by first | with_reducible assumption | exact krg _ | exact Keep.al (krg _) _), fun _ _ => rfl⟩)
        · (intro us W h9 hW hE hd hs K hK; obtain ⟨u0, u1, u2, u3, u4, u5, u6, u7, u8, u9, u10, u11, u12, u13, u14, u15, u16, rfl⟩ := rog 17 h9 rfl; clear h9; simp only [DepG, AtG, and_true, relG, eqG, eqG1, eqG2, eqG3, gdG, gdG1, gnG, gnG1, List.getD_cons_zero, List.getD_cons_succ, List.getElem?_cons_succ, List.getElem?_cons_zero, Option.map_some, Option.getD_some, valsG, List.map_cons, List.map_nil, List.length_cons, List.length_nil] at hd; have d11 := hd; clear hd; subst d11; clear hs; simp only [fillG, List.set_cons_zero, List.set_cons_succ]; have hKW := Keep.tr (Keep.dr (Keep.rf _)) (hE rfl); have b0 := Keep.cell hKW b0; have hqc := Keep.cell hKW hqc; refine want_n rfl ?_; go_wp2_with (first | fail); simp only [DoneG, fillG, List.set_cons_zero, List.set_cons_succ, relG, eqG, eqG1, eqG2, eqG3, gdG, gdG1, gnG, gnG1, List.getD_cons_zero, List.getD_cons_succ, List.getElem?_cons_succ, List.getElem?_cons_zero, Option.map_some, Option.getD_some, valsG, List.map_cons, List.map_nil, List.length_cons, List.length_nil]; exact ⟨_, rfl, (by first | with_reducible assumption | exact krg _ | exact Keep.al (krg _) _), fun _ _ => rfl⟩)
        · (intro us W h9 hW hE hd hs K hK; obtain ⟨u0, u1, u2, u3, u4, u5, u6, u7, u8, u9, u10, u11, u12, u13, u14, u15, u16, rfl⟩ := rog 17 h9 rfl; clear h9; clear hd; clear hs; simp only [fillG, List.set_cons_zero, List.set_cons_succ]; refine want_n rfl ?_; go_wp2_with (first | fail); simp only [DoneG, fillG, List.set_cons_zero, List.set_cons_succ, relG, eqG, eqG1, eqG2, eqG3, gdG, gdG1, gnG, gnG1, List.getD_cons_zero, List.getD_cons_succ, List.getElem?_cons_succ, List.getElem?_cons_zero, Option.map_some, Option.getD_some, valsG, List.map_cons, List.map_nil, List.length_cons, List.length_nil]; exact ⟨_, rfl, (by first | with_reducible assumption | exact krg _ | exact Keep.al (krg _) _), fun _ _ => rfl⟩)
        · (intro us W h9 hW hE hd hs K hK; obtain ⟨u0, u1, u2, u3, u4, u5, u6, u7, u8, u9, u10, u11, u12, u13, u14, u15, u16, rfl⟩ := rog 17 h9 rfl; clear h9; simp only [DepG, AtG, and_true, relG, eqG, eqG1, eqG2, eqG3, gdG, gdG1, gnG, gnG1, List.getD_cons_zero, List.getD_cons_succ, List.getElem?_cons_succ, List.getElem?_cons_zero, Option.map_some, Option.getD_some, valsG, List.map_cons, List.map_nil, List.length_cons, List.length_nil] at hd; obtain ⟨d12, d13⟩ := hd; subst d12; subst d13; clear hs; simp only [fillG, List.set_cons_zero, List.set_cons_succ]; have hKW := Keep.tr (Keep.dr (Keep.rf _)) (hE rfl); have b0 := Keep.cell hKW b0; have hqc := Keep.cell hKW hqc; refine want_n rfl ?_; go_wp2_with (first | fail); simp only [DoneG, fillG, List.set_cons_zero, List.set_cons_succ, relG, eqG, eqG1, eqG2, eqG3, gdG, gdG1, gnG, gnG1, List.getD_cons_zero, List.getD_cons_succ, List.getElem?_cons_succ, List.getElem?_cons_zero, Option.map_some, Option.getD_some, valsG, List.map_cons, List.map_nil, List.length_cons, List.length_nil]; exact ⟨_, rfl, (by first | with_reducible assumption | exact krg _ | exact Keep.al (krg _) _), fun _ _ => rfl⟩)
        · (intro us W h9 hW hE hd hs K hK; obtain ⟨u0, u1, u2, u3, u4, u5, u6, u7, u8, u9, u10, u11, u12, u13, u14, u15, u16, rfl⟩ := rog 17 h9 rfl; clear h9; simp only [DepG, AtG, and_true, relG, eqG, eqG1, eqG2, eqG3, gdG, gdG1, gnG, gnG1, List.getD_cons_zero, List.getD_cons_succ, List.getElem?_cons_succ, List.getElem?_cons_zero, Option.map_some, Option.getD_some, valsG, List.map_cons, List.map_nil, List.length_cons, List.length_nil] at hd; obtain ⟨d3, d10⟩ := hd; subst d3; subst d10; clear hs; simp only [fillG, List.set_cons_zero, List.set_cons_succ]; refine want_n rfl ?_; go_wp2_with (first | fail); simp only [DoneG, fillG, List.set_cons_zero, List.set_cons_succ, relG, eqG, eqG1, eqG2, eqG3, gdG, gdG1, gnG, gnG1, List.getD_cons_zero, List.getD_cons_succ, List.getElem?_cons_succ, List.getElem?_cons_zero, Option.map_some, Option.getD_some, valsG, List.map_cons, List.map_nil, List.length_cons, List.length_nil]; exact ⟨_, rfl, (by first | with_reducible assumption | exact krg _ | exact Keep.al (krg _) _), fun _ _ => rfl⟩)
      (intro us W2 h9 hW hE hA hl9; obtain ⟨u0, u1, u2, u3, u4, u5, u6, u7, u8, u9, u10, u11, u12, u13, u14, u15, u16, rfl⟩ := rog 17 h9 rfl; clear h9; clear hl9; simp only [AllG, AtG, and_true, relG, eqG, eqG1, eqG2, eqG3, gdG, gdG1, gnG, gnG1, List.getD_cons_zero, List.getD_cons_succ, List.getElem?_cons_succ, List.getElem?_cons_zero, Option.map_some, Option.getD_some, valsG, List.map_cons, List.map_nil, List.length_cons, List.length_nil] at hA; obtain ⟨d14, d15⟩ := hA; subst d14; subst d15; simp only [fillG, List.set_cons_zero, List.set_cons_succ]; have k2 := Keep.tr (Keep.dr (Keep.rf _)) hW; clear hW hE; refine want_n rfl ?_)
      have qc2 := Keep.cell k2 hqc
      have qf2 := k2.frozen (a := ⟨gb, q, none⟩) hgb hqf
      have f1 := Frm.cell (Frm.st (S := (· = gb)) (Frm.rf _ W2) (p := ⟨gb, q, none⟩) (.inl rfl) (.int .u8 ((lq ^^^ b).toNat : Int))) (a := ⟨g, k * 2 + 1, none⟩) (fun e => hgne (Eq.symm e)) (Keep.cell k2 b1)
      have f4 := k2.frozen (a := ⟨g, k * 2 + 1, none⟩) hgl f3
      have f5 := Keep.cell k2 b1
      have HA := hide (HP.out _ k2)
      clear HP b0 b1 f3 hqc hqf hq2 hx
      go_wp2
      go_ret
      exact ⟨by simp; omega, by rw [HS.out, HT.out]; exact HA.out⟩
set_option maxHeartbeats 4000000 in
theorem netSpoil1 {p : Nat} {S : Nat → Prop} {R : Em.Nt} (w : World) (h : NetP w p S R) (k : Nat) (hkl : k < (R 1).length) (hh : R.has 1 k = true) (a : Int) (hsm : ∀ m ∈ R 1, m.1.length ≤ 1000000) (ha : (Lit.int .i64 a).wf = true) (b : UInt8) : Calls Try.prog 25 #[.pointer (some ⟨p, 0, none⟩), .int .i64 1, .int .i64 k, .int .i64 a, .int .u8 (b.toNat : Int)] w fun e w' => e = .returned (.bool (R.spoils 1 k)) ∧ AftP w p S (R.spoil 1 k a b) w' := by
  have his := netIs w h 1 k
  rw [hh] at his
  have HK := hide fun W (k : Keep w W) => h.after k
  obtain ⟨vs, ms, h, hS, hl⟩ := h
  obtain ⟨g, rc, bA, bc, f, l, hre, hrc, hrc2, hmk, hRk, b0, b1, hcell, hfz, hbo⟩ := h.readg 1 k hkl
  have hat : R.at 1 k = (l, f) := Em.Nt.at_get hRk
  have hsp : R.spoils 1 k = (!f && decide (0 < l.length)) := by rw [Em.Nt.spoils, hh, hat]; rfl
  have hs1 : R.spoils 1 k = true → R.spoil 1 k a b = up R 1 ((R 1).set k (Em.turn l a b, true)) := fun e => by
    rw [Em.Nt.spoil, e, hat]
    rfl
  have hs0 : R.spoils 1 k = false → R.spoil 1 k a b = R := fun e => by
    rw [Em.Nt.spoil, e]
    rfl
  rw [hsp] at hs0 hs1 ⊢
  clear hsp hh hat
  have hab := in_i64 ha
  clear ha
  have tp := top_cells h.top 1
  have c0 : w.cell? ⟨p, 1, none⟩ = some (vs 1) := tp
  have hkm : k < (ms 1).length := by
    have := h.len 1
    omega
  by_cases hn : l.length = 0
  · have hl0 : l = [] := List.eq_nil_of_length_eq_zero hn
    subst hl0
    have HS := hide (hs0 (by simp))
    have HK0 := HK
    generalize hmsj : ms 1 = mj at *
    generalize hvj : vs 1 = vj at *
    subst hre
    clear h tp hS hl hs0 hs1 hcell hfz hbo hmk
    simp only [List.length_nil] at *
    go_enter Try.func25, Try.ntmps25
    go_wp2_with fail
    refine his.mono ?_
    rintro e w' ⟨rfl, rfl⟩
    go_wp2_with fail
    go_ret
    exact ⟨by simp, by rw [HS.out]; exact HK.out _ (by repeat (first | exact Keep.rf _ | assumption | apply Keep.al | apply Keep.dr | apply Keep.dn))⟩
  · cases f with
    | true =>
      have HS := hide (hs0 (by simp))
      have hn0 : ((l.length : Int) == 0) = false := by rw [beq_eq_false_iff_ne]; omega
      generalize hmsj : ms 1 = mj at *
      generalize hvj : vs 1 = vj at *
      subst hre
      clear h tp hS hl hs0 hs1 hcell hfz hbo hmk
      go_enter Try.func25, Try.ntmps25
      go_wp2_with fail
      refine his.mono ?_
      rintro e w' ⟨rfl, rfl⟩
      go_wp2_with fail
      go_ret
      exact ⟨by simp, by rw [HS.out]; exact HK.out _ (by repeat (first | exact Keep.rf _ | assumption | apply Keep.al | apply Keep.dr | apply Keep.dn))⟩
    | false =>
      have HS := hide (hs1 (by simp; omega))
      have hn0 : ((l.length : Int) == 0) = false := by rw [beq_eq_false_iff_ne]; omega
      obtain ⟨gb, cb, hbe, hb1, hb2, hgb, hbc, hbf⟩ := own_form hbo (by omega)
      injection hbe with e1 e2 e3
      subst e1 e3
      obtain ⟨r1, r2, q, hq, hq2, hq3⟩ := turn_at a l.length (by omega)
      have hlm : l.length ≤ 1000000 := hsm _ (List.mem_of_getElem? hRk)
      have hs3 : a.tmod l.length + l.length ≤ 9223372036854775807 := by omega
      have hs4 : -9223372036854775808 ≤ a.tmod l.length + l.length := by omega
      have hn1 : ¬ (l.length : Int) = 0 := by omega
      have HP := hide fun (W : World) (kW : Keep w W) => After.of_keep kW (NRaw.spoil (h.frm (kW.frm fun _ => False) fun _ _ _ h => h) hS (fun q hq => Nat.lt_of_lt_of_le (hl q hq) kW.size) hre hmk (own_keep hbo kW) q (l[q] ^^^ b)) hl
      have hgl : g < w.heap.size := hl g (hS (.row 1) g (by show (vs 1).ownBlock = _; rw [hre]; rfl))
      have hqc : w.cell? ⟨gb, q, none⟩ = some (.int .u8 (l[q].toNat : Int)) := hbc q (bv l[q]) (by rw [List.getElem?_map, List.getElem?_eq_getElem hq]; rfl)
      have hqf := hbf q
      have HT := hide (show Em.turn l a b = l.set q (l[q] ^^^ b) from by
        rw [Em.turn, hq3, List.getD_eq_getElem?_getD, List.getElem?_eq_getElem hq]
        rfl)
      have hx := xor_u8 l[q] b
      have hgne : gb ≠ g := fun e => by
        subst e
        have := h.inj (.msg 1 k) (.row 1) gb (by show blk _ = _; rw [hmk]; rfl) (by show (vs 1).ownBlock = _; rw [hre]; rfl)
        cases this
      have f3 := hfz (k * 2 + 1)
      generalize l[q] = lq at *
      generalize hr : a.tmod ↑l.length = r at *
      generalize hmsj : ms 1 = mj at *
      generalize hvj : vs 1 = vj at *
      subst hre
      clear h tp hS hl hs0 hs1 hcell hfz hbo hmk hbc hbf HK hRk hq3 hsm hab
      go_enter Try.func25, Try.ntmps25
      go_wp2_with fail
      refine his.mono ?_
      rintro e w' ⟨rfl, rfl⟩
      go_wp2_with fail
      apply region_last 16 _ (by kernel_rfl) Keep Keep krg ktg krg ktg (fun _ _ h => h) [some 39, some 40, some 41, some 42, some 43, some 44, some 45, some 46, some 47, some 48, some 49, some 50, some 51, some 52, some 53, some 54, none] [eqG _ , eqG _ , eqG _ , eqG _ , eqG _ , eqG _ , fun us _ v => v = .int .i64 r, eqG _ , fun us _ v => v = .int .i64 (r + (l.length : Int)), eqG _ , fun us _ v => v = .int .i64 (q : Int), eqG _ , eqG _ , eqG _ , fun us _ v => v = .int .u8 ((lq ^^^ b).toNat : Int), eqG _ , fun _ _ _ => True] [⟨[], [], true, false, false⟩, ⟨[0], [], true, false, false⟩, ⟨[1], [], true, false, false⟩, ⟨[2], [], true, false, false⟩, ⟨[], [], true, false, false⟩, ⟨[], [], true, false, false⟩, ⟨[4, 5], [], true, false, false⟩, ⟨[], [], true, false, false⟩, ⟨[6, 7], [], true, false, false⟩, ⟨[], [], true, false, false⟩, ⟨[8, 9], [], true, false, false⟩, ⟨[3, 10], [], true, false, false⟩, ⟨[11], [], true, false, false⟩, ⟨[], [], true, false, false⟩, ⟨[12, 13], [], true, false, false⟩, ⟨[3, 10], [], true, false, false⟩, ⟨[14, 15], [], true, false, false⟩] [14, 15] (by kernel_rfl) (by kernel_rfl) (by kernel_rfl) rfl (by kernel_rfl)
      · refine ⟨?_, ?_, ?_, ?_, ?_, ?_, ?_, ?_, ?_, ?_, ?_, ?_, ?_, ?_, ?_, ?_, trivial⟩
        · (intro us W h9 hW hE hd hs K hK; obtain ⟨u0, u1, u2, u3, u4, u5, u6, u7, u8, u9, u10, u11, u12, u13, u14, u15, u16, rfl⟩ := rog 17 h9 rfl; clear h9; clear hd; clear hs; simp only [fillG, List.set_cons_zero, List.set_cons_succ]; refine want_n rfl ?_; go_wp2_with (first | fail); simp only [DoneG, fillG, List.set_cons_zero, List.set_cons_succ, relG, eqG, eqG1, eqG2, eqG3, gdG, gdG1, gnG, gnG1, List.getD_cons_zero, List.getD_cons_succ, List.getElem?_cons_succ, List.getElem?_cons_zero, Option.map_some, Option.getD_some, valsG, List.map_cons, List.map_nil, List.length_cons, List.length_nil]; exact ⟨_, rfl, (by first | with_reducible assumption | exact krg _ | exact Keep.al (krg _) _), fun _ _ => rfl⟩)
        · (intro us W h9 hW hE hd hs K hK; obtain ⟨u0, u1, u2, u3, u4, u5, u6, u7, u8, u9, u10, u11, u12, u13, u14, u15, u16, rfl⟩ := rog 17 h9 rfl; clear h9; simp only [DepG, AtG, and_true, relG, eqG, eqG1, eqG2, eqG3, gdG, gdG1, gnG, gnG1, List.getD_cons_zero, List.getD_cons_succ, List.getElem?_cons_succ, List.getElem?_cons_zero, Option.map_some, Option.getD_some, valsG, List.map_cons, List.map_nil, List.length_cons, List.length_nil] at hd; have d0 := hd; clear hd; subst d0; clear hs; simp only [fillG, List.set_cons_zero, List.set_cons_succ]; refine want_n rfl ?_; go_wp2_with (first | fail); simp only [DoneG, fillG, List.set_cons_zero, List.set_cons_succ, relG, eqG, eqG1, eqG2, eqG3, gdG, gdG1, gnG, gnG1, List.getD_cons_zero, List.getD_cons_succ, List.getElem?_cons_succ, List.getElem?_cons_zero, Option.map_some, Option.getD_some, valsG, List.map_cons, List.map_nil, List.length_cons, List.length_nil]; exact ⟨_, rfl, (by first | with_reducible assumption | exact krg _ | exact Keep.al (krg _) _), fun _ _ => rfl⟩)
        · (intro us W h9 hW hE hd hs K hK; obtain ⟨u0, u1, u2, u3, u4, u5, u6, u7, u8, u9, u10, u11, u12, u13, u14, u15, u16, rfl⟩ := rog 17 h9 rfl; clear h9; simp only [DepG, AtG, and_true, relG, eqG, eqG1, eqG2, eqG3, gdG, gdG1, gnG, gnG1, List.getD_cons_zero, List.getD_cons_succ, List.getElem?_cons_succ, List.getElem?_cons_zero, Option.map_some, Option.getD_some, valsG, List.map_cons, List.map_nil, List.length_cons, List.length_nil] at hd; have d1 := hd; clear hd; subst d1; clear hs; simp only [fillG, List.set_cons_zero, List.set_cons_succ]; refine want_n rfl ?_; go_wp2_with (first | fail); simp only [DoneG, fillG, List.set_cons_zero, List.set_cons_succ, relG, eqG, eqG1, eqG2, eqG3, gdG, gdG1, gnG, gnG1, List.getD_cons_zero, List.getD_cons_succ, List.getElem?_cons_succ, List.getElem?_cons_zero, Option.map_some, Option.getD_some, valsG, List.map_cons, List.map_nil, List.length_cons, List.length_nil]; exact ⟨_, rfl, (by first | with_reducible assumption | exact krg _ | exact Keep.al (krg _) _), fun _ _ => rfl⟩)
        · (intro us W h9 hW hE hd hs K hK; obtain ⟨u0, u1, u2, u3, u4, u5, u6, u7, u8, u9, u10, u11, u12, u13, u14, u15, u16, rfl⟩ := rog 17 h9 rfl; clear h9; simp only [DepG, AtG, and_true, relG, eqG, eqG1, eqG2, eqG3, gdG, gdG1, gnG, gnG1, List.getD_cons_zero, List.getD_cons_succ, List.getElem?_cons_succ, List.getElem?_cons_zero, Option.map_some, Option.getD_some, valsG, List.map_cons, List.map_nil, List.length_cons, List.length_nil] at hd; have d2 := hd; clear hd; subst d2; clear hs; simp only [fillG, List.set_cons_zero, List.set_cons_succ]; have hKW := Keep.tr (Keep.dr (Keep.rf _)) (hE rfl); have b0 := Keep.cell hKW b0; have hqc := Keep.cell hKW hqc; refine want_n rfl ?_; go_wp2_with (first | fail); simp only [DoneG, fillG, List.set_cons_zero, List.set_cons_succ, relG, eqG, eqG1, eqG2, eqG3, gdG, gdG1, gnG, gnG1, List.getD_cons_zero, List.getD_cons_succ, List.getElem?_cons_succ, List.getElem?_cons_zero, Option.map_some, Option.getD_some, valsG, List.map_cons, List.map_nil, List.length_cons, List.length_nil]; exact ⟨_, rfl, (by first | with_reducible assumption | exact krg _ | exact Keep.al (krg _) _), fun _ _ => rfl⟩)
        · (intro us W h9 hW hE hd hs K hK; obtain ⟨u0, u1, u2, u3, u4, u5, u6, u7, u8, u9, u10, u11, u12, u13, u14, u15, u16, rfl⟩ := rog 17 h9 rfl; clear h9; clear hd; clear hs; simp only [fillG, List.set_cons_zero, List.set_cons_succ]; refine want_n rfl ?_; go_wp2_with (first | fail); simp only [DoneG, fillG, List.set_cons_zero, List.set_cons_succ, relG, eqG, eqG1, eqG2, eqG3, gdG, gdG1, gnG, gnG1, List.getD_cons_zero, List.getD_cons_succ, List.getElem?_cons_succ, List.getElem?_cons_zero, Option.map_some, Option.getD_some, valsG, List.map_cons, List.map_nil, List.length_cons, List.length_nil]; exact ⟨_, rfl, (by first | with_reducible assumption | exact krg _ | exact Keep.al (krg _) _), fun _ _ => rfl⟩)
        · (intro us W h9 hW hE hd hs K hK; obtain ⟨u0, u1, u2, u3, u4, u5, u6, u7, u8, u9, u10, u11, u12, u13, u14, u15, u16, rfl⟩ := rog 17 h9 rfl; clear h9; clear hd; clear hs; simp only [fillG, List.set_cons_zero, List.set_cons_succ]; refine want_n rfl ?_; go_wp2_with (first | fail); simp only [DoneG, fillG, List.set_cons_zero, List.set_cons_succ, relG, eqG, eqG1, eqG2, eqG3, gdG, gdG1, gnG, gnG1, List.getD_cons_zero, List.getD_cons_succ, List.getElem?_cons_succ, List.getElem?_cons_zero, Option.map_some, Option.getD_some, valsG, List.map_cons, List.map_nil, List.length_cons, List.length_nil]; exact ⟨_, rfl, (by first | with_reducible assumption | exact krg _ | exact Keep.al (krg _) _), fun _ _ => rfl⟩)
        · (intro us W h9 hW hE hd hs K hK; obtain ⟨u0, u1, u2, u3, u4, u5, u6, u7, u8, u9, u10, u11, u12, u13, u14, u15, u16, rfl⟩ := rog 17 h9 rfl; clear h9; simp only [DepG, AtG, and_true, relG, eqG, eqG1, eqG2, eqG3, gdG, gdG1, gnG, gnG1, List.getD_cons_zero, List.getD_cons_succ, List.getElem?_cons_succ, List.getElem?_cons_zero, Option.map_some, Option.getD_some, valsG, List.map_cons, List.map_nil, List.length_cons, List.length_nil] at hd; obtain ⟨d4, d5⟩ := hd; subst d4; subst d5; clear hs; simp only [fillG, List.set_cons_zero, List.set_cons_succ]; have hKW := Keep.tr (Keep.dr (Keep.rf _)) (hE rfl); have b0 := Keep.cell hKW b0; have hqc := Keep.cell hKW hqc; refine want_n rfl ?_; go_wp2_with (first | fail); simp only [DoneG, fillG, List.set_cons_zero, List.set_cons_succ, relG, eqG, eqG1, eqG2, eqG3, gdG, gdG1, gnG, gnG1, List.getD_cons_zero, List.getD_cons_succ, List.getElem?_cons_succ, List.getElem?_cons_zero, Option.map_some, Option.getD_some, valsG, List.map_cons, List.map_nil, List.length_cons, List.length_nil]; exact ⟨_, rfl, (by first | with_reducible assumption | exact krg _ | exact Keep.al (krg _) _), fun _ _ => rfl⟩)
        · (intro us W h9 hW hE hd hs K hK; obtain ⟨u0, u1, u2, u3, u4, u5, u6, u7, u8, u9, u10, u11, u12, u13, u14, u15, u16, rfl⟩ := rog 17 h9 rfl; clear h9; clear hd; clear hs; simp only [fillG, List.set_cons_zero, List.set_cons_succ]; refine want_n rfl ?_; go_wp2_with (first | fail); simp only [DoneG, fillG, List.set_cons_zero, List.set_cons_succ, relG, eqG, eqG1, eqG2, eqG3, gdG, gdG1, gnG, gnG1, List.getD_cons_zero, List.getD_cons_succ, List.getElem?_cons_succ, List.getElem?_cons_zero, Option.map_some, Option.getD_some, valsG, List.map_cons, List.map_nil, List.length_cons, List.length_nil]; exact ⟨_, rfl, (by first | with_reducible assumption | exact krg _ | exact Keep.al (krg _) _), fun _ _ => rfl⟩)
        · (intro us W h9 hW hE hd hs K hK; obtain ⟨u0, u1, u2, u3, u4, u5, u6, u7, u8, u9, u10, u11, u12, u13, u14, u15, u16, rfl⟩ := rog 17 h9 rfl; clear h9; simp only [DepG, AtG, and_true, relG, eqG, eqG1, eqG2, eqG3, gdG, gdG1, gnG, gnG1, List.getD_cons_zero, List.getD_cons_succ, List.getElem?_cons_succ, List.getElem?_cons_zero, Option.map_some, Option.getD_some, valsG, List.map_cons, List.map_nil, List.length_cons, List.length_nil] at hd; obtain ⟨d6, d7⟩ := hd; subst d6; subst d7; clear hs; simp only [fillG, List.set_cons_zero, List.set_cons_succ]; have hKW := Keep.tr (Keep.dr (Keep.rf _)) (hE rfl); have b0 := Keep.cell hKW b0; have hqc := Keep.cell hKW hqc; refine want_n rfl ?_; go_wp2_with (first | fail); simp only [DoneG, fillG, List.set_cons_zero, List.set_cons_succ, relG, eqG, eqG1, eqG2, eqG3, gdG, gdG1, gnG, gnG1, List.getD_cons_zero, List.getD_cons_succ, List.getElem?_cons_succ, List.getElem?_cons_zero, Option.map_some, Option.getD_some, valsG, List.map_cons, List.map_nil, List.length_cons, List.length_nil]; exact ⟨_, rfl, (by first | with_reducible assumption | exact krg _ | exact Keep.al (krg _) _), fun _ _ => rfl⟩)
        · (intro us W h9 hW hE hd hs K hK; obtain ⟨u0, u1, u2, u3, u4, u5, u6, u7, u8, u9, u10, u11, u12, u13, u14, u15, u16, rfl⟩ := rog 17 h9 rfl; clear h9; clear hd; clear hs; simp only [fillG, List.set_cons_zero, List.set_cons_succ]; refine want_n rfl ?_; go_wp2_with (first | fail); simp only [DoneG, fillG, List.set_cons_zero, List.set_cons_succ, relG, eqG, eqG1, eqG2, eqG3, gdG, gdG1, gnG, gnG1, List.getD_cons_zero, List.getD_cons_succ, List.getElem?_cons_succ, List.getElem?_cons_zero, Option.map_some, Option.getD_some, valsG, List.map_cons, List.map_nil, List.length_cons, List.length_nil]; exact ⟨_, rfl, (by first | with_reducible assumption | exact krg _ | exact Keep.al (krg _) _), fun _ _ => rfl⟩)
        · (intro us W h9 hW hE hd hs K hK; obtain ⟨u0, u1, u2, u3, u4, u5, u6, u7, u8, u9, u10, u11, u12, u13, u14, u15, u16, rfl⟩ := rog 17 h9 rfl; clear h9; simp only [DepG, AtG, and_true, relG, eqG, eqG1, eqG2, eqG3, gdG, gdG1, gnG, gnG1, List.getD_cons_zero, List.getD_cons_succ, List.getElem?_cons_succ, List.getElem?_cons_zero, Option.map_some, Option.getD_some, valsG, List.map_cons, List.map_nil, List.length_cons, List.length_nil] at hd; obtain ⟨d8, d9⟩ := hd; subst d8; subst d9; clear hs; simp only [fillG, List.set_cons_zero, List.set_cons_succ]; have hKW := Keep.tr (Keep.dr (Keep.rf _)) (hE rfl); have b0 := Keep.cell hKW b0; have hqc := Keep.cell hKW hqc; refine want_n rfl ?_; go_wp2_with (first | fail); simp only [DoneG, fillG, List.set_cons_zero, List.set_cons_succ, relG, eqG, eqG1, eqG2, eqG3, gdG, gdG1, gnG, gnG1, List.getD_cons_zero, List.getD_cons_succ, List.getElem?_cons_succ, List.getElem?_cons_zero, Option.map_some, Option.getD_some, valsG, List.map_cons, List.map_nil, List.length_cons, List.length_nil]; exact ⟨_, rfl, (by first | with_reducible assumption | exact krg _ | exact Keep.al (krg _) _), fun _ _ => rfl⟩)
        · (intro us W h9 hW hE hd hs K hK; obtain ⟨u0, u1, u2, u3, u4, u5, u6, u7, u8, u9, u10, u11, u12, u13, u14, u15, u16, rfl⟩ := rog 17 h9 rfl; clear h9; simp only [DepG, AtG, and_true, relG, eqG, eqG1, eqG2, eqG3, gdG, gdG1, gnG, gnG1, List.getD_cons_zero, List.getD_cons_succ, List.getElem?_cons_succ, List.getElem?_cons_zero, Option.map_some, Option.getD_some, valsG, List.map_cons, List.map_nil, List.length_cons, List.length_nil] at hd; obtain ⟨d3, d10⟩ := hd; subst d3; subst d10; clear hs; simp only [fillG, List.set_cons_zero, List.set_cons_succ]; refine want_n rfl ?_; go_wp2_with (first | fail); simp only [DoneG, fillG, List.set_cons_zero, List.set_cons_succ, relG, eqG, eqG1, eqG2, eqG3, gdG, gdG1, gnG, gnG1, List.getD_cons_zero, List.getD_cons_succ, List.getElem?_cons_succ, List.getElem?_cons_zero, Option.map_some, Option.getD_some, valsG, List.map_cons, List.map_nil, List.length_cons, List.length_nil]; exact ⟨_, rfl, (by first | with_reducible assumption | exact krg _ | exact Keep.al (krg _) _), fun _ _ => rfl⟩)
        · (intro us W h9 hW hE hd hs K hK; obtain ⟨u0, u1, u2, u3, u4, u5, u6, u7, u8, u9, u10, u11, u12, u13, u14, u15, u16, rfl⟩ := rog 17 h9 rfl; clear h9; simp only [DepG, AtG, and_true, relG, eqG, eqG1, eqG2, eqG3, gdG, gdG1, gnG, gnG1, List.getD_cons_zero, List.getD_cons_succ, List.getElem?_cons_succ, List.getElem?_cons_zero, Option.map_some, Option.getD_some, valsG, List.map_cons, List.map_nil, List.length_cons, List.length_nil] at hd; have d11 := hd; clear hd; subst d11; clear hs; simp only [fillG, List.set_cons_zero, List.set_cons_succ]; have hKW := Keep.tr (Keep.dr (Keep.rf _)) (hE rfl); have b0 := Keep.cell hKW b0; have hqc := Keep.cell hKW hqc; refine want_n rfl ?_; go_wp2_with (first | fail); simp only [DoneG, fillG, List.set_cons_zero, List.set_cons_succ, relG, eqG, eqG1, eqG2, eqG3, gdG, gdG1, gnG, gnG1, List.getD_cons_zero, List.getD_cons_succ, List.getElem?_cons_succ, List.getElem?_cons_zero, Option.map_some, Option.getD_some, valsG, List.map_cons, List.map_nil, List.length_cons, List.length_nil]; exact ⟨_, rfl, (by first | with_reducible assumption | exact krg _ | exact Keep.al (krg _) _), fun _ _ => rfl⟩)
        · (intro us W h9 hW hE hd hs K hK; obtain ⟨u0, u1, u2, u3, u4, u5, u6, u7, u8, u9, u10, u11, u12, u13, u14, u15, u16, rfl⟩ := rog 17 h9 rfl; clear h9; clear hd; clear hs; simp only [fillG, List.set_cons_zero, List.set_cons_succ]; refine want_n rfl ?_; go_wp2_with (first | fail); simp only [DoneG, fillG, List.set_cons_zero, List.set_cons_succ, relG, eqG, eqG1, eqG2, eqG3, gdG, gdG1, gnG, gnG1, List.getD_cons_zero, List.getD_cons_succ, List.getElem?_cons_succ, List.getElem?_cons_zero, Option.map_some, Option.getD_some, valsG, List.map_cons, List.map_nil, List.length_cons, List.length_nil]; exact ⟨_, rfl, (by first | with_reducible assumption | exact krg _ | exact Keep.al (krg _) _), fun _ _ => rfl⟩)
        · (intro us W h9 hW hE hd hs K hK; obtain ⟨u0, u1, u2, u3, u4, u5, u6, u7, u8, u9, u10, u11, u12, u13, u14, u15, u16, rfl⟩ := rog 17 h9 rfl; clear h9; simp only [DepG, AtG, and_true, relG, eqG, eqG1, eqG2, eqG3, gdG, gdG1, gnG, gnG1, List.getD_cons_zero, List.getD_cons_succ, List.getElem?_cons_succ, List.getElem?_cons_zero, Option.map_some, Option.getD_some, valsG, List.map_cons, List.map_nil, List.length_cons, List.length_nil] at hd; obtain ⟨d12, d13⟩ := hd; subst d12; subst d13; clear hs; simp only [fillG, List.set_cons_zero, List.set_cons_succ]; have hKW := Keep.tr (Keep.dr (Keep.rf _)) (hE rfl); have b0 := Keep.cell hKW b0; have hqc := Keep.cell hKW hqc; refine want_n rfl ?_; go_wp2_with (first | fail); simp only [DoneG, fillG, List.set_cons_zero, List.set_cons_succ, relG, eqG, eqG1, eqG2, eqG3, gdG, gdG1, gnG, gnG1, List.getD_cons_zero, List.getD_cons_succ, List.getElem?_cons_succ, List.getElem?_cons_zero, Option.map_some, Option.getD_some, valsG, List.map_cons, List.map_nil, List.length_cons, List.length_nil]; exact ⟨_, rfl, (by first | with_reducible assumption | exact krg _ | exact Keep.al (krg _) _), fun _ _ => rfl⟩)
        · (intro us W h9 hW hE hd hs K hK; obtain ⟨u0, u1, u2, u3, u4, u5, u6, u7, u8, u9, u10, u11, u12, u13, u14, u15, u16, rfl⟩ := rog 17 h9 rfl; clear h9; simp only [DepG, AtG, and_true, relG, eqG, eqG1, eqG2, eqG3, gdG, gdG1, gnG, gnG1, List.getD_cons_zero, List.getD_cons_succ, List.getElem?_cons_succ, List.getElem?_cons_zero, Option.map_some, Option.getD_some, valsG, List.map_cons, List.map_nil, List.length_cons, List.length_nil] at hd; obtain ⟨d3, d10⟩ := hd; subst d3; subst d10; clear hs; simp only [fillG, List.set_cons_zero, List.set_cons_succ]; refine want_n rfl ?_; go_wp2_with (first | fail); simp only [DoneG, fillG, List.set_cons_zero, List.set_cons_succ, relG, eqG, eqG1, eqG2, eqG3, gdG, gdG1, gnG, gnG1, List.getD_cons_zero, List.getD_cons_succ, List.getElem?_cons_succ, List.getElem?_cons_zero, Option.map_some, Option.getD_some, valsG, List.map_cons, List.map_nil, List.length_cons, List.length_nil]; exact ⟨_, rfl, (by first | with_reducible assumption | exact krg _ | exact Keep.al (krg _) _), fun _ _ => rfl⟩)
      (intro us W2 h9 hW hE hA hl9; obtain ⟨u0, u1, u2, u3, u4, u5, u6, u7, u8, u9, u10, u11, u12, u13, u14, u15, u16, rfl⟩ := rog 17 h9 rfl; clear h9; clear hl9; simp only [AllG, AtG, and_true, relG, eqG, eqG1, eqG2, eqG3, gdG, gdG1, gnG, gnG1, List.getD_cons_zero, List.getD_cons_succ, List.getElem?_cons_succ, List.getElem?_cons_zero, Option.map_some, Option.getD_some, valsG, List.map_cons, List.map_nil, List.length_cons, List.length_nil] at hA; obtain ⟨d14, d15⟩ := hA; subst d14; subst d15; simp only [fillG, List.set_cons_zero, List.set_cons_succ]; have k2 := Keep.tr (Keep.dr (Keep.rf _)) hW; clear hW hE; refine want_n rfl ?_)
      have qc2 := Keep.cell k2 hqc
      have qf2 := k2.frozen (a := ⟨gb, q, none⟩) hgb hqf
      have f1 := Frm.cell (Frm.st (S := (· = gb)) (Frm.rf _ W2) (p := ⟨gb, q, none⟩) (.inl rfl) (.int .u8 ((lq ^^^ b).toNat : Int))) (a := ⟨g, k * 2 + 1, none⟩) (fun e => hgne (Eq.symm e)) (Keep.cell k2 b1)
      have f4 := k2.frozen (a := ⟨g, k * 2 + 1, none⟩) hgl f3
      have f5 := Keep.cell k2 b1
      have HA := hide (HP.out _ k2)
      clear HP b0 b1 f3 hqc hqf hq2 hx
      go_wp2
      go_ret
      exact ⟨by simp; omega, by rw [HS.out, HT.out]; exact HA.out⟩
set_option maxHeartbeats 1000000 in
theorem netSpoilNo {p : Nat} {S : Nat → Prop} {R : Em.Nt} (w : World) (h : NetP w p S R) (way i a : Int) (b : UInt8) (hr : R.has way i = false) : Calls Try.prog 25 #[.pointer (some ⟨p, 0, none⟩), .int .i64 way, .int .i64 i, .int .i64 a, .int .u8 (b.toNat : Int)] w fun e w' => e = .returned (.bool (R.spoils way i)) ∧ AftP w p S (R.spoil way i a b) w' := by
  have his := netIs w h way i
  have h0 : R.spoils way i = false := by rw [Em.Nt.spoils, hr]; rfl
  have hs : R.spoil way i a b = R := by rw [Em.Nt.spoil, h0]; rfl
  rw [hs, h0]
  rw [hr] at his
  have HA := hide fun W (k : Keep w W) => h.after k
  clear h hs h0 hr
  go_enter Try.func25, Try.ntmps25
  go_wp2_with fail
  refine his.mono ?_
  rintro e w' ⟨rfl, rfl⟩
  go_wp2_with fail
  go_ret
  exact ⟨rfl, HA.out _ (by repeat (first | exact Keep.rf _ | assumption | apply Keep.al | apply Keep.dr | apply Keep.dn))⟩
theorem netSpoil {p : Nat} {S : Nat → Prop} {R : Em.Nt} (w : World) (h : NetP w p S R) (way i a : Int) (ha : (Lit.int .i64 a).wf = true) (b : UInt8) (hsm : ∀ j, ∀ m ∈ R j, m.1.length ≤ 1000000) : Calls Try.prog 25 #[.pointer (some ⟨p, 0, none⟩), .int .i64 way, .int .i64 i, .int .i64 a, .int .u8 (b.toNat : Int)] w fun e w' => e = .returned (.bool (R.spoils way i)) ∧ AftP w p S (R.spoil way i a b) w' := by
  cases hr : R.has way i with
  | false => exact netSpoilNo w h way i a b hr
  | true =>
    obtain ⟨j, k, rfl, rfl, hj, hk⟩ := has_lt hr
    rcases hj with rfl | rfl
    · exact netSpoil0 w h k hk hr a (hsm 0) ha b
    · exact netSpoil1 w h k hk hr a (hsm 1) ha b
end Go.Proofs.Ytjhndioapcneoaa
