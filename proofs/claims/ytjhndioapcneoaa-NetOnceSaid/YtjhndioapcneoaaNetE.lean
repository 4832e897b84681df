/- The law NetOnce: walk. -/
import Derived.Test.YtjhndioapcneoaaNetL
import Derived.Test.YtjhndioapcneoaaReg
namespace Go.Proofs.Ytjhndioapcneoaa
open Go.RowKit
set_option linter.unusedVariables false
set_option linter.unusedSimpArgs false
set_option maxRecDepth 100000
set_option maxHeartbeats 1000000 in
theorem nilTake (w : World) : Calls Try.prog 17 #[.pointer none, .int .i64 0, .int .i64 0] w fun e w' => e = .returned (.tuple #[.slice none 0 0, .bool false]) ∧ Keep w w' := by
  have his : Calls Try.prog 42 #[.pointer none, .int .i64 0, .int .i64 0] w fun e w' => e = .returned (.bool false) ∧ w = w' := by
    go_enter Try.func42, Try.ntmps42
    go_wp2
    go_ret
    exact ⟨rfl, rfl⟩
  go_enter Try.func17, Try.ntmps17
  go_wp2_with fail
  refine his.mono ?_
  rintro e w' ⟨rfl, rfl⟩
  go_wp2_with fail
  go_ret2
  exact ⟨rfl, (by repeat (first | exact Keep.rf _ | assumption | apply Keep.al | apply Keep.dr | apply Keep.dn))⟩
theorem nilIs (w : World) : Calls Try.prog 42 #[.pointer none, .int .i64 0, .int .i64 0] w fun e w' => e = .returned (.bool false) ∧ w = w' := by
  go_enter Try.func42, Try.ntmps42
  go_wp2
  go_ret
  exact ⟨rfl, rfl⟩
theorem nilSend (w : World) (v : Value) (m : List UInt8) (hv : Bs w v m) : Calls Try.prog 16 #[.pointer none, .int .i64 0, v] w fun e w' => e = .returned (.bool false) ∧ Keep w w' := by
  have hr : Calls Try.prog 40 #[.pointer none, .int .i64 0] w fun e w' => e = .returned (.bool false) ∧ w = w' := by
    go_enter Try.func40, Try.ntmps40
    go_wp2
    go_ret
    exact ⟨rfl, rfl⟩
  obtain ⟨A, c, rfl, _⟩ := hv
  go_enter Try.func16, Try.ntmps16
  go_wp2_with fail
  refine hr.mono ?_
  rintro e w' ⟨rfl, rfl⟩
  go_wp2_with fail
  go_ret
  exact ⟨rfl, (by repeat (first | exact Keep.rf _ | assumption | apply Keep.al | apply Keep.dr | apply Keep.dn))⟩
theorem nilDrop (w : World) : Calls Try.prog 21 #[.pointer none, .int .i64 0, .int .i64 0] w fun e w' => e = .returned (.bool false) ∧ Keep w w' := by
  go_enter Try.func21, Try.ntmps21
  go_wp2_with fail
  refine (nilTake _).mono ?_
  rintro e w' ⟨rfl, k⟩
  go_wp2_with fail
  go_ret
  exact ⟨rfl, k⟩
theorem nilTwice (w : World) : Calls Try.prog 19 #[.pointer none, .int .i64 0, .int .i64 0] w fun e w' => e = .returned (.bool false) ∧ Keep w w' := by
  go_enter Try.func19, Try.ntmps19
  go_wp2_with fail
  refine (nilIs _).mono ?_
  rintro e w' ⟨rfl, rfl⟩
  go_wp2_with fail
  go_ret
  exact ⟨rfl, (by repeat (first | exact Keep.rf _ | assumption | apply Keep.al | apply Keep.dr | apply Keep.dn))⟩
theorem nilSpoil (w : World) : Calls Try.prog 25 #[.pointer none, .int .i64 0, .int .i64 0, .int .i64 0, .int .u8 1] w fun e w' => e = .returned (.bool false) ∧ Keep w w' := by
  go_enter Try.func25, Try.ntmps25
  go_wp2_with fail
  refine (nilIs _).mono ?_
  rintro e w' ⟨rfl, rfl⟩
  go_wp2_with fail
  go_ret
  exact ⟨rfl, (by repeat (first | exact Keep.rf _ | assumption | apply Keep.al | apply Keep.dr | apply Keep.dn))⟩
theorem nilLen (w : World) : Calls Try.prog 20 #[.pointer none, .int .i64 0] w fun e w' => e = .returned (.int .i64 0) ∧ Keep w w' := by
  go_enter Try.func20, Try.ntmps20
  go_wp2
  go_ret
  exact ⟨rfl, (by repeat (first | exact Keep.rf _ | assumption | apply Keep.al | apply Keep.dr | apply Keep.dn))⟩
/-- One message on the way 0, or two alike. -/
def R1 (l : List Em.Msg) : Em.Nt := Em.Nt.put (fun _ => []) 0 l
theorem R1_row (l : List Em.Msg) : (R1 l).row 0 = l := by
  unfold R1 Em.Nt.put Em.Nt.row
  rw [up_at]
theorem R1_put (l l' : List Em.Msg) : (R1 l).put 0 l' = R1 l' := up_up _ _ _ _
theorem R1_has (l : List Em.Msg) (i : Nat) : (R1 l).has 0 i = decide (i < l.length) := by
  unfold Em.Nt.has
  rw [R1_row, decide_eq_decide]
  exact ⟨fun h => Int.ofNat_lt.1 h.2.2, fun h => ⟨.inl rfl, Int.natCast_nonneg i, Int.ofNat_lt.2 h⟩⟩
theorem R1_room (l : List Em.Msg) : (R1 l).room 0 = decide (l.length < 64) := by
  unfold Em.Nt.room
  rw [R1_row, decide_eq_decide]
  exact ⟨fun h => h.2, fun h => ⟨.inl rfl, h⟩⟩
theorem R1_at (l : List Em.Msg) (i : Nat) : (R1 l).at 0 i = l.getD i ([], false) := by
  unfold Em.Nt.at
  rw [R1_row, Int.toNat_natCast]
theorem R1_spoils (l : List Em.Msg) (i : Nat) (m : Em.Msg) (h : l[i]? = some m) : (R1 l).spoils 0 i = (!m.2 && decide (0 < m.1.length)) := by
  unfold Em.Nt.spoils
  rw [R1_has, R1_at, decide_eq_true (List.getElem?_eq_some_iff.1 h).1, List.getD_eq_getElem?_getD, h]
  rfl
theorem R1_spoil (m : List UInt8) (a : Int) (b : UInt8) (h : 0 < m.length) : (R1 [(m, false)]).spoil 0 0 a b = R1 [(Em.turn m a b, true)] := by
  unfold Em.Nt.spoil
  rw [show (R1 [(m, false)]).spoils 0 0 = true from (R1_spoils [(m, false)] 0 (m, false) rfl).trans (by simp; exact h), if_pos rfl, R1_row, show (R1 [(m, false)]).at 0 0 = (m, false) from R1_at [(m, false)] 0]
  exact R1_put _ _
theorem spoil_not {R : Em.Nt} {w i a : Int} {b : UInt8} (h : R.spoils w i = false) : R.spoil w i a b = R := by
  unfold Em.Nt.spoil
  rw [h]
  rfl
theorem R1_twice (m : Em.Msg) : (R1 [m]).twice 0 0 = R1 [m, m] := by
  unfold Em.Nt.twice
  rw [show (R1 [m]).has 0 0 = true from (R1_has [m] 0).trans (by simp), R1_room, R1_row, show (R1 [m]).at 0 0 = m from R1_at [m] 0]
  exact R1_put _ _
theorem R1_got (m : Em.Msg) (l : List Em.Msg) : (R1 (m :: l)).got 0 0 = m.1 := by
  unfold Em.Nt.got
  rw [show (R1 (m :: l)).has 0 0 = true from (R1_has (m :: l) 0).trans (by simp), if_pos rfl, show (R1 (m :: l)).at 0 0 = m from R1_at (m :: l) 0]
/-- How many bytes differ, so far. -/
def dif (q : Nat) (b : UInt8) (i : Nat) : Nat := if b ≠ 0 ∧ q < i then 1 else 0
theorem turn_len (m : List UInt8) (a : Int) (b : UInt8) : (Em.turn m a b).length = m.length := by simp [Em.turn]
theorem xor_same (x b : UInt8) (h : x ^^^ b = x) : b = 0 := by
  have : x ^^^ (x ^^^ b) = x ^^^ x := by rw [h]
  rwa [← UInt8.xor_assoc, UInt8.xor_self, UInt8.zero_xor] at this
theorem turn_get (m : List UInt8) (a : Int) (b : UInt8) (i : Nat) (hi : i < m.length) : (Em.turn m a b)[i]? = some (if i = (a % (m.length : Int)).toNat then m[i] ^^^ b else m[i]) := by
  unfold Em.turn
  by_cases e : i = (a % (m.length : Int)).toNat
  · rw [if_pos e, ← e, List.getElem?_set_self hi, List.getD_eq_getElem?_getD, List.getElem?_eq_getElem hi]
    rfl
  · rw [if_neg e, List.getElem?_set_ne (Ne.symm e), List.getElem?_eq_getElem hi]
theorem dif_on (q : Nat) (b : UInt8) (i : Nat) : dif q b (i + 1) = dif q b i + (if b ≠ 0 ∧ i = q then 1 else 0) := by
  unfold dif
  by_cases hb : b = 0
  · simp [hb]
  · by_cases e : i = q
    · simp [hb, e]
    · by_cases h : q < i
      · rw [if_pos ⟨hb, by omega⟩, if_pos ⟨hb, h⟩, if_neg (fun h => e h.2)]
      · rw [if_neg (fun h2 => by omega), if_neg (fun h2 => h h2.2), if_neg (fun h => e h.2)]
theorem send_first (m : List UInt8) : Em.Nt.send (fun _ => []) 0 m = R1 [(m, false)] := by
  unfold Em.Nt.send
  rw [show Em.Nt.room (fun _ => []) 0 = true from rfl, if_pos rfl]
  rfl
theorem R1_small (l : List Em.Msg) (h : ∀ m ∈ l, m.1.length ≤ 1000000) : Small (R1 l) := small_nil.put 0 h
set_option maxHeartbeats 8000000 in
theorem NetOnce_walk (w : World) (v : Value) (m : List UInt8) (hv : Bs w v m) (hz : m.length ≤ 140737488351232) (a : Int) (ha : (Lit.int .i64 a).wf = true) (n : Int) (hn : (Lit.int .u8 n).wf = true) (two : Bool) : Calls Try.prog 6 #[v, .int .i64 a, .int .u8 n, .bool two] w fun e w' => e = .returned (.bool true) ∧ Keep w w' := by
  obtain ⟨b, rfl⟩ := in_u8 hn
  clear hn hz
  have hv0 := hv
  obtain ⟨A, c, rfl, hv1, hv2, hv3⟩ := hv0
  by_cases h1 : m.length < 1
  · go_enter Try.func6, Try.ntmps6
    go_wp2
    go_ret
    exact ⟨rfl, (by repeat (first | exact Keep.rf _ | assumption | apply Keep.al | apply Keep.dr | apply Keep.dn))⟩
  by_cases h2 : 50 < m.length
  · go_enter Try.func6, Try.ntmps6
    go_wp2
    go_ret
    exact ⟨rfl, (by repeat (first | exact Keep.rf _ | assumption | apply Keep.al | apply Keep.dr | apply Keep.dn))⟩
  obtain ⟨ad, rfl, hvc⟩ := hv3 (by omega)
  have hm0 : 0 < m.length := by omega
  have hqm : (a % (m.length : Int)).toNat < m.length := by
    have := Int.emod_lt_of_pos a (show (0 : Int) < (m.length : Int) by omega)
    have := Int.emod_nonneg a (show (m.length : Int) ≠ 0 by omega)
    omega
  obtain ⟨q, hq⟩ : ∃ q, q = (a % (m.length : Int)).toNat := ⟨_, rfl⟩
  have HQ := hide hq
  rw [← hq] at hqm
  clear hq
  have hb0 : (¬ b ≠ 0 ∧ ((b.toNat : Int) != 0) = false) ∨ (b ≠ 0 ∧ ((b.toNat : Int) != 0) = true) := by
    by_cases e : b = 0
    · subst e; exact .inl ⟨fun h => h rfl, rfl⟩
    · refine .inr ⟨e, ?_⟩
      rw [bne_iff_ne]
      intro h
      exact e (UInt8.toNat_inj.1 (by simpa using h))
  have HSF := hide (send_first m)
  have HS1 := hide (show (R1 [(m, false)]).spoils 0 0 = true from (R1_spoils [(m, false)] 0 (m, false) rfl).trans (by simp; exact hm0))
  have HSP := hide (R1_spoil m a b hm0)
  have HS2 := hide (show (R1 [(Em.turn m a b, true)]).spoils 0 0 = false from (R1_spoils [(Em.turn m a b, true)] 0 (Em.turn m a b, true) rfl).trans rfl)
  have HS3 := hide (show (R1 [(Em.turn m a b, true), (Em.turn m a b, true)]).spoils 0 1 = false from (R1_spoils [(Em.turn m a b, true), (Em.turn m a b, true)] 1 (Em.turn m a b, true) rfl).trans rfl)
  have HTW := hide (R1_twice (Em.turn m a b, true))
  have HT1 := hide (show ((R1 [(Em.turn m a b, true)]).has 0 0 && (R1 [(Em.turn m a b, true)]).room 0) = true from by rw [show (R1 [(Em.turn m a b, true)]).has 0 0 = true from (R1_has [(Em.turn m a b, true)] 0).trans (by simp), R1_room]; simp)
  have HGOT4 := hide (R1_got (Em.turn m a b, true) [])
  have HHAS4 := hide (show (R1 [(Em.turn m a b, true)]).has 0 0 = true from (R1_has [(Em.turn m a b, true)] 0).trans (by simp))
  have HGOT6 := hide (R1_got (Em.turn m a b, true) [(Em.turn m a b, true)])
  have HHAS6 := hide (show (R1 [(Em.turn m a b, true), (Em.turn m a b, true)]).has 0 0 = true from (R1_has [(Em.turn m a b, true), (Em.turn m a b, true)] 0).trans (by simp))
  have SM1 := hide (R1_small [(m, false)] (by simp; omega))
  have SM2 := hide (R1_small [(Em.turn m a b, true)] (by simp [turn_len]; omega))
  have SM3 := hide (R1_small [(Em.turn m a b, true), (Em.turn m a b, true)] (by simp [turn_len]; omega))
  go_enter Try.func6, Try.ntmps6
  go_wp2_with fail
  refine (spNew w _ (by repeat (first | exact Keep.rf _ | assumption | apply Keep.al | apply Keep.dr | apply Keep.dn))).mono ?_
  rintro e w1 ⟨p, rfl, s1⟩
  go_wp2_with fail
  refine (spSend s1 0 _ m (hv.keep s1.k) (by omega)).mono ?_
  rintro e w2 ⟨rfl, s2⟩
  rw [HSF.out] at s2
  rw [show Em.Nt.room (fun _ => []) 0 = true from rfl]
  go_wp2_with fail
  refine (spSpoil s2 0 0 a ha b SM1.out).mono ?_
  rintro e w3 ⟨rfl, s3⟩
  rw [HSP.out] at s3
  rw [HS1.out]
  go_wp2_with fail
  refine (spSpoil s3 0 0 a ha b SM2.out).mono ?_
  rintro e w4 ⟨rfl, s4⟩
  rw [spoil_not HS2.out] at s4
  rw [HS2.out]
  cases two with
  | false =>
    go_wp2_with fail
    refine (spTake s4 0 0).mono ?_
    rintro e w5 ⟨xA, xn, xc, rfl, hb, s5⟩
    rw [HGOT4.out] at hb
    rw [HHAS4.out]
    have hbl := hb
    obtain ⟨xA', xc', hxe, hx1, hx2, hx3⟩ := hb
    injection hxe with e1 e2 e3
    subst e1 e2 e3
    have hxl := turn_len m a b
    have HTG := hide (turn_get m a b)
    obtain ⟨xad, rfl, hxc⟩ := hx3 (by omega)
    rw [hxl] at hx1
    clear hbl hx3
    generalize Em.turn m a b = X at *
    rw [hxl]
    go_wp2_with fail
    go_loopw [12, 13] (fun d i W => ∃ k : Nat, k ≤ m.length ∧ i = .int .i64 k ∧ d = .int .i64 (dif q b k : Int) ∧ Keep w5 W) (fun _ i _ => m.length - (intOf i).toNat)
    case atStart => exact ⟨0, Nat.zero_le _, rfl, by rw [show dif q b 0 = 0 from by simp [dif]]; rfl, Keep.rf _⟩
    case round =>
      obtain ⟨k, hk, rfl, rfl, hkw⟩ := hrel
      by_cases hlt : k < m.length
      · have hlti : (decide ((k : Int) < (m.length : Int))) = true := by simp; omega
        have c0 := Keep.cell (Keep.tr s5.k hkw) (hvc k hlt)
        have d0 := Keep.cell hkw (hxc k (by rw [hxl]; exact hlt))
        have hg := HTG.out k hlt
        rw [List.getElem?_eq_getElem (by rw [hxl]; exact hlt)] at hg
        injection hg with hg
        rw [hg] at d0
        have HD := hide (dif_on q b k)
        rw [← HQ.out] at d0
        by_cases hkq : k = q ∧ b ≠ 0
        · have hne : ((m[k] ^^^ b).toNat : Int) ≠ (m[k].toNat : Int) := fun e => hkq.2 (xor_same m[k] b (UInt8.toNat_inj.1 (by omega)))
          rw [if_pos hkq.1] at d0
          have HD2 := hide (show dif q b (k + 1) = dif q b k + 1 from by rw [HD.out, if_pos ⟨hkq.2, hkq.1⟩])
          have hdb : dif q b k ≤ 1 := by unfold dif; split <;> omega
          have hneb : (((m[k] ^^^ b).toNat : Int) != (m[k].toNat : Int)) = true := by rw [bne_iff_ne]; exact hne
          clear hkq
          generalize m[k] ^^^ b = y at *
          generalize m[k] = z at *
          generalize dif q b k = d at *
          simp only [bv] at c0 d0
          go_wp2_with fail
          apply region_all (by kernel_rfl) Keep Keep krg ktg krg ktg (fun _ _ h => h) [some 76, some 77, some 78, some 79, some 80, some 81, some 82, some 83, some 84] [eqG _ , eqG _ , eqG _ , eqG _ , eqG _ , eqG _ , eqG _ , eqG _ , eqG _ ] [⟨[], [], true, false, false⟩, ⟨[], [], true, false, false⟩, ⟨[0, 1], [], true, false, false⟩, ⟨[2], [], true, false, false⟩, ⟨[], [], true, false, false⟩, ⟨[], [], true, false, false⟩, ⟨[4, 5], [], true, false, false⟩, ⟨[6], [], true, false, false⟩, ⟨[3, 7], [], true, false, false⟩] [8] (by kernel_rfl) (by kernel_rfl) 
          · refine ⟨?_, ?_, ?_, ?_, ?_, ?_, ?_, ?_, ?_, trivial⟩
            · (intro us W h9 hW hE hd hs K hK; obtain ⟨u0, u1, u2, u3, u4, u5, u6, u7, u8, rfl⟩ := rog 9 h9 rfl; clear h9; clear hd; clear hs; simp only [fillG, List.set_cons_zero, List.set_cons_succ]; refine want_n rfl ?_; go_wp2_with (first | fail); simp only [DoneG, fillG, List.set_cons_zero, List.set_cons_succ, relG, eqG, eqG1, eqG2, eqG3, gdG, gdG1, gnG, gnG1, List.getD_cons_zero, List.getD_cons_succ, List.getElem?_cons_succ, List.getElem?_cons_zero, Option.map_some, Option.getD_some, valsG, List.map_cons, List.map_nil, List.length_cons, List.length_nil]; exact ⟨_, rfl, (by first | with_reducible assumption | exact krg _ | exact Keep.al (krg _) _), fun _ _ => rfl⟩)
            · (intro us W h9 hW hE hd hs K hK; obtain ⟨u0, u1, u2, u3, u4, u5, u6, u7, u8, rfl⟩ := rog 9 h9 rfl; clear h9; clear hd; clear hs; simp only [fillG, List.set_cons_zero, List.set_cons_succ]; refine want_n rfl ?_; go_wp2_with (first | fail); simp only [DoneG, fillG, List.set_cons_zero, List.set_cons_succ, relG, eqG, eqG1, eqG2, eqG3, gdG, gdG1, gnG, gnG1, List.getD_cons_zero, List.getD_cons_succ, List.getElem?_cons_succ, List.getElem?_cons_zero, Option.map_some, Option.getD_some, valsG, List.map_cons, List.map_nil, List.length_cons, List.length_nil]; exact ⟨_, rfl, (by first | with_reducible assumption | exact krg _ | exact Keep.al (krg _) _), fun _ _ => rfl⟩)
            · (intro us W h9 hW hE hd hs K hK; obtain ⟨u0, u1, u2, u3, u4, u5, u6, u7, u8, rfl⟩ := rog 9 h9 rfl; clear h9; simp only [DepG, AtG, and_true, relG, eqG, eqG1, eqG2, eqG3, gdG, gdG1, gnG, gnG1, List.getD_cons_zero, List.getD_cons_succ, List.getElem?_cons_succ, List.getElem?_cons_zero, Option.map_some, Option.getD_some, valsG, List.map_cons, List.map_nil, List.length_cons, List.length_nil] at hd; obtain ⟨d0, d1⟩ := hd; subst d0; subst d1; clear hs; simp only [fillG, List.set_cons_zero, List.set_cons_succ]; refine want_n rfl ?_; go_wp2_with (first | fail); simp only [DoneG, fillG, List.set_cons_zero, List.set_cons_succ, relG, eqG, eqG1, eqG2, eqG3, gdG, gdG1, gnG, gnG1, List.getD_cons_zero, List.getD_cons_succ, List.getElem?_cons_succ, List.getElem?_cons_zero, Option.map_some, Option.getD_some, valsG, List.map_cons, List.map_nil, List.length_cons, List.length_nil]; exact ⟨_, rfl, (by first | with_reducible assumption | exact krg _ | exact Keep.al (krg _) _), fun _ _ => rfl⟩)
            · (intro us W h9 hW hE hd hs K hK; obtain ⟨u0, u1, u2, u3, u4, u5, u6, u7, u8, rfl⟩ := rog 9 h9 rfl; clear h9; simp only [DepG, AtG, and_true, relG, eqG, eqG1, eqG2, eqG3, gdG, gdG1, gnG, gnG1, List.getD_cons_zero, List.getD_cons_succ, List.getElem?_cons_succ, List.getElem?_cons_zero, Option.map_some, Option.getD_some, valsG, List.map_cons, List.map_nil, List.length_cons, List.length_nil] at hd; have d2 := hd; clear hd; subst d2; clear hs; simp only [fillG, List.set_cons_zero, List.set_cons_succ]; have hKW := Keep.tr (Keep.dr (Keep.rf _)) (hE rfl); have c0 := Keep.cell hKW c0; have d0 := Keep.cell hKW d0; refine want_n rfl ?_; go_wp2_with (first | fail); simp only [DoneG, fillG, List.set_cons_zero, List.set_cons_succ, relG, eqG, eqG1, eqG2, eqG3, gdG, gdG1, gnG, gnG1, List.getD_cons_zero, List.getD_cons_succ, List.getElem?_cons_succ, List.getElem?_cons_zero, Option.map_some, Option.getD_some, valsG, List.map_cons, List.map_nil, List.length_cons, List.length_nil]; exact ⟨_, rfl, (by first | with_reducible assumption | exact krg _ | exact Keep.al (krg _) _), fun _ _ => rfl⟩)
            · (intro us W h9 hW hE hd hs K hK; obtain ⟨u0, u1, u2, u3, u4, u5, u6, u7, u8, rfl⟩ := rog 9 h9 rfl; clear h9; clear hd; clear hs; simp only [fillG, List.set_cons_zero, List.set_cons_succ]; refine want_n rfl ?_; go_wp2_with (first | fail); simp only [DoneG, fillG, List.set_cons_zero, List.set_cons_succ, relG, eqG, eqG1, eqG2, eqG3, gdG, gdG1, gnG, gnG1, List.getD_cons_zero, List.getD_cons_succ, List.getElem?_cons_succ, List.getElem?_cons_zero, Option.map_some, Option.getD_some, valsG, List.map_cons, List.map_nil, List.length_cons, List.length_nil]; exact ⟨_, rfl, (by first | with_reducible assumption | exact krg _ | exact Keep.al (krg _) _), fun _ _ => rfl⟩)
            · (intro us W h9 hW hE hd hs K hK; obtain ⟨u0, u1, u2, u3, u4, u5, u6, u7, u8, rfl⟩ := rog 9 h9 rfl; clear h9; clear hd; clear hs; simp only [fillG, List.set_cons_zero, List.set_cons_succ]; refine want_n rfl ?_; go_wp2_with (first | fail); simp only [DoneG, fillG, List.set_cons_zero, List.set_cons_succ, relG, eqG, eqG1, eqG2, eqG3, gdG, gdG1, gnG, gnG1, List.getD_cons_zero, List.getD_cons_succ, List.getElem?_cons_succ, List.getElem?_cons_zero, Option.map_some, Option.getD_some, valsG, List.map_cons, List.map_nil, List.length_cons, List.length_nil]; exact ⟨_, rfl, (by first | with_reducible assumption | exact krg _ | exact Keep.al (krg _) _), fun _ _ => rfl⟩)
            · (intro us W h9 hW hE hd hs K hK; obtain ⟨u0, u1, u2, u3, u4, u5, u6, u7, u8, rfl⟩ := rog 9 h9 rfl; clear h9; simp only [DepG, AtG, and_true, relG, eqG, eqG1, eqG2, eqG3, gdG, gdG1, gnG, gnG1, List.getD_cons_zero, List.getD_cons_succ, List.getElem?_cons_succ, List.getElem?_cons_zero, Option.map_some, Option.getD_some, valsG, List.map_cons, List.map_nil, List.length_cons, List.length_nil] at hd; obtain ⟨d4, d5⟩ := hd; subst d4; subst d5; clear hs; simp only [fillG, List.set_cons_zero, List.set_cons_succ]; refine want_n rfl ?_; go_wp2_with (first | fail); simp only [DoneG, fillG, List.set_cons_zero, List.set_cons_succ, relG, eqG, eqG1, eqG2, eqG3, gdG, gdG1, gnG, gnG1, List.getD_cons_zero, List.getD_cons_succ, List.getElem?_cons_succ, List.getElem?_cons_zero, Option.map_some, Option.getD_some, valsG, List.map_cons, List.map_nil, List.length_cons, List.length_nil]; exact ⟨_, rfl, (by first | with_reducible assumption | exact krg _ | exact Keep.al (krg _) _), fun _ _ => rfl⟩)
            · (intro us W h9 hW hE hd hs K hK; obtain ⟨u0, u1, u2, u3, u4, u5, u6, u7, u8, rfl⟩ := rog 9 h9 rfl; clear h9; simp only [DepG, AtG, and_true, relG, eqG, eqG1, eqG2, eqG3, gdG, gdG1, gnG, gnG1, List.getD_cons_zero, List.getD_cons_succ, List.getElem?_cons_succ, List.getElem?_cons_zero, Option.map_some, Option.getD_some, valsG, List.map_cons, List.map_nil, List.length_cons, List.length_nil] at hd; have d6 := hd; clear hd; subst d6; clear hs; simp only [fillG, List.set_cons_zero, List.set_cons_succ]; have hKW := Keep.tr (Keep.dr (Keep.rf _)) (hE rfl); have c0 := Keep.cell hKW c0; have d0 := Keep.cell hKW d0; refine want_n rfl ?_; go_wp2_with (first | fail); simp only [DoneG, fillG, List.set_cons_zero, List.set_cons_succ, relG, eqG, eqG1, eqG2, eqG3, gdG, gdG1, gnG, gnG1, List.getD_cons_zero, List.getD_cons_succ, List.getElem?_cons_succ, List.getElem?_cons_zero, Option.map_some, Option.getD_some, valsG, List.map_cons, List.map_nil, List.length_cons, List.length_nil]; exact ⟨_, rfl, (by first | with_reducible assumption | exact krg _ | exact Keep.al (krg _) _), fun _ _ => rfl⟩)
            · (intro us W h9 hW hE hd hs K hK; obtain ⟨u0, u1, u2, u3, u4, u5, u6, u7, u8, rfl⟩ := rog 9 h9 rfl; clear h9; simp only [DepG, AtG, and_true, relG, eqG, eqG1, eqG2, eqG3, gdG, gdG1, gnG, gnG1, List.getD_cons_zero, List.getD_cons_succ, List.getElem?_cons_succ, List.getElem?_cons_zero, Option.map_some, Option.getD_some, valsG, List.map_cons, List.map_nil, List.length_cons, List.length_nil] at hd; obtain ⟨d3, d7⟩ := hd; subst d3; subst d7; clear hs; simp only [fillG, List.set_cons_zero, List.set_cons_succ]; refine want_n rfl ?_; go_wp2_with (first | fail); simp only [DoneG, fillG, List.set_cons_zero, List.set_cons_succ, relG, eqG, eqG1, eqG2, eqG3, gdG, gdG1, gnG, gnG1, List.getD_cons_zero, List.getD_cons_succ, List.getElem?_cons_succ, List.getElem?_cons_zero, Option.map_some, Option.getD_some, valsG, List.map_cons, List.map_nil, List.length_cons, List.length_nil]; exact ⟨_, rfl, (by first | with_reducible assumption | exact krg _ | exact Keep.al (krg _) _), fun _ _ => rfl⟩)
          (intro us W9 h9 hW hE hA; obtain ⟨u0, u1, u2, u3, u4, u5, u6, u7, u8, rfl⟩ := rog 9 h9 rfl; clear h9; simp only [AllG, AtG, and_true, relG, eqG, eqG1, eqG2, eqG3, gdG, gdG1, gnG, gnG1, List.getD_cons_zero, List.getD_cons_succ, List.getElem?_cons_succ, List.getElem?_cons_zero, Option.map_some, Option.getD_some, valsG, List.map_cons, List.map_nil, List.length_cons, List.length_nil] at hA; have d8 := hA; clear hA; subst d8; simp only [fillG, List.set_cons_zero, List.set_cons_succ]; have k9 := Keep.tr (Keep.dr (Keep.rf _)) hW; clear hW hE)
          go_wp2_with fail
          go_roundw
          case rel => exact ⟨k + 1, by omega, by go_num, by rw [HD2.out]; rfl, Keep.tr hkw (by repeat (first | exact Keep.rf _ | assumption | apply Keep.al | apply Keep.dr | apply Keep.dn))⟩
          case measure => simp [intOf]; omega
        · have hz0 : (if k = q then m[k] ^^^ b else m[k]) = m[k] := by
            by_cases e : k = q
            · have : b = 0 := Classical.byContradiction fun hb => hkq ⟨e, hb⟩
              rw [if_pos e, this, UInt8.xor_zero]
            · rw [if_neg e]
          rw [hz0] at d0
          have HD2 := hide (show dif q b (k + 1) = dif q b k from by rw [HD.out, if_neg (fun h => hkq ⟨h.2, h.1⟩), Nat.add_zero])
          clear hkq hz0 hg
          generalize m[k] = z at *
          simp only [bv] at c0 d0
          generalize dif q b k = d at *
          go_wp2_with fail
          apply region_all (by kernel_rfl) Keep Keep krg ktg krg ktg (fun _ _ h => h) [some 76, some 77, some 78, some 79, some 80, some 81, some 82, some 83, some 84] [eqG _ , eqG _ , eqG _ , eqG _ , eqG _ , eqG _ , eqG _ , eqG _ , eqG _ ] [⟨[], [], true, false, false⟩, ⟨[], [], true, false, false⟩, ⟨[0, 1], [], true, false, false⟩, ⟨[2], [], true, false, false⟩, ⟨[], [], true, false, false⟩, ⟨[], [], true, false, false⟩, ⟨[4, 5], [], true, false, false⟩, ⟨[6], [], true, false, false⟩, ⟨[3, 7], [], true, false, false⟩] [8] (by kernel_rfl) (by kernel_rfl) 
          · refine ⟨?_, ?_, ?_, ?_, ?_, ?_, ?_, ?_, ?_, trivial⟩
            · (intro us W h9 hW hE hd hs K hK; obtain ⟨u0, u1, u2, u3, u4, u5, u6, u7, u8, rfl⟩ := rog 9 h9 rfl; clear h9; clear hd; clear hs; simp only [fillG, List.set_cons_zero, List.set_cons_succ]; refine want_n rfl ?_; go_wp2_with (first | fail); simp only [DoneG, fillG, List.set_cons_zero, List.set_cons_succ, relG, eqG, eqG1, eqG2, eqG3, gdG, gdG1, gnG, gnG1, List.getD_cons_zero, List.getD_cons_succ, List.getElem?_cons_succ, List.getElem?_cons_zero, Option.map_some, Option.getD_some, valsG, List.map_cons, List.map_nil, List.length_cons, List.length_nil]; exact ⟨_, rfl, (by first | with_reducible assumption | exact krg _ | exact Keep.al (krg _) _), fun _ _ => rfl⟩)
            · (intro us W h9 hW hE hd hs K hK; obtain ⟨u0, u1, u2, u3, u4, u5, u6, u7, u8, rfl⟩ := rog 9 h9 rfl; clear h9; clear hd; clear hs; simp only [fillG, List.set_cons_zero, List.set_cons_succ]; refine want_n rfl ?_; go_wp2_with (first | fail); simp only [DoneG, fillG, List.set_cons_zero, List.set_cons_succ, relG, eqG, eqG1, eqG2, eqG3, gdG, gdG1, gnG, gnG1, List.getD_cons_zero, List.getD_cons_succ, List.getElem?_cons_succ, List.getElem?_cons_zero, Option.map_some, Option.getD_some, valsG, List.map_cons, List.map_nil, List.length_cons, List.length_nil]; exact ⟨_, rfl, (by first | with_reducible assumption | exact krg _ | exact Keep.al (krg _) _), fun _ _ => rfl⟩)
            · (intro us W h9 hW hE hd hs K hK; obtain ⟨u0, u1, u2, u3, u4, u5, u6, u7, u8, rfl⟩ := rog 9 h9 rfl; clear h9; simp only [DepG, AtG, and_true, relG, eqG, eqG1, eqG2, eqG3, gdG, gdG1, gnG, gnG1, List.getD_cons_zero, List.getD_cons_succ, List.getElem?_cons_succ, List.getElem?_cons_zero, Option.map_some, Option.getD_some, valsG, List.map_cons, List.map_nil, List.length_cons, List.length_nil] at hd; obtain ⟨d0, d1⟩ := hd; subst d0; subst d1; clear hs; simp only [fillG, List.set_cons_zero, List.set_cons_succ]; refine want_n rfl ?_; go_wp2_with (first | fail); simp only [DoneG, fillG, List.set_cons_zero, List.set_cons_succ, relG, eqG, eqG1, eqG2, eqG3, gdG, gdG1, gnG, gnG1, List.getD_cons_zero, List.getD_cons_succ, List.getElem?_cons_succ, List.getElem?_cons_zero, Option.map_some, Option.getD_some, valsG, List.map_cons, List.map_nil, List.length_cons, List.length_nil]; exact ⟨_, rfl, (by first | with_reducible assumption | exact krg _ | exact Keep.al (krg _) _), fun _ _ => rfl⟩)
            · (intro us W h9 hW hE hd hs K hK; obtain ⟨u0, u1, u2, u3, u4, u5, u6, u7, u8, rfl⟩ := rog 9 h9 rfl; clear h9; simp only [DepG, AtG, and_true, relG, eqG, eqG1, eqG2, eqG3, gdG, gdG1, gnG, gnG1, List.getD_cons_zero, List.getD_cons_succ, List.getElem?_cons_succ, List.getElem?_cons_zero, Option.map_some, Option.getD_some, valsG, List.map_cons, List.map_nil, List.length_cons, List.length_nil] at hd; have d2 := hd; clear hd; subst d2; clear hs; simp only [fillG, List.set_cons_zero, List.set_cons_succ]; have hKW := Keep.tr (Keep.dr (Keep.rf _)) (hE rfl); have c0 := Keep.cell hKW c0; have d0 := Keep.cell hKW d0; refine want_n rfl ?_; go_wp2_with (first | fail); simp only [DoneG, fillG, List.set_cons_zero, List.set_cons_succ, relG, eqG, eqG1, eqG2, eqG3, gdG, gdG1, gnG, gnG1, List.getD_cons_zero, List.getD_cons_succ, List.getElem?_cons_succ, List.getElem?_cons_zero, Option.map_some, Option.getD_some, valsG, List.map_cons, List.map_nil, List.length_cons, List.length_nil]; exact ⟨_, rfl, (by first | with_reducible assumption | exact krg _ | exact Keep.al (krg _) _), fun _ _ => rfl⟩)
            · (intro us W h9 hW hE hd hs K hK; obtain ⟨u0, u1, u2, u3, u4, u5, u6, u7, u8, rfl⟩ := rog 9 h9 rfl; clear h9; clear hd; clear hs; simp only [fillG, List.set_cons_zero, List.set_cons_succ]; refine want_n rfl ?_; go_wp2_with (first | fail); simp only [DoneG, fillG, List.set_cons_zero, List.set_cons_succ, relG, eqG, eqG1, eqG2, eqG3, gdG, gdG1, gnG, gnG1, List.getD_cons_zero, List.getD_cons_succ, List.getElem?_cons_succ, List.getElem?_cons_zero, Option.map_some, Option.getD_some, valsG, List.map_cons, List.map_nil, List.length_cons, List.length_nil]; exact ⟨_, rfl, (by first | with_reducible assumption | exact krg _ | exact Keep.al (krg _) _), fun _ _ => rfl⟩)
            · (intro us W h9 hW hE hd hs K hK; obtain ⟨u0, u1, u2, u3, u4, u5, u6, u7, u8, rfl⟩ := rog 9 h9 rfl; clear h9; clear hd; clear hs; simp only [fillG, List.set_cons_zero, List.set_cons_succ]; refine want_n rfl ?_; go_wp2_with (first | fail); simp only [DoneG, fillG, List.set_cons_zero, List.set_cons_succ, relG, eqG, eqG1, eqG2, eqG3, gdG, gdG1, gnG, gnG1, List.getD_cons_zero, List.getD_cons_succ, List.getElem?_cons_succ, List.getElem?_cons_zero, Option.map_some, Option.getD_some, valsG, List.map_cons, List.map_nil, List.length_cons, List.length_nil]; exact ⟨_, rfl, (by first | with_reducible assumption | exact krg _ | exact Keep.al (krg _) _), fun _ _ => rfl⟩)
            · (intro us W h9 hW hE hd hs K hK; obtain ⟨u0, u1, u2, u3, u4, u5, u6, u7, u8, rfl⟩ := rog 9 h9 rfl; clear h9; simp only [DepG, AtG, and_true, relG, eqG, eqG1, eqG2, eqG3, gdG, gdG1, gnG, gnG1, List.getD_cons_zero, List.getD_cons_succ, List.getElem?_cons_succ, List.getElem?_cons_zero, Option.map_some, Option.getD_some, valsG, List.map_cons, List.map_nil, List.length_cons, List.length_nil] at hd; obtain ⟨d4, d5⟩ := hd; subst d4; subst d5; clear hs; simp only [fillG, List.set_cons_zero, List.set_cons_succ]; refine want_n rfl ?_; go_wp2_with (first | fail); simp only [DoneG, fillG, List.set_cons_zero, List.set_cons_succ, relG, eqG, eqG1, eqG2, eqG3, gdG, gdG1, gnG, gnG1, List.getD_cons_zero, List.getD_cons_succ, List.getElem?_cons_succ, List.getElem?_cons_zero, Option.map_some, Option.getD_some, valsG, List.map_cons, List.map_nil, List.length_cons, List.length_nil]; exact ⟨_, rfl, (by first | with_reducible assumption | exact krg _ | exact Keep.al (krg _) _), fun _ _ => rfl⟩)
            · (intro us W h9 hW hE hd hs K hK; obtain ⟨u0, u1, u2, u3, u4, u5, u6, u7, u8, rfl⟩ := rog 9 h9 rfl; clear h9; simp only [DepG, AtG, and_true, relG, eqG, eqG1, eqG2, eqG3, gdG, gdG1, gnG, gnG1, List.getD_cons_zero, List.getD_cons_succ, List.getElem?_cons_succ, List.getElem?_cons_zero, Option.map_some, Option.getD_some, valsG, List.map_cons, List.map_nil, List.length_cons, List.length_nil] at hd; have d6 := hd; clear hd; subst d6; clear hs; simp only [fillG, List.set_cons_zero, List.set_cons_succ]; have hKW := Keep.tr (Keep.dr (Keep.rf _)) (hE rfl); have c0 := Keep.cell hKW c0; have d0 := Keep.cell hKW d0; refine want_n rfl ?_; go_wp2_with (first | fail); simp only [DoneG, fillG, List.set_cons_zero, List.set_cons_succ, relG, eqG, eqG1, eqG2, eqG3, gdG, gdG1, gnG, gnG1, List.getD_cons_zero, List.getD_cons_succ, List.getElem?_cons_succ, List.getElem?_cons_zero, Option.map_some, Option.getD_some, valsG, List.map_cons, List.map_nil, List.length_cons, List.length_nil]; exact ⟨_, rfl, (by first | with_reducible assumption | exact krg _ | exact Keep.al (krg _) _), fun _ _ => rfl⟩)
            · (intro us W h9 hW hE hd hs K hK; obtain ⟨u0, u1, u2, u3, u4, u5, u6, u7, u8, rfl⟩ := rog 9 h9 rfl; clear h9; simp only [DepG, AtG, and_true, relG, eqG, eqG1, eqG2, eqG3, gdG, gdG1, gnG, gnG1, List.getD_cons_zero, List.getD_cons_succ, List.getElem?_cons_succ, List.getElem?_cons_zero, Option.map_some, Option.getD_some, valsG, List.map_cons, List.map_nil, List.length_cons, List.length_nil] at hd; obtain ⟨d3, d7⟩ := hd; subst d3; subst d7; clear hs; simp only [fillG, List.set_cons_zero, List.set_cons_succ]; refine want_n rfl ?_; go_wp2_with (first | fail); simp only [DoneG, fillG, List.set_cons_zero, List.set_cons_succ, relG, eqG, eqG1, eqG2, eqG3, gdG, gdG1, gnG, gnG1, List.getD_cons_zero, List.getD_cons_succ, List.getElem?_cons_succ, List.getElem?_cons_zero, Option.map_some, Option.getD_some, valsG, List.map_cons, List.map_nil, List.length_cons, List.length_nil]; exact ⟨_, rfl, (by first | with_reducible assumption | exact krg _ | exact Keep.al (krg _) _), fun _ _ => rfl⟩)
          (intro us W9 h9 hW hE hA; obtain ⟨u0, u1, u2, u3, u4, u5, u6, u7, u8, rfl⟩ := rog 9 h9 rfl; clear h9; simp only [AllG, AtG, and_true, relG, eqG, eqG1, eqG2, eqG3, gdG, gdG1, gnG, gnG1, List.getD_cons_zero, List.getD_cons_succ, List.getElem?_cons_succ, List.getElem?_cons_zero, Option.map_some, Option.getD_some, valsG, List.map_cons, List.map_nil, List.length_cons, List.length_nil] at hA; have d8 := hA; clear hA; subst d8; simp only [fillG, List.set_cons_zero, List.set_cons_succ]; have k9 := Keep.tr (Keep.dr (Keep.rf _)) hW; clear hW hE)
          go_wp2_with fail
          go_roundw
          case rel => exact ⟨k + 1, by omega, by go_num, by rw [HD2.out], Keep.tr hkw (by repeat (first | exact Keep.rf _ | assumption | apply Keep.al | apply Keep.dr | apply Keep.dn))⟩
          case measure => simp [intOf]; omega
      · have hkm : k = m.length := by omega
        have hlti : (decide ((k : Int) < (m.length : Int))) = false := by simp; omega
        have hwk := Keep.tr s5.k hkw
        have HDD := hide (show dif q b k = if b ≠ 0 then 1 else 0 from by rw [hkm]; unfold dif; simp [hqm])
        clear hxc hlt hk
        rcases hb0 with ⟨hb1, hb2⟩ | ⟨hb1, hb2⟩
        · rw [HDD.out, if_neg (by simpa using hb1)]
          go_wp2_with fail
          refine (nilTake _).mono ?_
          rintro e y1 ⟨rfl, z1⟩
          go_wp2_with fail
          refine (nilSend _ _ m (hv.keep (Keep.tr hwk z1))).mono ?_
          rintro e y2 ⟨rfl, z2⟩
          go_wp2_with fail
          refine (nilDrop _).mono ?_
          rintro e y3 ⟨rfl, z3⟩
          go_wp2_with fail
          refine (nilTwice _).mono ?_
          rintro e y4 ⟨rfl, z4⟩
          go_wp2_with fail
          refine (nilSpoil _).mono ?_
          rintro e y5 ⟨rfl, z5⟩
          go_wp2_with fail
          refine (nilLen _).mono ?_
          rintro e y6 ⟨rfl, z6⟩
          go_wp2_with fail
          refine (netKnown _).mono ?_
          rintro e y7 ⟨rfl, z7⟩
          go_wp2_with fail
          go_ret
          exact ⟨rfl, Keep.tr hwk (Keep.tr z1 (Keep.tr z2 (Keep.tr z3 (Keep.tr z4 (Keep.tr z5 (Keep.tr z6 z7))))))⟩
        · rw [HDD.out, if_pos hb1]
          go_wp2_with fail
          refine (nilTake _).mono ?_
          rintro e y1 ⟨rfl, z1⟩
          go_wp2_with fail
          refine (nilSend _ _ m (hv.keep (Keep.tr hwk z1))).mono ?_
          rintro e y2 ⟨rfl, z2⟩
          go_wp2_with fail
          refine (nilDrop _).mono ?_
          rintro e y3 ⟨rfl, z3⟩
          go_wp2_with fail
          refine (nilTwice _).mono ?_
          rintro e y4 ⟨rfl, z4⟩
          go_wp2_with fail
          refine (nilSpoil _).mono ?_
          rintro e y5 ⟨rfl, z5⟩
          go_wp2_with fail
          refine (nilLen _).mono ?_
          rintro e y6 ⟨rfl, z6⟩
          go_wp2_with fail
          refine (netKnown _).mono ?_
          rintro e y7 ⟨rfl, z7⟩
          go_wp2_with fail
          go_ret
          exact ⟨rfl, Keep.tr hwk (Keep.tr z1 (Keep.tr z2 (Keep.tr z3 (Keep.tr z4 (Keep.tr z5 (Keep.tr z6 z7))))))⟩
  | true =>
    go_wp2_with fail
    refine (spTwice s4 0 0 SM2.out).mono ?_
    rintro e w6 ⟨rfl, s6⟩
    rw [HTW.out] at s6
    rw [HT1.out]
    go_wp2_with fail
    refine (spSpoil s6 0 1 a ha b SM3.out).mono ?_
    rintro e w7 ⟨rfl, s7⟩
    rw [spoil_not HS3.out] at s7
    rw [HS3.out]
    clear s6
    have s6 := s7
    clear s7
    go_wp2_with fail
    refine (spTake s6 0 0).mono ?_
    rintro e w5 ⟨xA, xn, xc, rfl, hb, s5⟩
    rw [HGOT6.out] at hb
    rw [HHAS6.out]
    have hbl := hb
    obtain ⟨xA', xc', hxe, hx1, hx2, hx3⟩ := hb
    injection hxe with e1 e2 e3
    subst e1 e2 e3
    have hxl := turn_len m a b
    have HTG := hide (turn_get m a b)
    obtain ⟨xad, rfl, hxc⟩ := hx3 (by omega)
    rw [hxl] at hx1
    clear hbl hx3
    generalize Em.turn m a b = X at *
    rw [hxl]
    go_wp2_with fail
    go_loopw [12, 13] (fun d i W => ∃ k : Nat, k ≤ m.length ∧ i = .int .i64 k ∧ d = .int .i64 (dif q b k : Int) ∧ Keep w5 W) (fun _ i _ => m.length - (intOf i).toNat)
    case atStart => exact ⟨0, Nat.zero_le _, rfl, by rw [show dif q b 0 = 0 from by simp [dif]]; rfl, Keep.rf _⟩
    case round =>
      obtain ⟨k, hk, rfl, rfl, hkw⟩ := hrel
      by_cases hlt : k < m.length
      · have hlti : (decide ((k : Int) < (m.length : Int))) = true := by simp; omega
        have c0 := Keep.cell (Keep.tr s5.k hkw) (hvc k hlt)
        have d0 := Keep.cell hkw (hxc k (by rw [hxl]; exact hlt))
        have hg := HTG.out k hlt
        rw [List.getElem?_eq_getElem (by rw [hxl]; exact hlt)] at hg
        injection hg with hg
        rw [hg] at d0
        have HD := hide (dif_on q b k)
        rw [← HQ.out] at d0
        by_cases hkq : k = q ∧ b ≠ 0
        · have hne : ((m[k] ^^^ b).toNat : Int) ≠ (m[k].toNat : Int) := fun e => hkq.2 (xor_same m[k] b (UInt8.toNat_inj.1 (by omega)))
          rw [if_pos hkq.1] at d0
          have HD2 := hide (show dif q b (k + 1) = dif q b k + 1 from by rw [HD.out, if_pos ⟨hkq.2, hkq.1⟩])
          have hdb : dif q b k ≤ 1 := by unfold dif; split <;> omega
          have hneb : (((m[k] ^^^ b).toNat : Int) != (m[k].toNat : Int)) = true := by rw [bne_iff_ne]; exact hne
          clear hkq
          generalize m[k] ^^^ b = y at *
          generalize m[k] = z at *
          generalize dif q b k = d at *
          simp only [bv] at c0 d0
          go_wp2_with fail
          apply region_all (by kernel_rfl) Keep Keep krg ktg krg ktg (fun _ _ h => h) [some 76, some 77, some 78, some 79, some 80, some 81, some 82, some 83, some 84] [eqG _ , eqG _ , eqG _ , eqG _ , eqG _ , eqG _ , eqG _ , eqG _ , eqG _ ] [⟨[], [], true, false, false⟩, ⟨[], [], true, false, false⟩, ⟨[0, 1], [], true, false, false⟩, ⟨[2], [], true, false, false⟩, ⟨[], [], true, false, false⟩, ⟨[], [], true, false, false⟩, ⟨[4, 5], [], true, false, false⟩, ⟨[6], [], true, false, false⟩, ⟨[3, 7], [], true, false, false⟩] [8] (by kernel_rfl) (by kernel_rfl) 
          · refine ⟨?_, ?_, ?_, ?_, ?_, ?_, ?_, ?_, ?_, trivial⟩
            · (intro us W h9 hW hE hd hs K hK; obtain ⟨u0, u1, u2, u3, u4, u5, u6, u7, u8, rfl⟩ := rog 9 h9 rfl; clear h9; clear hd; clear hs; simp only [fillG, List.set_cons_zero, List.set_cons_succ]; refine want_n rfl ?_; go_wp2_with (first | fail); simp only [DoneG, fillG, List.set_cons_zero, List.set_cons_succ, relG, eqG, eqG1, eqG2, eqG3, gdG, gdG1, gnG, gnG1, List.getD_cons_zero, List.getD_cons_succ, List.getElem?_cons_succ, List.getElem?_cons_zero, Option.map_some, Option.getD_some, valsG, List.map_cons, List.map_nil, List.length_cons, List.length_nil]; exact ⟨_, rfl, (by first | with_reducible assumption | exact krg _ | exact Keep.al (krg _) _), fun _ _ => rfl⟩)
            · (intro us W h9 hW hE hd hs K hK; obtain ⟨u0, u1, u2, u3, u4, u5, u6, u7, u8, rfl⟩ := rog 9 h9 rfl; clear h9; clear hd; clear hs; simp only [fillG, List.set_cons_zero, List.set_cons_succ]; refine want_n rfl ?_; go_wp2_with (first | fail); simp only [DoneG, fillG, List.set_cons_zero, List.set_cons_succ, relG, eqG, eqG1, eqG2, eqG3, gdG, gdG1, gnG, gnG1, List.getD_cons_zero, List.getD_cons_succ, List.getElem?_cons_succ, List.getElem?_cons_zero, Option.map_some, Option.getD_some, valsG, List.map_cons, List.map_nil, List.length_cons, List.length_nil]; exact ⟨_, rfl, (by first | with_reducible assumption | exact krg _ | exact Keep.al (krg _) _), fun _ _ => rfl⟩)
            · (intro us W h9 hW hE hd hs K hK; obtain ⟨u0, u1, u2, u3, u4, u5, u6, u7, u8, rfl⟩ := rog 9 h9 rfl; clear h9; simp only [DepG, AtG, and_true, relG, eqG, eqG1, eqG2, eqG3, gdG, gdG1, gnG, gnG1, List.getD_cons_zero, List.getD_cons_succ, List.getElem?_cons_succ, List.getElem?_cons_zero, Option.map_some, Option.getD_some, valsG, List.map_cons, List.map_nil, List.length_cons, List.length_nil] at hd; obtain ⟨d0, d1⟩ := hd; subst d0; subst d1; clear hs; simp only [fillG, List.set_cons_zero, List.set_cons_succ]; refine want_n rfl ?_; go_wp2_with (first | fail); simp only [DoneG, fillG, List.set_cons_zero, List.set_cons_succ, relG, eqG, eqG1, eqG2, eqG3, gdG, gdG1, gnG, gnG1, List.getD_cons_zero, List.getD_cons_succ, List.getElem?_cons_succ, List.getElem?_cons_zero, Option.map_some, Option.getD_some, valsG, List.map_cons, List.map_nil, List.length_cons, List.length_nil]; exact ⟨_, rfl, (by first | with_reducible assumption | exact krg _ | exact Keep.al (krg _) _), fun _ _ => rfl⟩)
            · (intro us W h9 hW hE hd hs K hK; obtain ⟨u0, u1, u2, u3, u4, u5, u6, u7, u8, rfl⟩ := rog 9 h9 rfl; clear h9; simp only [DepG, AtG, and_true, relG, eqG, eqG1, eqG2, eqG3, gdG, gdG1, gnG, gnG1, List.getD_cons_zero, List.getD_cons_succ, List.getElem?_cons_succ, List.getElem?_cons_zero, Option.map_some, Option.getD_some, valsG, List.map_cons, List.map_nil, List.length_cons, List.length_nil] at hd; have d2 := hd; clear hd; subst d2; clear hs; simp only [fillG, List.set_cons_zero, List.set_cons_succ]; have hKW := Keep.tr (Keep.dr (Keep.rf _)) (hE rfl); have c0 := Keep.cell hKW c0; have d0 := Keep.cell hKW d0; refine want_n rfl ?_; go_wp2_with (first | fail); simp only [DoneG, fillG, List.set_cons_zero, List.set_cons_succ, relG, eqG, eqG1, eqG2, eqG3, gdG, gdG1, gnG, gnG1, List.getD_cons_zero, List.getD_cons_succ, List.getElem?_cons_succ, List.getElem?_cons_zero, Option.map_some, Option.getD_some, valsG, List.map_cons, List.map_nil, List.length_cons, List.length_nil]; exact ⟨_, rfl, (by first | with_reducible assumption | exact krg _ | exact Keep.al (krg _) _), fun _ _ => rfl⟩)
            · (intro us W h9 hW hE hd hs K hK; obtain ⟨u0, u1, u2, u3, u4, u5, u6, u7, u8, rfl⟩ := rog 9 h9 rfl; clear h9; clear hd; clear hs; simp only [fillG, List.set_cons_zero, List.set_cons_succ]; refine want_n rfl ?_; go_wp2_with (first | fail); simp only [DoneG, fillG, List.set_cons_zero, List.set_cons_succ, relG, eqG, eqG1, eqG2, eqG3, gdG, gdG1, gnG, gnG1, List.getD_cons_zero, List.getD_cons_succ, List.getElem?_cons_succ, List.getElem?_cons_zero, Option.map_some, Option.getD_some, valsG, List.map_cons, List.map_nil, List.length_cons, List.length_nil]; exact ⟨_, rfl, (by first | with_reducible assumption | exact krg _ | exact Keep.al (krg _) _), fun _ _ => rfl⟩)
            · (intro us W h9 hW hE hd hs K hK; obtain ⟨u0, u1, u2, u3, u4, u5, u6, u7, u8, rfl⟩ := rog 9 h9 rfl; clear h9; clear hd; clear hs; simp only [fillG, List.set_cons_zero, List.set_cons_succ]; refine want_n rfl ?_; go_wp2_with (first | fail); simp only [DoneG, fillG, List.set_cons_zero, List.set_cons_succ, relG, eqG, eqG1, eqG2, eqG3, gdG, gdG1, gnG, gnG1, List.getD_cons_zero, List.getD_cons_succ, List.getElem?_cons_succ, List.getElem?_cons_zero, Option.map_some, Option.getD_some, valsG, List.map_cons, List.map_nil, List.length_cons, List.length_nil]; exact ⟨_, rfl, (by first | with_reducible assumption | exact krg _ | exact Keep.al (krg _) _), fun _ _ => rfl⟩)
            · (intro us W h9 hW hE hd hs K hK; obtain ⟨u0, u1, u2, u3, u4, u5, u6, u7, u8, rfl⟩ := rog 9 h9 rfl; clear h9; simp only [DepG, AtG, and_true, relG, eqG, eqG1, eqG2, eqG3, gdG, gdG1, gnG, gnG1, List.getD_cons_zero, List.getD_cons_succ, List.getElem?_cons_succ, List.getElem?_cons_zero, Option.map_some, Option.getD_some, valsG, List.map_cons, List.map_nil, List.length_cons, List.length_nil] at hd; obtain ⟨d4, d5⟩ := hd; subst d4; subst d5; clear hs; simp only [fillG, List.set_cons_zero, List.set_cons_succ]; refine want_n rfl ?_; go_wp2_with (first | fail); simp only [DoneG, fillG, List.set_cons_zero, List.set_cons_succ, relG, eqG, eqG1, eqG2, eqG3, gdG, gdG1, gnG, gnG1, List.getD_cons_zero, List.getD_cons_succ, List.getElem?_cons_succ, List.getElem?_cons_zero, Option.map_some, Option.getD_some, valsG, List.map_cons, List.map_nil, List.length_cons, List.length_nil]; exact ⟨_, rfl, (by first | with_reducible assumption | exact krg _ | exact Keep.al (krg _) _), fun _ _ => rfl⟩)
            · (intro us W h9 hW hE hd hs K hK; obtain ⟨u0, u1, u2, u3, u4, u5, u6, u7, u8, rfl⟩ := rog 9 h9 rfl; clear h9; simp only [DepG, AtG, and_true, relG, eqG, eqG1, eqG2, eqG3, gdG, gdG1, gnG, gnG1, List.getD_cons_zero, List.getD_cons_succ, List.getElem?_cons_succ, List.getElem?_cons_zero, Option.map_some, Option.getD_some, valsG, List.map_cons, List.map_nil, List.length_cons, List.length_nil] at hd; have d6 := hd; clear hd; subst d6; clear hs; simp only [fillG, List.set_cons_zero, List.set_cons_succ]; have hKW := Keep.tr (Keep.dr (Keep.rf _)) (hE rfl); have c0 := Keep.cell hKW c0; have d0 := Keep.cell hKW d0; refine want_n rfl ?_; go_wp2_with (first | fail); simp only [DoneG, fillG, List.set_cons_zero, List.set_cons_succ, relG, eqG, eqG1, eqG2, eqG3, gdG, gdG1, gnG, gnG1, List.getD_cons_zero, List.getD_cons_succ, List.getElem?_cons_succ, List.getElem?_cons_zero, Option.map_some, Option.getD_some, valsG, List.map_cons, List.map_nil, List.length_cons, List.length_nil]; exact ⟨_, rfl, (by first | with_reducible assumption | exact krg _ | exact Keep.al (krg _) _), fun _ _ => rfl⟩)
            · (intro us W h9 hW hE hd hs K hK; obtain ⟨u0, u1, u2, u3, u4, u5, u6, u7, u8, rfl⟩ := rog 9 h9 rfl; clear h9; simp only [DepG, AtG, and_true, relG, eqG, eqG1, eqG2, eqG3, gdG, gdG1, gnG, gnG1, List.getD_cons_zero, List.getD_cons_succ, List.getElem?_cons_succ, List.getElem?_cons_zero, Option.map_some, Option.getD_some, valsG, List.map_cons, List.map_nil, List.length_cons, List.length_nil] at hd; obtain ⟨d3, d7⟩ := hd; subst d3; subst d7; clear hs; simp only [fillG, List.set_cons_zero, List.set_cons_succ]; refine want_n rfl ?_; go_wp2_with (first | fail); simp only [DoneG, fillG, List.set_cons_zero, List.set_cons_succ, relG, eqG, eqG1, eqG2, eqG3, gdG, gdG1, gnG, gnG1, List.getD_cons_zero, List.getD_cons_succ, List.getElem?_cons_succ, List.getElem?_cons_zero, Option.map_some, Option.getD_some, valsG, List.map_cons, List.map_nil, List.length_cons, List.length_nil]; exact ⟨_, rfl, (by first | with_reducible assumption | exact krg _ | exact Keep.al (krg _) _), fun _ _ => rfl⟩)
          (intro us W9 h9 hW hE hA; obtain ⟨u0, u1, u2, u3, u4, u5, u6, u7, u8, rfl⟩ := rog 9 h9 rfl; clear h9; simp only [AllG, AtG, and_true, relG, eqG, eqG1, eqG2, eqG3, gdG, gdG1, gnG, gnG1, List.getD_cons_zero, List.getD_cons_succ, List.getElem?_cons_succ, List.getElem?_cons_zero, Option.map_some, Option.getD_some, valsG, List.map_cons, List.map_nil, List.length_cons, List.length_nil] at hA; have d8 := hA; clear hA; subst d8; simp only [fillG, List.set_cons_zero, List.set_cons_succ]; have k9 := Keep.tr (Keep.dr (Keep.rf _)) hW; clear hW hE)
          go_wp2_with fail
          go_roundw
          case rel => exact ⟨k + 1, by omega, by go_num, by rw [HD2.out]; rfl, Keep.tr hkw (by repeat (first | exact Keep.rf _ | assumption | apply Keep.al | apply Keep.dr | apply Keep.dn))⟩
          case measure => simp [intOf]; omega
        · have hz0 : (if k = q then m[k] ^^^ b else m[k]) = m[k] := by
            by_cases e : k = q
            · have : b = 0 := Classical.byContradiction fun hb => hkq ⟨e, hb⟩
              rw [if_pos e, this, UInt8.xor_zero]
            · rw [if_neg e]
          rw [hz0] at d0
          have HD2 := hide (show dif q b (k + 1) = dif q b k from by rw [HD.out, if_neg (fun h => hkq ⟨h.2, h.1⟩), Nat.add_zero])
          clear hkq hz0 hg
          generalize m[k] = z at *
          simp only [bv] at c0 d0
          generalize dif q b k = d at *
          go_wp2_with fail
          apply region_all (by kernel_rfl) Keep Keep krg ktg krg ktg (fun _ _ h => h) [some 76, some 77, some 78, some 79, some 80, some 81, some 82, some 83, some 84] [eqG _ , eqG _ , eqG _ , eqG _ , eqG _ , eqG _ , eqG _ , eqG _ , eqG _ ] [⟨[], [], true, false, false⟩, ⟨[], [], true, false, false⟩, ⟨[0, 1], [], true, false, false⟩, ⟨[2], [], true, false, false⟩, ⟨[], [], true, false, false⟩, ⟨[], [], true, false, false⟩, ⟨[4, 5], [], true, false, false⟩, ⟨[6], [], true, false, false⟩, ⟨[3, 7], [], true, false, false⟩] [8] (by kernel_rfl) (by kernel_rfl) 
          · refine ⟨?_, ?_, ?_, ?_, ?_, ?_, ?_, ?_, ?_, trivial⟩
            · (intro us W h9 hW hE hd hs K hK; obtain ⟨u0, u1, u2, u3, u4, u5, u6, u7, u8, rfl⟩ := rog 9 h9 rfl; clear h9; clear hd; clear hs; simp only [fillG, List.set_cons_zero, List.set_cons_succ]; refine want_n rfl ?_; go_wp2_with (first | fail); simp only [DoneG, fillG, List.set_cons_zero, List.set_cons_succ, relG, eqG, eqG1, eqG2, eqG3, gdG, gdG1, gnG, gnG1, List.getD_cons_zero, List.getD_cons_succ, List.getElem?_cons_succ, List.getElem?_cons_zero, Option.map_some, Option.getD_some, valsG, List.map_cons, List.map_nil, List.length_cons, List.length_nil]; exact ⟨_, rfl, (by first | with_reducible assumption | exact krg _ | exact Keep.al (krg _) _), fun _ _ => rfl⟩)
            · (intro us W h9 hW hE hd hs K hK; obtain ⟨u0, u1, u2, u3, u4, u5, u6, u7, u8, rfl⟩ := rog 9 h9 rfl; clear h9; clear hd; clear hs; simp only [fillG, List.set_cons_zero, List.set_cons_succ]; refine want_n rfl ?_; go_wp2_with (first | fail); simp only [DoneG, fillG, List.set_cons_zero, List.set_cons_succ, relG, eqG, eqG1, eqG2, eqG3, gdG, gdG1, gnG, gnG1, List.getD_cons_zero, List.getD_cons_succ, List.getElem?_cons_succ, List.getElem?_cons_zero, Option.map_some, Option.getD_some, valsG, List.map_cons, List.map_nil, List.length_cons, List.length_nil]; exact ⟨_, rfl, (by first | with_reducible assumption | exact krg _ | exact Keep.al (krg _) _), fun _ _ => rfl⟩)
            · (intro us W h9 hW hE hd hs K hK; obtain ⟨u0, u1, u2, u3, u4, u5, u6, u7, u8, rfl⟩ := rog 9 h9 rfl; clear h9; simp only [DepG, AtG, and_true, relG, eqG, eqG1, eqG2, eqG3, gdG, gdG1, gnG, gnG1, List.getD_cons_zero, List.getD_cons_succ, List.getElem?_cons_succ, List.getElem?_cons_zero, Option.map_some, Option.getD_some, valsG, List.map_cons, List.map_nil, List.length_cons, List.length_nil] at hd; obtain ⟨d0, d1⟩ := hd; subst d0; subst d1; clear hs; simp only [fillG, List.set_cons_zero, List.set_cons_succ]; refine want_n rfl ?_; go_wp2_with (first | fail); simp only [DoneG, fillG, List.set_cons_zero, List.set_cons_succ, relG, eqG, eqG1, eqG2, eqG3, gdG, gdG1, gnG, gnG1, List.getD_cons_zero, List.getD_cons_succ, List.getElem?_cons_succ, List.getElem?_cons_zero, Option.map_some, Option.getD_some, valsG, List.map_cons, List.map_nil, List.length_cons, List.length_nil]; exact ⟨_, rfl, (by first | with_reducible assumption | exact krg _ | exact Keep.al (krg _) _), fun _ _ => rfl⟩)
            · (intro us W h9 hW hE hd hs K hK; obtain ⟨u0, u1, u2, u3, u4, u5, u6, u7, u8, rfl⟩ := rog 9 h9 rfl; clear h9; simp only [DepG, AtG, and_true, relG, eqG, eqG1, eqG2, eqG3, gdG, gdG1, gnG, gnG1, List.getD_cons_zero, List.getD_cons_succ, List.getElem?_cons_succ, List.getElem?_cons_zero, Option.map_some, Option.getD_some, valsG, List.map_cons, List.map_nil, List.length_cons, List.length_nil] at hd; have d2 := hd; clear hd; subst d2; clear hs; simp only [fillG, List.set_cons_zero, List.set_cons_succ]; have hKW := Keep.tr (Keep.dr (Keep.rf _)) (hE rfl); have c0 := Keep.cell hKW c0; have d0 := Keep.cell hKW d0; refine want_n rfl ?_; go_wp2_with (first | fail); simp only [DoneG, fillG, List.set_cons_zero, List.set_cons_succ, relG, eqG, eqG1, eqG2, eqG3, gdG, gdG1, gnG, gnG1, List.getD_cons_zero, List.getD_cons_succ, List.getElem?_cons_succ, List.getElem?_cons_zero, Option.map_some, Option.getD_some, valsG, List.map_cons, List.map_nil, List.length_cons, List.length_nil]; exact ⟨_, rfl, (by first | with_reducible assumption | exact krg _ | exact Keep.al (krg _) _), fun _ _ => rfl⟩)
            · (intro us W h9 hW hE hd hs K hK; obtain ⟨u0, u1, u2, u3, u4, u5, u6, u7, u8, rfl⟩ := rog 9 h9 rfl; clear h9; clear hd; clear hs; simp only [fillG, List.set_cons_zero, List.set_cons_succ]; refine want_n rfl ?_; go_wp2_with (first | fail); simp only [DoneG, fillG, List.set_cons_zero, List.set_cons_succ, relG, eqG, eqG1, eqG2, eqG3, gdG, gdG1, gnG, gnG1, List.getD_cons_zero, List.getD_cons_succ, List.getElem?_cons_succ, List.getElem?_cons_zero, Option.map_some, Option.getD_some, valsG, List.map_cons, List.map_nil, List.length_cons, List.length_nil]; exact ⟨_, rfl, (by first | with_reducible assumption | exact krg _ | exact Keep.al (krg _) _), fun _ _ => rfl⟩)
            · (intro us W h9 hW hE hd hs K hK; obtain ⟨u0, u1, u2, u3, u4, u5, u6, u7, u8, rfl⟩ := rog 9 h9 rfl; clear h9; clear hd; clear hs; simp only [fillG, List.set_cons_zero, List.set_cons_succ]; refine want_n rfl ?_; go_wp2_with (first | fail); simp only [DoneG, fillG, List.set_cons_zero, List.set_cons_succ, relG, eqG, eqG1, eqG2, eqG3, gdG, gdG1, gnG, gnG1, List.getD_cons_zero, List.getD_cons_succ, List.getElem?_cons_succ, List.getElem?_cons_zero, Option.map_some, Option.getD_some, valsG, List.map_cons, List.map_nil, List.length_cons, List.length_nil]; exact ⟨_, rfl, (by first | with_reducible assumption | exact krg _ | exact Keep.al (krg _) _), fun _ _ => rfl⟩)
            · (intro us W h9 hW hE hd hs K hK; obtain ⟨u0, u1, u2, u3, u4, u5, u6, u7, u8, rfl⟩ := rog 9 h9 rfl; clear h9; simp only [DepG, AtG, and_true, relG, eqG, eqG1, eqG2, eqG3, gdG, gdG1, gnG, gnG1, List.getD_cons_zero, List.getD_cons_succ, List.getElem?_cons_succ, List.getElem?_cons_zero, Option.map_some, Option.getD_some, valsG, List.map_cons, List.map_nil, List.length_cons, List.length_nil] at hd; obtain ⟨d4, d5⟩ := hd; subst d4; subst d5; clear hs; simp only [fillG, List.set_cons_zero, List.set_cons_succ]; refine want_n rfl ?_; go_wp2_with (first | fail); simp only [DoneG, fillG, List.set_cons_zero, List.set_cons_succ, relG, eqG, eqG1, eqG2, eqG3, gdG, gdG1, gnG, gnG1, List.getD_cons_zero, List.getD_cons_succ, List.getElem?_cons_succ, List.getElem?_cons_zero, Option.map_some, Option.getD_some, valsG, List.map_cons, List.map_nil, List.length_cons, List.length_nil]; exact ⟨_, rfl, (by first | with_reducible assumption | exact krg _ | exact Keep.al (krg _) _), fun _ _ => rfl⟩)
            · (intro us W h9 hW hE hd hs K hK; obtain ⟨u0, u1, u2, u3, u4, u5, u6, u7, u8, rfl⟩ := rog 9 h9 rfl; clear h9; simp only [DepG, AtG, and_true, relG, eqG, eqG1, eqG2, eqG3, gdG, gdG1, gnG, gnG1, List.getD_cons_zero, List.getD_cons_succ, List.getElem?_cons_succ, List.getElem?_cons_zero, Option.map_some, Option.getD_some, valsG, List.map_cons, List.map_nil, List.length_cons, List.length_nil] at hd; have d6 := hd; clear hd; subst d6; clear hs; simp only [fillG, List.set_cons_zero, List.set_cons_succ]; have hKW := Keep.tr (Keep.dr (Keep.rf _)) (hE rfl); have c0 := Keep.cell hKW c0; have d0 := Keep.cell hKW d0; refine want_n rfl ?_; go_wp2_with (first | fail); simp only [DoneG, fillG, List.set_cons_zero, List.set_cons_succ, relG, eqG, eqG1, eqG2, eqG3, gdG, gdG1, gnG, gnG1, List.getD_cons_zero, List.getD_cons_succ, List.getElem?_cons_succ, List.getElem?_cons_zero, Option.map_some, Option.getD_some, valsG, List.map_cons, List.map_nil, List.length_cons, List.length_nil]; exact ⟨_, rfl, (by first | with_reducible assumption | exact krg _ | exact Keep.al (krg _) _), fun _ _ => rfl⟩)
            · (intro us W h9 hW hE hd hs K hK; obtain ⟨u0, u1, u2, u3, u4, u5, u6, u7, u8, rfl⟩ := rog 9 h9 rfl; clear h9; simp only [DepG, AtG, and_true, relG, eqG, eqG1, eqG2, eqG3, gdG, gdG1, gnG, gnG1, List.getD_cons_zero, List.getD_cons_succ, List.getElem?_cons_succ, List.getElem?_cons_zero, Option.map_some, Option.getD_some, valsG, List.map_cons, List.map_nil, List.length_cons, List.length_nil] at hd; obtain ⟨d3, d7⟩ := hd; subst d3; subst d7; clear hs; simp only [fillG, List.set_cons_zero, List.set_cons_succ]; refine want_n rfl ?_; go_wp2_with (first | fail); simp only [DoneG, fillG, List.set_cons_zero, List.set_cons_succ, relG, eqG, eqG1, eqG2, eqG3, gdG, gdG1, gnG, gnG1, List.getD_cons_zero, List.getD_cons_succ, List.getElem?_cons_succ, List.getElem?_cons_zero, Option.map_some, Option.getD_some, valsG, List.map_cons, List.map_nil, List.length_cons, List.length_nil]; exact ⟨_, rfl, (by first | with_reducible assumption | exact krg _ | exact Keep.al (krg _) _), fun _ _ => rfl⟩)
          (intro us W9 h9 hW hE hA; obtain ⟨u0, u1, u2, u3, u4, u5, u6, u7, u8, rfl⟩ := rog 9 h9 rfl; clear h9; simp only [AllG, AtG, and_true, relG, eqG, eqG1, eqG2, eqG3, gdG, gdG1, gnG, gnG1, List.getD_cons_zero, List.getD_cons_succ, List.getElem?_cons_succ, List.getElem?_cons_zero, Option.map_some, Option.getD_some, valsG, List.map_cons, List.map_nil, List.length_cons, List.length_nil] at hA; have d8 := hA; clear hA; subst d8; simp only [fillG, List.set_cons_zero, List.set_cons_succ]; have k9 := Keep.tr (Keep.dr (Keep.rf _)) hW; clear hW hE)
          go_wp2_with fail
          go_roundw
          case rel => exact ⟨k + 1, by omega, by go_num, by rw [HD2.out], Keep.tr hkw (by repeat (first | exact Keep.rf _ | assumption | apply Keep.al | apply Keep.dr | apply Keep.dn))⟩
          case measure => simp [intOf]; omega
      · have hkm : k = m.length := by omega
        have hlti : (decide ((k : Int) < (m.length : Int))) = false := by simp; omega
        have hwk := Keep.tr s5.k hkw
        have HDD := hide (show dif q b k = if b ≠ 0 then 1 else 0 from by rw [hkm]; unfold dif; simp [hqm])
        clear hxc hlt hk
        rcases hb0 with ⟨hb1, hb2⟩ | ⟨hb1, hb2⟩
        · rw [HDD.out, if_neg (by simpa using hb1)]
          go_wp2_with fail
          refine (nilTake _).mono ?_
          rintro e y1 ⟨rfl, z1⟩
          go_wp2_with fail
          refine (nilSend _ _ m (hv.keep (Keep.tr hwk z1))).mono ?_
          rintro e y2 ⟨rfl, z2⟩
          go_wp2_with fail
          refine (nilDrop _).mono ?_
          rintro e y3 ⟨rfl, z3⟩
          go_wp2_with fail
          refine (nilTwice _).mono ?_
          rintro e y4 ⟨rfl, z4⟩
          go_wp2_with fail
          refine (nilSpoil _).mono ?_
          rintro e y5 ⟨rfl, z5⟩
          go_wp2_with fail
          refine (nilLen _).mono ?_
          rintro e y6 ⟨rfl, z6⟩
          go_wp2_with fail
          refine (netKnown _).mono ?_
          rintro e y7 ⟨rfl, z7⟩
          go_wp2_with fail
          go_ret
          exact ⟨rfl, Keep.tr hwk (Keep.tr z1 (Keep.tr z2 (Keep.tr z3 (Keep.tr z4 (Keep.tr z5 (Keep.tr z6 z7))))))⟩
        · rw [HDD.out, if_pos hb1]
          go_wp2_with fail
          refine (nilTake _).mono ?_
          rintro e y1 ⟨rfl, z1⟩
          go_wp2_with fail
          refine (nilSend _ _ m (hv.keep (Keep.tr hwk z1))).mono ?_
          rintro e y2 ⟨rfl, z2⟩
          go_wp2_with fail
          refine (nilDrop _).mono ?_
          rintro e y3 ⟨rfl, z3⟩
          go_wp2_with fail
          refine (nilTwice _).mono ?_
          rintro e y4 ⟨rfl, z4⟩
          go_wp2_with fail
          refine (nilSpoil _).mono ?_
          rintro e y5 ⟨rfl, z5⟩
          go_wp2_with fail
          refine (nilLen _).mono ?_
          rintro e y6 ⟨rfl, z6⟩
          go_wp2_with fail
          refine (netKnown _).mono ?_
          rintro e y7 ⟨rfl, z7⟩
          go_wp2_with fail
          go_ret
          exact ⟨rfl, Keep.tr hwk (Keep.tr z1 (Keep.tr z2 (Keep.tr z3 (Keep.tr z4 (Keep.tr z5 (Keep.tr z6 z7))))))⟩
end Go.Proofs.Ytjhndioapcneoaa
