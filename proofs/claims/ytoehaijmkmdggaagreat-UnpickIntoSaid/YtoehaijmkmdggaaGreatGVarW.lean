/- Walks: the functions of package varint, and of its reference, come to VarPure's. -/
import Derived.Test.YtoehaijmkmdggaaGreatGLib
import Derived.Test.YtoehaijmkmdggaaGreatGRegRel
import Derived.Test.YtoehaijmkmdggaaGreatGHeapPure
import Derived.Shelf.Small.Bits
set_option linter.unusedSimpArgs false
set_option linter.unusedVariables false
namespace Go.Proofs.YtoehaijmkmdggaaGreat
open Go.RowKit
set_option linter.unusedVariables false
set_option maxRecDepth 100000
theorem u8_bv (m : Nat) (h : m < 256) : Value.int .u8 (m : Int) = bv (UInt8.ofNat m) := by
  unfold bv
  rw [Em.u8_of h]
/-- Bytes are answered, in new memory. -/
def RetBy (w : World) (l : List UInt8) (e : Ending) (w' : World) : Prop := ∃ v, e = .returned v ∧ Obs w' w.heap.size v l ∧ Keep w w'
theorem and_127 (m : Nat) (hm : m < 18446744073709551616) : bits .and .u64 (m : Int) 127 = ((m % 128 : Nat) : Int) := by
  rw [show (127 : Int) = ((127 : Nat) : Int) from rfl, u64_and_nat _ _ hm (by omega), show 127 = 2 ^ 7 - 1 from rfl, Nat.and_two_pow_sub_one_eq_mod]
theorem or_128b : ∀ x : Fin 128, x.1 ||| 128 = x.1 + 128 := by decide +kernel
theorem or_go64 (r : Nat) (h : r < 128) : bits .or .u64 (r : Int) 128 = ((r + 128 : Nat) : Int) := by
  rw [show (128 : Int) = ((128 : Nat) : Int) from rfl, u64_or_nat _ _ (by omega) (by omega), or_128b ⟨r, h⟩]
set_option maxHeartbeats 1000000 in
theorem refPut (n : Nat) (hn : n < 18446744073709551616) (w : World) : Calls Tryz.prog 88 #[.int .u64 (n : Int)] w (RetBy w (Em.putN n)) := by
  have hl0 := Em.putN_len10 hn
  have hN := hide hn
  clear hn
  go_enter Tryz.func88, Tryz.ntmps88
  go_wp2
  go_loopw [0, 3] (fun x b W => ∃ (m : Nat) (p : List UInt8), m ≤ n ∧ p.length + (Em.putN m).length ≤ 10 ∧ p ++ Em.putN m = Em.putN n ∧ x = .int .u64 (m : Int) ∧ Obs W w.heap.size b p ∧ Keep w W) (fun x _ _ => (intOf x).toNat)
  case atStart => exact ⟨n, [], by omega, by simpa using hl0, rfl, rfl, Ob.nil _ _ _, Keep.rf _⟩
  case round =>
    obtain ⟨m, p, hmn, hl, hp, rfl, ho, hk⟩ := hrel
    have hP := hide hp
    clear hp
    by_cases hm : 128 ≤ m
    · have hb := hide (Em.putN_big hm)
      rw [hb.out] at hl
      simp only [List.length_cons] at hl
      have f1 := and_127 m (Nat.lt_of_le_of_lt hmn hN.out)
      have f2 := or_go64 (m % 128) (by omega)
      have hu : Hid (Value.int .u8 ((m % 128 + 128 : Nat) : Int) = bv (UInt8.ofNat (m % 128 + 128))) := u8_bv _ (by omega)
      have hs : Hid ((p ++ [UInt8.ofNat (m % 128 + 128)]) ++ Em.putN (m / 128) = Em.putN n) := by
        show _ = _
        rw [← hP.out, hb.out, List.append_assoc]
        rfl
      have hr : m % 128 + 128 ≤ 255 := by omega
      generalize UInt8.ofNat (m % 128 + 128) = b at hu hs
      generalize m % 128 + 128 = s at f2 hu hr
      generalize m % 128 = r at f1 f2
      clear hb hP
      go_wp2_with (at_builtin; refine appB rfl (.tmp 6) (.tmp 11) rfl _ p rfl (ho.keep (by repeat (first | exact Keep.rf _ | assumption | apply Keep.al | apply Keep.dr | apply Keep.dn))) _ [b] rfl (Bs.box hu.out (by first | rfl | simp)) (hk.al _) (by simp; omega) ?_; intro v1 w1 ho1 hk1 hg1 hat1)
      go_roundw
      case rel => exact ⟨m / 128, p ++ [b], by omega, by simp; omega, hs.out, by go_num, ho1, hk1⟩
      case measure => simp [intOf]; omega
    · have hb := hide (Em.putN_small (show m < 128 by omega))
      have hu := hide (u8_bv m (by omega))
      have hs : Hid (p ++ [UInt8.ofNat m] = Em.putN n) := by
        show _ = _
        rw [← hP.out, hb.out]
      generalize UInt8.ofNat m = b at hu hs
      clear hb hP
      go_wp2_with (at_builtin; refine appB rfl (.tmp 15) (.tmp 18) rfl _ p rfl (ho.keep (by repeat (first | exact Keep.rf _ | assumption | apply Keep.al | apply Keep.dr | apply Keep.dn))) _ [b] rfl (Bs.box hu.out (by first | rfl | simp)) (hk.al _) (by simp; omega) ?_; intro v1 w1 ho1 hk1 hg1 hat1)
      go_ret
      exact ⟨_, rfl, by rw [← hs.out]; exact ho1, hk1⟩

def lays126_ren : Go.Shelf.Ren := ⟨fun | 126 => 85 | n => n, fun | 5 => 5 | 3 => 3 | 9 => 9 | n => n, fun | n => n⟩
theorem lays126 : Go.Proofs.Lays.n126 Tryz.prog lays126_ren := {
  mixed := by kernel_rfl
  f126 := Tryz.func85.trans (congrArg some (by kernel_rfl))
  t3 := Tryz.underlying3
  a3 := Tryz.isAgg3
  z3 := Tryz.sizeOf3
  v3 := Tryz.zeroValue3
  t5 := Tryz.underlying5
  a5 := Tryz.isAgg5
  z5 := Tryz.sizeOf5
  v5 := Tryz.zeroValue5
  t9 := Tryz.underlying9
  a9 := Tryz.isAgg9
  z9 := Tryz.sizeOf9
  v9 := Tryz.zeroValue9 }
theorem len8_facts : ∀ b : Fin 256, (b.1 ≤ 1 → Lib.bitLen b.1 ≤ 1) ∧ (1 < b.1 → 1 < Lib.bitLen b.1) ∧ (b.1 < 128 → Lib.bitLen b.1 ≤ 7) := by decide +kernel
theorem varLen8 (b : UInt8) (w : World) : Calls Tryz.prog 85 #[.int .u8 (b.toNat : Int)] w (fun e w' => e = .returned (.int .i64 (Lib.bitLen b.toNat : Int)) ∧ w = w') :=
  (Go.Proofs.Any.bits_Len8 lays126 (b.toNat : Int) w (by omega) (by have := b.toNat_lt; omega)).mono fun e w' ⟨h1, h2⟩ => ⟨by simpa using h1, h2.symm⟩
set_option maxHeartbeats 1000000 in
theorem varIdx (v : Value) (l : List UInt8) (w : World) (h : Bs w v l) :
    Calls Tryz.prog 83 #[v, .func (.func 84) #[] #[]] w fun e w' => e = .returned (.int .i64 (Em.fidx l)) ∧ w = w' := by
  obtain ⟨A, c, rfl, hlc, hcm, hr⟩ := h
  go_enter Tryz.func83, Tryz.ntmps83
  go_wp2
  go_loop [5, 8] (fun _ i => ∃ k : Nat, k ≤ l.length ∧ i = .int .i64 k ∧ ∀ x ∈ l.take k, 128 ≤ x.toNat) (fun _ i => l.length - (intOf i).toNat)
  case atStart => exact ⟨0, Nat.zero_le _, rfl, by simp⟩
  case round =>
    obtain ⟨k, hk, rfl, hp⟩ := hrel
    have hP := hide hp
    clear hp
    by_cases hlt : k < l.length
    · obtain ⟨ad, rfl, hcell⟩ := hr (by omega)
      have hc := hcell k hlt
      have h1 := l[k].toNat_lt
      unfold bv at hc
      clear hcell
      by_cases hx : l[k].toNat < 128
      · have hf := hide (Em.fidx_at hlt hP.out hx)
        go_wp2
        go_ret
        exact ⟨ret_int (by rw [hf.out]), rfl⟩
      · have hn := hide (Em.fidx_on hlt hP.out hx)
        go_wp2
        go_round
        case rel => exact ⟨k + 1, by omega, by go_num, hn.out⟩
        case measure => simp [intOf]; omega
    · have hf := hide (Em.fidx_none hk hlt hP.out)
      go_wp2
      go_ret
      exact ⟨ret_int (by rw [hf.out]), rfl⟩
/-- What Get answers. -/
def getT (l : List UInt8) : Value := match Em.getN l with
  | some (v, n) => .tuple #[.int .u64 (v : Int), .int .i64 (n : Int), .bool true]
  | none => .tuple #[.int .u64 0, .int .i64 0, .bool false]
theorem fidx_cases (l : List UInt8) : (Em.fidx l = -1 ∧ Em.getN l = none) ∨ ∃ (k : Nat) (h : k < l.length), Em.fidx l = (k : Int) ∧ (∀ x ∈ l.take k, 128 ≤ x.toNat) ∧ l[k].toNat < 128 := by
  unfold Em.fidx
  cases hf : l.findIdx? (fun x => decide (x.toNat < 128)) with
  | none =>
    rw [List.findIdx?_eq_none_iff] at hf
    exact .inl ⟨rfl, Em.dec_all l 0 (fun x hx => by have := hf x hx; simp only [decide_eq_false_iff_not] at this; omega)⟩
  | some k =>
    rw [List.findIdx?_eq_some_iff_getElem] at hf
    obtain ⟨h, h1, h2⟩ := hf
    refine .inr ⟨k, h, rfl, fun x hx => ?_, by simpa using h1⟩
    obtain ⟨j, hj, rfl⟩ := List.mem_take_iff_getElem.1 hx
    have := h2 j (by omega)
    simp only [decide_eq_true_eq] at this
    omega
theorem getT_at {l : List UInt8} {k : Nat} (h : k < l.length) (hp : ∀ x ∈ l.take k, 128 ≤ x.toNat) (hx : l[k].toNat < 128) (hc : (0 < k ∧ l[k].toNat = 0) ∨ 9 < k ∨ (k = 9 ∧ 1 < l[k].toNat)) : getT l = .tuple #[.int .u64 0, .int .i64 0, .bool false] := by
  have := Em.dec_at l 0 k h hp hx
  rw [if_pos (by simpa using hc)] at this
  unfold getT Em.getN
  rw [this]
theorem getT_val {l : List UInt8} {k : Nat} (h : k < l.length) (hp : ∀ x ∈ l.take k, 128 ≤ x.toNat) (hx : l[k].toNat < 128) (hc : ¬ ((0 < k ∧ l[k].toNat = 0) ∨ 9 < k ∨ (k = 9 ∧ 1 < l[k].toNat))) : getT l = .tuple #[.int .u64 (Em.val (l.take (k + 1)) : Int), .int .i64 ((k : Int) + 1), .bool true] := by
  have := Em.dec_at l 0 k h hp hx
  rw [if_neg (by simpa using hc)] at this
  unfold getT Em.getN
  rw [this]
  rfl
theorem val_step (l : List UInt8) (i : Nat) (h : i < l.length) : Em.val (l.take (i + 1)) = Em.val (l.take i) + l[i].toNat % 128 * 128 ^ i := by
  rw [take_snoc l i h, Em.val_snoc, List.length_take, Nat.min_eq_left (by omega)]
theorem clear_top : ∀ x : Fin 256, x.1 &&& 127 = x.1 % 128 := by decide +kernel
theorem top_go (b : UInt8) : bits .andNot .u8 (b.toNat : Int) 128 = ((b.toNat % 128 : Nat) : Int) := by
  rw [show (128 : Int) = ((128 : Nat) : Int) from rfl, u8_andNot_nat _ _ b.toNat_lt (by omega), clear_top ⟨b.toNat, b.toNat_lt⟩]
theorem pow_mono9 {i k : Nat} (h : i ≤ k) (hk : k ≤ 9) : 128 ^ i ≤ 9223372036854775808 := by
  have : 128 ^ i ≤ 128 ^ 9 := Nat.pow_le_pow_right (by omega) (by omega)
  omega
/-- A group or-ed on: nothing wraps. -/
theorem group_go (v x i : Nat) (hv : v < 128 ^ i) (hx : x * 128 ^ i < 18446744073709551616) (hi : i ≤ 9) :
    bits .or .u64 (v : Int) (IntKind.u64.wrap ((x : Int) * 2 ^ (7 * i))) = ((v + x * 128 ^ i : Nat) : Int) := by
  have h1 := pow_mono9 (Nat.le_refl i) hi
  have e : (x : Int) * 2 ^ (7 * i) = ((x * 128 ^ i : Nat) : Int) := by
    rw [show (128 : Nat) = 2 ^ 7 from rfl, ← Nat.pow_mul]
    simp
  have e2 : IntKind.u64.wrap ((x : Int) * 2 ^ (7 * i)) = ((x * 128 ^ i : Nat) : Int) := by
    rw [e, IntKind.wrap_u64]
    omega
  rw [e2, u64_or_nat _ _ (by omega) hx, Em.or_add _ _ _ hv]
theorem group_lt {l : List UInt8} {k i : Nat} (h : i < l.length) (hik : i ≤ k) (hk : k ≤ 9) (hb : ∀ (_ : i = 9), l[i].toNat ≤ 1) : l[i].toNat % 128 * 128 ^ i < 18446744073709551616 := by
  rcases Nat.lt_or_ge i 9 with h9 | h9
  · have h3 : 128 ^ i ≤ 128 ^ 8 := Nat.pow_le_pow_right (by omega) (by omega)
    have h4 : l[i].toNat % 128 * 128 ^ i ≤ 127 * 128 ^ 8 := Nat.mul_le_mul (by omega) h3
    omega
  · have : i = 9 := by omega
    subst this
    have := hb rfl
    have h5 : l[9].toNat % 128 ≤ 1 := by omega
    have h4 : l[9].toNat % 128 * 128 ^ 9 ≤ 1 * 128 ^ 9 := Nat.mul_le_mul_right _ h5
    omega
theorem take_val_lt (l : List UInt8) (i : Nat) (h : i ≤ l.length) : Em.val (l.take i) < 128 ^ i := by
  have := Em.val_lt (l.take i)
  rwa [List.length_take, Nat.min_eq_left h] at this
set_option maxHeartbeats 2000000 in
/-- Get where the number is good: the loop over its groups. -/
theorem varGet_good (v : Value) (l : List UInt8) (w : World) (h : Bs w v l) (k : Nat) (hk : k < l.length) (F1 : Hid (Em.fidx l = (k : Int))) (F2 : Hid (∀ x ∈ l.take k, 128 ≤ x.toNat)) (f3 : l[k].toNat < 128) (h9 : k ≤ 9)
    (hz : (k < 1) ∨ (0 < k ∧ ((l[k].toNat : Int) == 0) = false)) (m : Nat) (HM : Hid (m = Lib.bitLen l[k].toNat)) (hsum : 7 * k + m ≤ 64) (HG : Hid (k = 9 → l[k].toNat ≤ 1))
    (F3 : Hid (getT l = .tuple #[.int .u64 (Em.val (l.take (k + 1)) : Int), .int .i64 ((k : Int) + 1), .bool true])) :
    Calls Tryz.prog 70 #[v] w fun e w' => e = .returned (getT l) ∧ w = w' := by
  have h0 := h
  obtain ⟨A, c, rfl, hlc, hcm, hr⟩ := h
  obtain ⟨ad, rfl, hcell⟩ := hr (by omega)
  have HC := hide hcell
  have hck := hcell k hk
  have hb := l[k].toNat_lt
  unfold bv at hck
  clear hcell hr
  have hkc : k + 1 ≤ c := by omega
  rcases hz with hz1 | ⟨hz1, hz2⟩
  all_goals
    go_enter Tryz.func70, Tryz.ntmps70
    go_wp2_with fail
    refine (varIdx _ l _ h0).mono ?_
    rintro e w' ⟨rfl, rfl⟩
    rw [F1.out]
    go_wp2_with fail
    refine (varLen8 _ _).mono ?_
    rintro e w' ⟨rfl, rfl⟩
    rw [← HM.out]
    go_wp2
    go_loop [2, 6, 7, 41] (fun v _ _ i => ∃ j : Nat, j ≤ k + 1 ∧ i = .int .i64 j ∧ v = .int .u64 (Em.val (l.take j) : Int)) (fun _ _ _ i => k + 1 - (intOf i).toNat)
    case atStart => exact ⟨0, by omega, rfl, by simp [Em.val]⟩
    case round =>
      obtain ⟨j, hj, rfl, rfl⟩ := hrel
      by_cases hlt : j < k + 1
      · have hjl : j < l.length := by omega
        have hcj := HC.out j hjl
        have hbj := l[j].toNat_lt
        unfold bv at hcj
        have g1 := top_go l[j]
        have g2 := group_go (Em.val (l.take j)) (l[j].toNat % 128) j (take_val_lt l j (by omega)) (group_lt hjl (by omega) h9 (fun e => by
          have h99 : k = 9 := (by omega)
          have := HG.out h99
          subst h99
          subst e
          exact this)) (by omega)
        rw [← val_step l j hjl] at g2
        have g0 : l[j].toNat % 128 < 128 := by omega
        generalize l[j].toNat % 128 = r at g0 g1 g2
        go_wp2
        go_round
        case rel => exact ⟨j + 1, by omega, by go_num, rfl⟩
        case measure => simp [intOf]; omega
      · obtain rfl : j = k + 1 := by omega
        go_wp2
        go_ret3
        exact ⟨by rw [F3.out]; rfl, rfl⟩
set_option maxHeartbeats 2000000 in
theorem varGet (v : Value) (l : List UInt8) (w : World) (h : Bs w v l) :
    Calls Tryz.prog 70 #[v] w fun e w' => e = .returned (getT l) ∧ w = w' := by
  have h0 := h
  obtain ⟨A, c, rfl, hlc, hcm, hr⟩ := h
  rcases fidx_cases l with ⟨f1, f2⟩ | ⟨k, hk, f1, f2, f3⟩
  · have F1 := hide f1
    have F2 := hide (show getT l = .tuple #[.int .u64 0, .int .i64 0, .bool false] from by unfold getT; rw [f2])
    clear f1 f2 hr
    go_enter Tryz.func70, Tryz.ntmps70
    go_wp2_with fail
    refine (varIdx _ l _ h0).mono ?_
    rintro e w' ⟨rfl, rfl⟩
    rw [F1.out]
    go_wp2
    go_ret3
    exact ⟨by rw [F2.out]; rfl, rfl⟩
  · obtain ⟨ad, rfl, hcell⟩ := hr (by omega)
    have F1 := hide f1
    have F2 := hide f2
    have hck := hcell k hk
    have hb := l[k].toNat_lt
    unfold bv at hck
    clear f1 f2 hcell hr
    by_cases h9 : k ≤ 9
    · by_cases hz : 0 < k ∧ l[k].toNat = 0
      · obtain ⟨hz1, hz2⟩ := hz
        have F3 := hide (getT_at hk F2.out f3 (.inl ⟨hz1, hz2⟩))
        rw [hz2] at hck
        simp only [Int.natCast_zero] at hck
        clear hz2 hb f3
        go_enter Tryz.func70, Tryz.ntmps70
        go_wp2_with fail
        refine (varIdx _ l _ h0).mono ?_
        rintro e w' ⟨rfl, rfl⟩
        rw [F1.out]
        go_wp2
        go_ret3
        exact ⟨by rw [F3.out]; rfl, rfl⟩
      · obtain ⟨fa, fb, fc⟩ := len8_facts ⟨l[k].toNat, hb⟩
        simp only at fa fb fc
        obtain ⟨m, hm⟩ : ∃ m : Nat, m = Lib.bitLen l[k].toNat := ⟨_, rfl⟩
        rw [← hm] at fa fb fc
        have HM := hide hm
        clear hm
        by_cases hbad : k = 9 ∧ 1 < l[k].toNat
        · have F3 := hide (getT_at hk F2.out f3 (.inr (.inr hbad)))
          obtain ⟨hb1, hb2⟩ := hbad
          have fb' := fb hb2
          have fc' := fc f3
          have hz0 : ((l[k].toNat : Int) == 0) = false := by rw [beq_eq_false_iff_ne]; omega
          have hk9 : 9 ≤ k := by omega
          clear hb1 fa fb fc hz
          go_enter Tryz.func70, Tryz.ntmps70
          go_wp2_with fail
          refine (varIdx _ l _ h0).mono ?_
          rintro e w' ⟨rfl, rfl⟩
          rw [F1.out]
          go_wp2_with fail
          refine (varLen8 l[k] _).mono ?_
          rintro e w' ⟨rfl, rfl⟩
          rw [← HM.out]
          go_wp2
          go_ret3
          exact ⟨by rw [F3.out]; rfl, rfl⟩
        · have F3 := hide (getT_val hk F2.out f3 (by rintro (h1 | h1 | h1) <;> omega))
          refine varGet_good _ l w h0 k hk F1 F2 f3 h9 ?_ m HM ?_ (hide (by omega)) F3
          · rcases Nat.eq_zero_or_pos k with h1 | h1
            · exact .inl (by omega)
            · refine .inr ⟨h1, ?_⟩
              rw [beq_eq_false_iff_ne]
              intro h2
              exact hz ⟨h1, by omega⟩
          · have := fc f3
            rcases Nat.lt_or_ge k 9 with h1 | h1
            · omega
            · have : k = 9 := by omega
              have := fa (by omega)
              omega
    · have F3 := hide (getT_at hk F2.out f3 (.inr (.inl (by omega))))
      go_enter Tryz.func70, Tryz.ntmps70
      go_wp2_with fail
      refine (varIdx _ l _ h0).mono ?_
      rintro e w' ⟨rfl, rfl⟩
      rw [F1.out]
      go_wp2
      go_ret3
      exact ⟨by rw [F3.out]; rfl, rfl⟩

theorem Bs.take {w : World} {ad : Addr} {n c : Nat} {l : List UInt8} (h : Bs w (.slice (some ad) n c) l) (hn : n = l.length) (k : Nat) (hk : k ≤ l.length) : Bs w (.slice (some ad) k c) (l.take k) := by
  subst hn
  obtain ⟨A, c', e, h1, h2, h3⟩ := h
  cases e
  have hl : (l.take k).length = k := by rw [List.length_take]; omega
  refine ⟨some ad, c, by rw [hl], by rw [hl]; omega, h2, fun hp => ?_⟩
  rw [hl] at hp
  obtain ⟨ad', e, hc⟩ := h3 (by omega)
  cases e
  exact ⟨ad, rfl, fun j hj => by rw [hc j (by omega)]; simp⟩
/-- The number so far, of 64 digits. -/
def vmod (l : List UInt8) (k : Nat) : Nat := Em.val (l.take k) % 18446744073709551616
theorem top_127 : ∀ x : Fin 256, x.1 &&& 127 = x.1 % 128 := by decide +kernel
theorem and_go127 (b : UInt8) : bits .and .u8 (b.toNat : Int) 127 = ((b.toNat % 128 : Nat) : Int) := by
  rw [show (127 : Int) = ((127 : Nat) : Int) from rfl, u8_and_nat _ _ b.toNat_lt (by omega), top_127 ⟨b.toNat, b.toNat_lt⟩]
theorem vmod_lt (l : List UInt8) (k : Nat) : vmod l k < 18446744073709551616 := by unfold vmod; omega
theorem vmod_go (l : List UInt8) (k : Nat) (h : k < l.length) (hk : k < 10) :
    bits .or .u64 (vmod l k : Int) (IntKind.u64.wrap (((l[k].toNat % 128 : Nat) : Int) * 2 ^ (7 * k))) = (vmod l (k + 1) : Int) := by
  have hv := take_val_lt l k (by omega)
  have h9 := pow_mono9 (Nat.le_refl k) (by omega)
  have e1 : vmod l k = Em.val (l.take k) := by unfold vmod; omega
  have e2 := val_step l k h
  have e3 : vmod l (k + 1) = (Em.val (l.take k) + l[k].toNat % 128 * 128 ^ k) % 18446744073709551616 := by unfold vmod; rw [e2]
  rw [e1, e3]
  rcases Nat.lt_or_ge k 9 with h8 | h8
  · have h3 : 128 ^ k ≤ 128 ^ 8 := Nat.pow_le_pow_right (by omega) (by omega)
    have h4 : l[k].toNat % 128 * 128 ^ k ≤ 127 * 128 ^ 8 := Nat.mul_le_mul (by omega) h3
    rw [group_go (Em.val (l.take k)) (l[k].toNat % 128) k hv (by omega) (by omega), Nat.mod_eq_of_lt (a := Em.val (l.take k) + l[k].toNat % 128 * 128 ^ k) (by omega)]
  · have hk9 : k = 9 := by omega
    subst hk9
    generalize Em.val (l.take 9) = v at *
    generalize l[9].toNat % 128 = r at *
    have e4 : IntKind.u64.wrap ((r : Int) * 2 ^ (7 * 9)) = IntKind.u64.wrap (((r % 2 : Nat) : Int) * 2 ^ (7 * 9)) := by
      rw [IntKind.wrap_u64, IntKind.wrap_u64]
      omega
    rw [e4, group_go _ _ _ hv (by omega) (by omega)]
    omega
theorem getT_eq {l : List UInt8} {k nv : Nat} (h : nv < 18446744073709551616) (hl : k < l.length) (he : Em.putN nv = l.take (k + 1)) : getT l = .tuple #[.int .u64 (nv : Int), .int .i64 ((k : Int) + 1), .bool true] := by
  have h1 := Em.get_put h (l.drop (k + 1))
  rw [he, List.take_append_drop, List.length_take, Nat.min_eq_left (by omega)] at h1
  unfold getT
  rw [h1]
  rfl
theorem getT_ne {l : List UInt8} {k : Nat} (hl : k < l.length) (hp : ∀ x ∈ l.take k, 128 ≤ x.toNat) (hx : l[k].toNat < 128) (hne : Em.putN (vmod l (k + 1)) ≠ l.take (k + 1)) : getT l = .tuple #[.int .u64 0, .int .i64 0, .bool false] := by
  have h1 := Em.dec_at l 0 k hl hp hx
  by_cases hc : (0 < 0 + k ∧ l[k].toNat = 0) ∨ 9 < 0 + k ∨ (0 + k = 9 ∧ 1 < l[k].toNat)
  · rw [if_pos hc] at h1
    unfold getT Em.getN
    rw [h1]
  · rw [if_neg hc] at h1
    obtain ⟨h2, h3, _⟩ := Em.get_some (b := l) h1
    exfalso
    apply hne
    unfold vmod
    rw [Nat.mod_eq_of_lt h2]
    exact h3.symm
theorem getT_end {l : List UInt8} {k : Nat} (hk : k ≤ l.length) (h : k = l.length ∨ k = 10) (hp : ∀ x ∈ l.take k, 128 ≤ x.toNat) : getT l = .tuple #[.int .u64 0, .int .i64 0, .bool false] := by
  rcases fidx_cases l with ⟨_, h2⟩ | ⟨j, hj, _, h3, h4⟩
  · unfold getT
    rw [h2]
  · have hkj : k ≤ j := by
      rcases Nat.lt_or_ge j k with hlt | hge
      · have := hp l[j] (List.mem_take_iff_getElem.2 ⟨j, by omega, rfl⟩)
        omega
      · exact hge
    exact getT_at hj h3 h4 (.inr (.inl (by omega)))
set_option maxHeartbeats 4000000 in
theorem refGet (v : Value) (l : List UInt8) (w : World) (h : Bs w v l) :
    Calls Tryz.prog 80 #[v] w fun e w' => e = .returned (getT l) ∧ Keep w w' := by
  have h0 := h
  obtain ⟨A, c, rfl, hlc, hcm, hr⟩ := h
  have hcv : ∀ W u x, Bs W u x → (convert 22 9 u).run Tryz.prog W = .ok (.string (str x)) W := fun W u x hb => run_conv_bs hb _ _ _ Tryz.underlying22 Tryz.underlying5 Tryz.underlying9
  go_enter Tryz.func80, Tryz.ntmps80
  go_wp2
  go_loop [5, 6] (fun v i => ∃ k : Nat, k ≤ l.length ∧ k ≤ 10 ∧ i = .int .i64 k ∧ v = .int .u64 (vmod l k : Int) ∧ ∀ x ∈ l.take k, 128 ≤ x.toNat) (fun _ i => l.length - (intOf i).toNat)
  case atStart => exact ⟨0, by omega, by omega, rfl, by simp [vmod, Em.val], by simp⟩
  case round =>
    obtain ⟨k, hk, hk10, rfl, rfl, hp⟩ := hrel
    have hP := hide hp
    clear hp
    by_cases hlt : k < l.length
    · by_cases h10 : k < 10
      · obtain ⟨ad, rfl, hcell⟩ := hr (by omega)
        have hck := hcell k hlt
        have hb := l[k].toNat_lt
        unfold bv at hck
        have f1 := and_go127 l[k]
        have f2 := vmod_go l k hlt h10
        have f0 : l[k].toNat % 128 < 128 := by omega
        generalize l[k].toNat % 128 = r at f0 f1 f2
        clear hcell hr
        by_cases hx : l[k].toNat < 128
        · have hnv := hide (vmod_lt l (k + 1))
          have hkc : k + 1 ≤ c := by omega
          have ht := h0.take rfl (k + 1) hlt
          obtain ⟨b, hbq⟩ : ∃ b : Bool, b = !decide (Em.putN (vmod l (k + 1)) = l.take (k + 1)) := ⟨_, rfl⟩
          have F1 : Hid (b = false → getT l = .tuple #[.int .u64 (vmod l (k + 1) : Int), .int .i64 ((k : Int) + 1), .bool true]) := fun e => getT_eq hnv.out hlt (by
            rw [e] at hbq
            simpa using hbq)
          have F2 : Hid (b = true → getT l = .tuple #[.int .u64 0, .int .i64 0, .bool false]) := fun e => getT_ne hlt hP.out hx (by
            rw [e] at hbq
            simpa using hbq)
          have G := hide hbq
          clear hbq
          generalize vmod l (k + 1) = nv at f2 hnv F1 G
          generalize l.take (k + 1) = t at G ht
          go_wp2
          refine region_rel (by kernel_rfl) Keep krf ktr [some 34, some 35, some 36, some 37, some 38, some 39, some 40, some 41, some 42]
            [fun _ v => v = .int .u64 (nv : Int), fun W v => Bs W v (Em.putN nv), fun _ v => v = .string (str (Em.putN nv)), fun _ v => v = .slice (some ad) l.length c, fun _ v => v = .int .i64 (k : Int), fun _ v => v = .int .i64 ((k : Int) + 1), fun _ v => v = .slice (some ad) ((k + 1 : Nat)) c, fun _ v => v = .string (str t), fun _ v => v = .bool b]
            [[], [0], [1], [], [], [4], [3, 5], [6], [2, 7]] [[], [], [], [], [], [], [], [], []] (by kernel_rfl) ⟨?_, ?_, ?_, ?_, ?_, ?_, ?_, ?_, ?_, trivial⟩ ?_
          · (intro us W hl99 hW hd hs K hK; obtain ⟨u0, u1, u2, u3, u4, u5, u6, u7, u8, rfl⟩ := rro 9 hl99 rfl; clear hl99; simp only [fillD, List.set_cons_zero, List.set_cons_succ])
            refine wantedN rfl ?_
            go_wp2
            exact ⟨_, rfl, Keep.rf _, fun _ _ => rfl⟩
          · (intro us W hl99 hW hd hs K hK; obtain ⟨u0, u1, u2, u3, u4, u5, u6, u7, u8, rfl⟩ := rro 9 hl99 rfl; clear hl99; simp only [fillD, List.set_cons_zero, List.set_cons_succ])
            obtain ⟨rfl, -⟩ := hd
            refine wantedN rfl ?_
            go_wp2_with (go_at_call 88; refine (refPut nv hnv.out _).mono ?_; rintro e w' ⟨r, rfl, ho, hk'⟩)
            exact ⟨_, rfl, hk', fun _ hk'' => ho.bs.keep hk''⟩
          · (intro us W hl99 hW hd hs K hK; obtain ⟨u0, u1, u2, u3, u4, u5, u6, u7, u8, rfl⟩ := rro 9 hl99 rfl; clear hl99; simp only [fillD, List.set_cons_zero, List.set_cons_succ])
            obtain ⟨hd, -⟩ := hd
            have hd2 : Bs W u1 (Em.putN nv) := hd
            have hd1 := hcv _ _ _ hd2
            refine wantedN rfl ?_
            go_wp2
            exact ⟨_, rfl, Keep.rf _, fun _ _ => rfl⟩
          · (intro us W hl99 hW hd hs K hK; obtain ⟨u0, u1, u2, u3, u4, u5, u6, u7, u8, rfl⟩ := rro 9 hl99 rfl; clear hl99; simp only [fillD, List.set_cons_zero, List.set_cons_succ])
            refine wantedN rfl ?_
            go_wp2
            exact ⟨_, rfl, Keep.rf _, fun _ _ => rfl⟩
          · (intro us W hl99 hW hd hs K hK; obtain ⟨u0, u1, u2, u3, u4, u5, u6, u7, u8, rfl⟩ := rro 9 hl99 rfl; clear hl99; simp only [fillD, List.set_cons_zero, List.set_cons_succ])
            refine wantedN rfl ?_
            go_wp2
            exact ⟨_, rfl, Keep.rf _, fun _ _ => rfl⟩
          · (intro us W hl99 hW hd hs K hK; obtain ⟨u0, u1, u2, u3, u4, u5, u6, u7, u8, rfl⟩ := rro 9 hl99 rfl; clear hl99; simp only [fillD, List.set_cons_zero, List.set_cons_succ])
            obtain ⟨rfl, -⟩ := hd
            refine wantedN rfl ?_
            go_wp2
            exact ⟨_, rfl, Keep.rf _, fun _ _ => rfl⟩
          · (intro us W hl99 hW hd hs K hK; obtain ⟨u0, u1, u2, u3, u4, u5, u6, u7, u8, rfl⟩ := rro 9 hl99 rfl; clear hl99; simp only [fillD, List.set_cons_zero, List.set_cons_succ])
            obtain ⟨rfl, rfl, -⟩ := hd
            refine wantedN rfl ?_
            go_wp2
            exact ⟨_, rfl, Keep.rf _, fun _ _ => rfl⟩
          · (intro us W hl99 hW hd hs K hK; obtain ⟨u0, u1, u2, u3, u4, u5, u6, u7, u8, rfl⟩ := rro 9 hl99 rfl; clear hl99; simp only [fillD, List.set_cons_zero, List.set_cons_succ])
            obtain ⟨rfl, -⟩ := hd
            have hd1 := hcv W _ _ (ht.keep (Keep.tr (Keep.dr (Keep.rf w)) hW))
            refine wantedN rfl ?_
            go_wp2
            exact ⟨_, rfl, Keep.rf _, fun _ _ => rfl⟩
          · (intro us W hl99 hW hd hs K hK; obtain ⟨u0, u1, u2, u3, u4, u5, u6, u7, u8, rfl⟩ := rro 9 hl99 rfl; clear hl99; simp only [fillD, List.set_cons_zero, List.set_cons_succ])
            obtain ⟨rfl, rfl, -⟩ := hd
            have hs1 : ((str (Em.putN nv)).toList == (str t).toList) = !b := by rw [str_lbeq, G.out, Bool.not_not]
            refine wantedN rfl ?_
            go_wp2
            exact ⟨_, rfl, Keep.rf _, fun _ _ => rfl⟩
          · (intro us W hl99 hW hA; obtain ⟨u0, u1, u2, u3, u4, u5, u6, u7, u8, rfl⟩ := rro 9 hl99 rfl; clear hl99; simp only [fillD, List.set_cons_zero, List.set_cons_succ])
            obtain ⟨rfl, h1, rfl, rfl, rfl, rfl, rfl, rfl, rfl, -⟩ := hA
            have hWk := Keep.tr (Keep.dr (Keep.rf w)) hW
            go_wp2
            · have e1 : b = true := by assumption
              subst e1
              go_ret3
              exact ⟨by rw [F2.out rfl]; rfl, hWk⟩
            · have e1 : b = false := by assumption
              subst e1
              go_ret3
              exact ⟨by rw [F1.out rfl]; rfl, hWk⟩
        · have hn := hide (Em.fidx_on hlt hP.out hx)
          go_wp2
          go_round
          case rel => exact ⟨k + 1, by omega, by omega, by go_num, rfl, hn.out⟩
          case measure => simp [intOf]; omega
      · have F := hide (getT_end hk (.inr (by omega)) hP.out)
        go_wp2
        go_ret3
        exact ⟨by rw [F.out]; rfl, Keep.rf _⟩
    · have F := hide (getT_end hk (.inl (by omega)) hP.out)
      go_wp2
      go_ret3
      exact ⟨by rw [F.out]; rfl, Keep.rf _⟩
end Go.Proofs.YtoehaijmkmdggaaGreat
