/- Walks: frame.Get and its reference. -/
import Derived.Test.YtcbkklfdeloeeaaFrameW
import Derived.Test.YtcbkklfdeloeeaaRegRel
import Derived.Test.YtcbkklfdeloeeaaLibE
import Derived.Lib.SliceRun
namespace Go.Proofs.Ytcbkklfdeloeeaa
open Go.RowKit
set_option linter.unusedVariables false
set_option maxRecDepth 100000
theorem Bs.take0 {w : World} {A : Option Addr} {n c : Nat} {l : List UInt8} (h : Bs w (.slice A n c) l) (k : Nat) (hk : k ≤ l.length) : Bs w (.slice A k c) (l.take k) := by
  obtain ⟨A', c', e, h1, h2, h3⟩ := h
  injection e with e1 e2 e3
  subst e1 e2 e3
  refine ⟨A, c, by rw [List.length_take, Nat.min_eq_left hk], by rw [List.length_take]; omega, h2, fun hp => ?_⟩
  rw [List.length_take] at hp
  obtain ⟨ad, e, hc⟩ := h3 (by omega)
  refine ⟨ad, e, fun j hj => ?_⟩
  rw [List.length_take] at hj
  rw [hc j (by omega), List.getElem_take]
theorem Bs.drop {w : World} {ad : Addr} {n c : Nat} {l : List UInt8} (h : Bs w (.slice (some ad) n c) l) (k : Nat) (hk : k ≤ l.length) : Bs w (.slice (some (ad.add k)) (n - k) (c - k)) (l.drop k) := by
  obtain ⟨A', c', e, h1, h2, h3⟩ := h
  injection e with e1 e2 e3
  subst e1 e2 e3
  refine ⟨some (ad.add k), c - k, by rw [List.length_drop], by rw [List.length_drop]; omega, by omega, fun hp => ?_⟩
  rw [List.length_drop] at hp
  obtain ⟨ad', e, hc⟩ := h3 (by omega)
  injection e with e
  subst e
  refine ⟨_, rfl, fun j hj => ?_⟩
  rw [List.length_drop] at hj
  have := hc (k + j) (by omega)
  rw [List.getElem_drop, ← this]
  congr 1
  unfold Addr.add
  (repeat' split) <;> simp_all <;> omega
theorem pre_take (l m : List UInt8) : decide (l.take m.length = m) = decide (m <+: l) := by
  rw [decide_eq_decide, List.prefix_iff_eq_take]
  exact eq_comm
theorem pre_short (l m : List UInt8) (h : ¬ m.length ≤ l.length) : false = decide (m <+: l) := by
  rw [eq_comm, decide_eq_false_iff_not]
  intro hp
  exact h hp.length_le
set_option maxHeartbeats 1000000 in
theorem bytesPrefix (v u : Value) (l m : List UInt8) (w : World) (h : Bs w v l) (h2 : Bs w u m) : Calls Try.prog 138 #[v, u] w fun e w' => e = .returned (.bool (decide (m <+: l))) ∧ w = w' := by
  have h1 := h
  have h3 := h2
  obtain ⟨A, c, rfl, hlc, hcm, hr⟩ := h
  obtain ⟨A2, cc2, rfl, hlc2, hcm2, hr2⟩ := h2
  by_cases hl : m.length ≤ l.length
  · go_enter Try.func138, Try.ntmps138
    go_wp2_with fail
    refine (bytesEqual _ _ (l.take m.length) m _ (h1.take0 _ hl) h3).mono ?_
    rintro e w' ⟨rfl, rfl⟩
    rw [pre_take]
    go_wp2
    go_ret
    exact ⟨rfl, rfl⟩
  · go_enter Try.func138, Try.ntmps138
    go_wp2
    go_ret
    exact ⟨by rw [← pre_short l m hl]; rfl, rfl⟩
set_option maxHeartbeats 1000000 in
theorem bytesClone (v : Value) (l : List UInt8) (w : World) (h : Bs w v l) (hl : l.length ≤ 1000000) : Calls Try.prog 79 #[v] w (RetB w l) := by
  have h0 := h
  obtain ⟨A, c, rfl, hlc, hcm, hr⟩ := h
  have kn := fun W A n c => Lib.run_eql_slice_nil (P := Try.prog) W 29 5 A n c 0 0 Try.underlying29
  rcases A with _ | ad
  · have h00 : l = [] := by
      rcases Nat.eq_zero_or_pos l.length with h0 | h0
      · exact List.eq_nil_of_length_eq_zero h0
      · obtain ⟨_, e, _⟩ := hr h0
        cases e
    subst h00
    clear hr
    go_enter Try.func79, Try.ntmps79
    go_wp2
    go_ret
    exact ⟨_, rfl, Ob.nil _ _ _, Keep.rf _⟩
  · clear hr
    go_enter Try.func79, Try.ntmps79
    go_wp2_with (at_builtin; refine appB (w0 := w) rfl (.tmp 5) (.tmp 6) rfl _ [] rfl (Ob.new [] rfl rfl rfl (Nat.le_refl _) (by simp)) _ _ rfl (h0.keep (by repeat (first | exact Keep.rf _ | assumption | apply Keep.al | apply Keep.dr | apply Keep.dn))) (by repeat (first | exact Keep.rf _ | assumption | apply Keep.al | apply Keep.dr | apply Keep.dn)) (by simp; omega) ?_; intro v2 w2 ho2 hk2 hg2 hat2)
    go_ret
    exact ⟨_, rfl, ho2, hk2⟩
/-- What Get answers. -/
def RetG (w : World) (l : List UInt8) (e : Ending) (w' : World) : Prop := Keep w w' ∧ match Em.getF l with
  | none => e = .returned (.tuple #[.int .u8 0, .slice none 0 0, .int .i64 0, .bool false])
  | some (k, b, n) => ∃ v, e = .returned (.tuple #[.int .u8 (k.toNat : Int), v, .int .i64 (n : Int), .bool true]) ∧ Bs w' v b
theorem RetG.no {w w' : World} {l : List UInt8} (hk : Keep w w') (h : Em.getF l = none) : RetG w l (.returned (.tuple #[.int .u8 0, .slice none 0 0, .int .i64 0, .bool false])) w' := ⟨hk, by rw [h]⟩
theorem getF_none1 {k : UInt8} {t : List UInt8} (h : Em.getN t = none) : Em.getF (k :: t) = none := by rw [Em.getF, h]
theorem getF_none2 {k : UInt8} {t : List UInt8} {v n : Nat} (h : Em.getN t = some (v, n)) (h2 : 4000 < v ∨ t.length < n + v + 4) : Em.getF (k :: t) = none := by
  rw [Em.getF, h]
  simp only [List.length_cons]
  rw [if_pos (by omega)]
theorem getF_go {k : UInt8} {t : List UInt8} {v n : Nat} (h : Em.getN t = some (v, n)) (h1 : v ≤ 4000) (h2 : n + v + 4 ≤ t.length) : Em.getF (k :: t) = if decide (Em.frame k ((t.drop n).take v) <+: k :: t) = true then some (k, (t.drop n).take v, (Em.frame k ((t.drop n).take v)).length) else none := by
  rw [Em.getF, h]
  simp only [List.length_cons]
  rw [if_neg (by omega)]
  simp
theorem frame_len_le (k : UInt8) (b : List UInt8) (h : b.length ≤ 4000) : (Em.frame k b).length ≤ 5000 := by
  have := Em.putN_len10 (v := b.length) (by omega)
  rw [Em.frame_len]
  omega
theorem getT_none {t : List UInt8} (h : Em.getN t = none) : getT t = .tuple #[.int .u64 0, .int .i64 0, .bool false] := by unfold getT; rw [h]
theorem getT_some {t : List UInt8} {v n : Nat} (h : Em.getN t = some (v, n)) : getT t = .tuple #[.int .u64 (v : Int), .int .i64 (n : Int), .bool true] := by unfold getT; rw [h]
theorem results_tmp4 {fn : Func} {t u v x : Tmp} (h : fn.results = #[.tmp t, .tmp u, .tmp v, .tmp x]) (tmps : Array Value) (P : Program) (w : World) : (results fn tmps).run P w = .ok (.tuple #[tmps.getD t undef, tmps.getD u undef, tmps.getD v undef, tmps.getD x undef]) w := by
  simp [results, h]
theorem frame_here {k : UInt8} {t b : List UInt8} {m n : Nat} (hb : (t.drop n).take m = b) (h : m + n + 4 ≤ t.length) : b.length = m := by
  rw [← hb, List.length_take, List.length_drop]
  omega
set_option maxHeartbeats 2000000 in
theorem frameGet (v : Value) (l : List UInt8) (w : World) (h : Bs w v l) : Calls Try.prog 131 #[v] w (RetG w l) := by
  have h0 := h
  cases l with
  | nil =>
    obtain ⟨A, c, rfl, hlc, hcm, hr⟩ := h
    clear hr
    go_enter Try.func131, Try.ntmps131
    go_wp2
    refine bodyPost_ret (results_tmp4 rfl _ _ _) rfl ?_
    exact RetG.no (Keep.rf _) rfl
  | cons k t =>
    obtain ⟨A, c, rfl, hlc, hcm, hr⟩ := h
    obtain ⟨ad, rfl, hcell⟩ := hr (by simp)
    have hc0 := hcell 0 (by simp)
    simp only [List.length_cons, List.getElem_cons_zero] at hc0 hlc
    rw [show ad.add 0 = ad from rfl] at hc0
    unfold bv at hc0
    have HC := hide hc0
    clear hcell hr hc0
    have hkl := k.toNat_lt
    simp only [List.length_cons] at h0 ⊢
    rcases hg : Em.getN t with _ | ⟨m, n⟩
    · have HT := hide (getT_none hg)
      have HF := hide (getF_none1 (k := k) hg)
      clear hg
      go_enter Try.func131, Try.ntmps131
      go_wp2_with (first
        | (refine slFrom rfl (.tmp 14) (.const (.int .i64 1)) _ _ rfl Try.underlying29 sizeU8 _ _ rfl h0 _ _ rfl 1 rfl t.length (by simp; omega) ?_; intro A1 c1 hd hd1 hd2; simp only [List.drop_succ_cons, List.drop_zero] at hd)
        | fail)
      go_loud (refine (varGet _ t _ hd).mono ?_)
      rintro e w' ⟨rfl, rfl⟩
      rw [HT.out]
      go_wp2
      refine bodyPost_ret (results_tmp4 rfl _ _ _) rfl ?_
      exact RetG.no (Keep.rf _) HF.out
    · have HT := hide (getT_some hg)
      obtain ⟨g1, g2, g3, g4⟩ := Em.get_some hg
      have HM := hide g1
      clear g1 g2 g3
      by_cases hc : 4000 < m
      · have HF := hide (getF_none2 (k := k) hg (.inl hc))
        clear hg
        go_enter Try.func131, Try.ntmps131
        go_wp2_with (first
          | (refine slFrom rfl (.tmp 14) (.const (.int .i64 1)) _ _ rfl Try.underlying29 sizeU8 _ _ rfl h0 _ _ rfl 1 rfl t.length (by simp; omega) ?_; intro A1 c1 hd hd1 hd2; simp only [List.drop_succ_cons, List.drop_zero] at hd)
          | fail)
        refine (varGet _ t _ hd).mono ?_
        rintro e w' ⟨rfl, rfl⟩
        rw [HT.out]
        go_wp2
        refine bodyPost_ret (results_tmp4 rfl _ _ _) rfl ?_
        exact RetG.no (Keep.rf _) HF.out
      · by_cases hs : t.length < n + m + 4
        · have HF := hide (getF_none2 (k := k) hg (.inr hs))
          clear hg
          go_enter Try.func131, Try.ntmps131
          go_wp2_with (first
            | (refine slFrom rfl (.tmp 14) (.const (.int .i64 1)) _ _ rfl Try.underlying29 sizeU8 _ _ rfl h0 _ _ rfl 1 rfl t.length (by simp; omega) ?_; intro A1 c1 hd hd1 hd2; simp only [List.drop_succ_cons, List.drop_zero] at hd)
            | fail)
          refine (varGet _ t _ hd).mono ?_
          rintro e w' ⟨rfl, rfl⟩
          rw [HT.out]
          go_wp2
          refine bodyPost_ret (results_tmp4 rfl _ _ _) rfl ?_
          exact RetG.no (Keep.rf _) HF.out
        · have HF := hide (getF_go (k := k) hg (by omega) (by omega))
          clear hg
          have hbl : ((t.drop n).take m).length ≤ m := List.length_take_le _ _
          have hfl := frame_len_le k ((t.drop n).take m) (by omega)
          have hb := hide (rfl : (t.drop n).take m = (t.drop n).take m)
          go_enter Try.func131, Try.ntmps131
          go_wp2_with (first
            | (refine slFrom rfl (.tmp 14) (.const (.int .i64 1)) _ _ rfl Try.underlying29 sizeU8 _ _ rfl h0 _ _ rfl 1 rfl t.length (by simp; omega) ?_; intro A1 c1 hd hd1 hd2; simp only [List.drop_succ_cons, List.drop_zero] at hd)
            | fail)
          refine (varGet _ t _ hd).mono ?_
          rintro e w' ⟨rfl, rfl⟩
          rw [HT.out]
          go_wp2_with (first
            | (refine slFrom rfl (.tmp 37) (.tmp 39) _ _ rfl Try.underlying29 sizeU8 _ _ rfl h0 _ _ rfl (n + 1) (by omega) (t.length - n) (by simp; omega) ?_; intro A3 c3 hd3 hd31 hd32; simp only [List.drop_succ_cons] at hd3)
            | (refine slTo rfl (.tmp 40) (.tmp 41) _ _ rfl Try.underlying29 sizeU8 _ _ rfl hd3 _ _ rfl m rfl (by simp; omega) ?_; intro A4 c4 hd4 hd41 hd42)
            | fail)
          refine (bytesClone _ _ _ hd4 (by omega)).mono ?_
          rintro e w1 ⟨r, rfl, ho, hk1⟩
          have hb : ((t.drop n).take m).length ≤ 4000 := by omega
          generalize (t.drop n).take m = b at HF hfl ho hb
          have hc0 := Keep.cell hk1 HC.out
          go_wp2_with fail
          refine (framePut k _ b _ ho.bs hb).mono ?_
          rintro e w2 ⟨r2, rfl, ho2, hk2⟩
          obtain ⟨A2, c2, rfl⟩ := ho2.slice
          have hc2 := Keep.cell hk2 hc0
          have hkk := Keep.tr hk1 hk2
          have hob := ho.bs.keep hk2
          obtain ⟨A5, c5, rfl⟩ := ho.slice
          clear hc0
          go_wp2_with fail
          have e2 := h0.keep hkk
          refine (bytesPrefix _ _ (k :: t) (Em.frame k b) _ (by simpa using e2) ho2.bs).mono ?_
          rintro e w' ⟨rfl, rfl⟩
          generalize decide (Em.frame k b <+: k :: t) = q at HF
          cases q with
          | false =>
            go_wp2
            refine bodyPost_ret (results_tmp4 rfl _ _ _) rfl ?_
            exact RetG.no hkk (by rw [HF.out]; rfl)
          | true =>
            go_wp2
            refine bodyPost_ret (results_tmp4 rfl _ _ _) rfl ?_
            refine ⟨hkk, ?_⟩
            rw [HF.out]
            exact ⟨_, rfl, hob⟩
theorem ref_ok {k : UInt8} {t b : List UInt8} {m n : Nat} (hb : (t.drop n).take m = b) : decide (Em.frame k b = (k :: t).take (Em.frame k b).length) = decide (Em.frame k b <+: k :: t) := by
  rw [decide_eq_decide, List.prefix_iff_eq_take]
set_option maxHeartbeats 2000000 in
theorem refFGet (v : Value) (l : List UInt8) (w : World) (h : Bs w v l) : Calls Try.prog 132 #[v] w (RetG w l) := by
  have h0 := h
  cases l with
  | nil =>
    obtain ⟨A, c, rfl, hlc, hcm, hr⟩ := h
    clear hr
    go_enter Try.func132, Try.ntmps132
    go_wp2
    refine bodyPost_ret (results_tmp4 rfl _ _ _) rfl ?_
    exact RetG.no (Keep.rf _) rfl
  | cons k t =>
    obtain ⟨A, c, rfl, hlc, hcm, hr⟩ := h
    obtain ⟨ad, rfl, hcell⟩ := hr (by simp)
    have hc0 := hcell 0 (by simp)
    simp only [List.length_cons, List.getElem_cons_zero] at hc0 hlc
    rw [show ad.add 0 = ad from rfl] at hc0
    unfold bv at hc0
    have HC := hide hc0
    clear hcell hr hc0
    have hkl := k.toNat_lt
    simp only [List.length_cons] at h0 ⊢
    rcases hg : Em.getN t with _ | ⟨m, n⟩
    · have HT := hide (getT_none hg)
      have HF := hide (getF_none1 (k := k) hg)
      clear hg
      go_enter Try.func132, Try.ntmps132
      go_wp2_with (first
        | (refine slFrom rfl (.tmp 16) (.const (.int .i64 1)) _ _ rfl Try.underlying29 sizeU8 _ _ rfl h0 _ _ rfl 1 rfl t.length (by simp; omega) ?_; intro A1 c1 hd hd1 hd2; simp only [List.drop_succ_cons, List.drop_zero] at hd)
        | fail)
      refine (refGet _ t _ hd).mono ?_
      rintro e w1 ⟨rfl, hk1⟩
      rw [HT.out]
      go_wp2
      refine bodyPost_ret (results_tmp4 rfl _ _ _) rfl ?_
      exact RetG.no hk1 HF.out
    · have HT := hide (getT_some hg)
      obtain ⟨g1, g2, g3, g4⟩ := Em.get_some hg
      have HM := hide g1
      have G3 := hide g3
      clear g1 g2 g3
      by_cases hc : 4000 < m
      · have HF := hide (getF_none2 (k := k) hg (.inl hc))
        clear hg
        go_enter Try.func132, Try.ntmps132
        go_wp2_with (first
          | (refine slFrom rfl (.tmp 16) (.const (.int .i64 1)) _ _ rfl Try.underlying29 sizeU8 _ _ rfl h0 _ _ rfl 1 rfl t.length (by simp; omega) ?_; intro A1 c1 hd hd1 hd2; simp only [List.drop_succ_cons, List.drop_zero] at hd)
          | fail)
        refine (refGet _ t _ hd).mono ?_
        rintro e w1 ⟨rfl, hk1⟩
        rw [HT.out]
        go_wp2
        refine bodyPost_ret (results_tmp4 rfl _ _ _) rfl ?_
        exact RetG.no hk1 HF.out
      · by_cases hs : t.length < n + m + 4
        · have HF := hide (getF_none2 (k := k) hg (.inr hs))
          clear hg
          go_enter Try.func132, Try.ntmps132
          go_wp2_with (first
            | (refine slFrom rfl (.tmp 16) (.const (.int .i64 1)) _ _ rfl Try.underlying29 sizeU8 _ _ rfl h0 _ _ rfl 1 rfl t.length (by simp; omega) ?_; intro A1 c1 hd hd1 hd2; simp only [List.drop_succ_cons, List.drop_zero] at hd)
            | fail)
          refine (refGet _ t _ hd).mono ?_
          rintro e w1 ⟨rfl, hk1⟩
          rw [HT.out]
          go_wp2
          refine bodyPost_ret (results_tmp4 rfl _ _ _) rfl ?_
          exact RetG.no hk1 HF.out
        · have HF := hide (getF_go (k := k) hg (by omega) (by omega))
          clear hg
          have hbl : ((t.drop n).take m).length ≤ m := List.length_take_le _ _
          have hfl := frame_len_le k ((t.drop n).take m) (by omega)
          have hfl2 : (Em.frame k ((t.drop n).take m)).length ≤ t.length + 1 := by
            rw [Em.frame_len, show ((t.drop n).take m).length = m from by simp; omega, ← G3.out]
            omega
          go_enter Try.func132, Try.ntmps132
          go_wp2_with (first
            | (refine slFrom rfl (.tmp 16) (.const (.int .i64 1)) _ _ rfl Try.underlying29 sizeU8 _ _ rfl h0 _ _ rfl 1 rfl t.length (by simp; omega) ?_; intro A1 c1 hd hd1 hd2; simp only [List.drop_succ_cons, List.drop_zero] at hd)
            | fail)
          refine (refGet _ t _ hd).mono ?_
          rintro e w1 ⟨rfl, hk1⟩
          rw [HT.out]
          have h1 := h0.keep hk1
          have hc0 := Keep.cell hk1 HC.out
          go_wp2_with (first
            | (refine slMid rfl (.tmp 39) (.tmp 41) (.tmp 46) _ _ rfl Try.underlying29 sizeU8 _ _ rfl h1 _ _ _ _ rfl rfl (n + 1) m (by omega) (by omega) (by simp; omega) ?_; intro A3 c3 hd3 hd31 hd32; simp only [List.drop_succ_cons] at hd3)
            | fail)
          have hb : ((t.drop n).take m).length ≤ 4000 := by omega
          have HE := hide (ref_ok (k := k) (rfl : (t.drop n).take m = _))
          generalize (t.drop n).take m = b at HF hfl hfl2 hd3 hb HE
          refine (refFPut k _ b _ hd3 hb).mono ?_
          rintro e w2 ⟨r2, rfl, ho2, hk2⟩
          obtain ⟨A2, c2, rfl⟩ := ho2.slice
          have hc2 := Keep.cell hk2 hc0
          have hkk := Keep.tr hk1 hk2
          have hob := hd3.keep hk2
          clear hc0
          have e2 : Bs w2 _ (k :: t) := h1.keep hk2
          have eT := e2.take0 (Em.frame k b).length hfl2
          have eF := ho2.bs
          have HS := hide (str_lbeq (Em.frame k b) ((k :: t).take (Em.frame k b).length))
          generalize (k :: t).take (Em.frame k b).length = T at HE HS eT
          generalize decide (Em.frame k b <+: k :: t) = q at HF HE
          generalize hFF : Em.frame k b = F at HF HE HS eT eF hfl hfl2 ho2
          rw [HE.out] at HS
          clear hFF HE
          have HS2 := HS.out
          go_wp2
          refine region_rel (by kernel_rfl) Keep krf ktr [some 56, some 57, some 58, some 59, some 60, some 61, some 62, some 63] [fun _ v => v = .slice A2 F.length c2, fun _ v => v = .string (str F), fun _ v => v = .slice (some ad) (t.length + 1) c, fun _ v => v = .slice A2 F.length c2, fun _ v => v = .int .i64 (F.length : Int), fun _ v => v = .slice (some ad) F.length c, fun _ v => v = .string (str T), fun _ v => v = .bool (!q)] [[], [0], [], [], [3], [2, 4], [5], [1, 6]] [[], [], [], [], [], [], [], []] (by kernel_rfl) ?steps16209 ?fin16209
          case steps16209 =>
            refine ⟨?_, ?_, ?_, ?_, ?_, ?_, ?_, ?_, trivial⟩
            · (intro us W hl99 hW hd hs K hK; obtain ⟨u0, u1, u2, u3, u4, u5, u6, u7, rfl⟩ := rro 8 hl99 rfl; clear hl99; clear hs; simp only [DepR, List.getD_cons_zero, List.getD_cons_succ, and_true] at hd; clear hd; simp only [fillD, List.set_cons_zero, List.set_cons_succ]; refine wantedN rfl ?_; go_wp2_with (first | fail); simp only [DoneR, fillD, List.set_cons_zero, List.set_cons_succ]; first | exact ⟨_, rfl, krf _, fun _ _ => rfl⟩ | exact ⟨_, rfl, by with_reducible assumption, fun _ hk9 => rfl⟩ | exact ⟨_, rfl, (by first | with_reducible assumption | exact krf _), fun _ hk9 => Bs.keep (by with_reducible assumption) hk9⟩ | exact ⟨_, rfl, (by first | with_reducible assumption | exact krf _), fun _ hk9 => (Bs.of_own (by with_reducible assumption)).keep hk9⟩ | exact ⟨_, rfl, (by first | with_reducible assumption | exact krf _), fun _ hk9 => ⟨_, rfl, Bs.keep (by with_reducible assumption) hk9⟩⟩ | exact ⟨_, rfl, (by first | with_reducible assumption | exact krf _), fun _ hk9 => ⟨_, rfl, (Ob.bs (by with_reducible assumption)).keep hk9⟩⟩ | exact ⟨_, rfl, (by first | with_reducible assumption | exact krf _), fun _ hk9 => (Ob.bs (by with_reducible assumption)).keep hk9⟩)
            · (intro us W hl99 hW hd hs K hK; obtain ⟨u0, u1, u2, u3, u4, u5, u6, u7, rfl⟩ := rro 8 hl99 rfl; clear hl99; clear hs; simp only [DepR, List.getD_cons_zero, List.getD_cons_succ, and_true] at hd; have d0 := hd; clear hd; subst d0; simp only [fillD, List.set_cons_zero, List.set_cons_succ]; refine wantedN rfl ?_; refine wp_convB (v := .slice A2 F.length c2) rfl Try.underlying29 Try.underlying5 Try.underlying9 rfl (by first | (with_reducible assumption) | (exact Bs.keep (by (with_reducible assumption)) (by first | (with_reducible assumption) | exact Keep.tr (Keep.dr (Keep.rf _)) (by (with_reducible assumption))))) ?_; go_wp2; simp only [DoneR, fillD, List.set_cons_zero, List.set_cons_succ]; first | exact ⟨_, rfl, krf _, fun _ _ => rfl⟩ | exact ⟨_, rfl, by with_reducible assumption, fun _ hk9 => rfl⟩ | exact ⟨_, rfl, (by first | with_reducible assumption | exact krf _), fun _ hk9 => Bs.keep (by with_reducible assumption) hk9⟩ | exact ⟨_, rfl, (by first | with_reducible assumption | exact krf _), fun _ hk9 => (Bs.of_own (by with_reducible assumption)).keep hk9⟩ | exact ⟨_, rfl, (by first | with_reducible assumption | exact krf _), fun _ hk9 => ⟨_, rfl, Bs.keep (by with_reducible assumption) hk9⟩⟩ | exact ⟨_, rfl, (by first | with_reducible assumption | exact krf _), fun _ hk9 => ⟨_, rfl, (Ob.bs (by with_reducible assumption)).keep hk9⟩⟩ | exact ⟨_, rfl, (by first | with_reducible assumption | exact krf _), fun _ hk9 => (Ob.bs (by with_reducible assumption)).keep hk9⟩)
            · (intro us W hl99 hW hd hs K hK; obtain ⟨u0, u1, u2, u3, u4, u5, u6, u7, rfl⟩ := rro 8 hl99 rfl; clear hl99; clear hs; simp only [DepR, List.getD_cons_zero, List.getD_cons_succ, and_true] at hd; clear hd; simp only [fillD, List.set_cons_zero, List.set_cons_succ]; refine wantedN rfl ?_; go_wp2_with (first | fail); simp only [DoneR, fillD, List.set_cons_zero, List.set_cons_succ]; first | exact ⟨_, rfl, krf _, fun _ _ => rfl⟩ | exact ⟨_, rfl, by with_reducible assumption, fun _ hk9 => rfl⟩ | exact ⟨_, rfl, (by first | with_reducible assumption | exact krf _), fun _ hk9 => Bs.keep (by with_reducible assumption) hk9⟩ | exact ⟨_, rfl, (by first | with_reducible assumption | exact krf _), fun _ hk9 => (Bs.of_own (by with_reducible assumption)).keep hk9⟩ | exact ⟨_, rfl, (by first | with_reducible assumption | exact krf _), fun _ hk9 => ⟨_, rfl, Bs.keep (by with_reducible assumption) hk9⟩⟩ | exact ⟨_, rfl, (by first | with_reducible assumption | exact krf _), fun _ hk9 => ⟨_, rfl, (Ob.bs (by with_reducible assumption)).keep hk9⟩⟩ | exact ⟨_, rfl, (by first | with_reducible assumption | exact krf _), fun _ hk9 => (Ob.bs (by with_reducible assumption)).keep hk9⟩)
            · (intro us W hl99 hW hd hs K hK; obtain ⟨u0, u1, u2, u3, u4, u5, u6, u7, rfl⟩ := rro 8 hl99 rfl; clear hl99; clear hs; simp only [DepR, List.getD_cons_zero, List.getD_cons_succ, and_true] at hd; clear hd; simp only [fillD, List.set_cons_zero, List.set_cons_succ]; refine wantedN rfl ?_; go_wp2_with (first | fail); simp only [DoneR, fillD, List.set_cons_zero, List.set_cons_succ]; first | exact ⟨_, rfl, krf _, fun _ _ => rfl⟩ | exact ⟨_, rfl, by with_reducible assumption, fun _ hk9 => rfl⟩ | exact ⟨_, rfl, (by first | with_reducible assumption | exact krf _), fun _ hk9 => Bs.keep (by with_reducible assumption) hk9⟩ | exact ⟨_, rfl, (by first | with_reducible assumption | exact krf _), fun _ hk9 => (Bs.of_own (by with_reducible assumption)).keep hk9⟩ | exact ⟨_, rfl, (by first | with_reducible assumption | exact krf _), fun _ hk9 => ⟨_, rfl, Bs.keep (by with_reducible assumption) hk9⟩⟩ | exact ⟨_, rfl, (by first | with_reducible assumption | exact krf _), fun _ hk9 => ⟨_, rfl, (Ob.bs (by with_reducible assumption)).keep hk9⟩⟩ | exact ⟨_, rfl, (by first | with_reducible assumption | exact krf _), fun _ hk9 => (Ob.bs (by with_reducible assumption)).keep hk9⟩)
            · (intro us W hl99 hW hd hs K hK; obtain ⟨u0, u1, u2, u3, u4, u5, u6, u7, rfl⟩ := rro 8 hl99 rfl; clear hl99; clear hs; simp only [DepR, List.getD_cons_zero, List.getD_cons_succ, and_true] at hd; have d3 := hd; clear hd; subst d3; simp only [fillD, List.set_cons_zero, List.set_cons_succ]; refine wantedN rfl ?_; go_wp2_with (first | fail); simp only [DoneR, fillD, List.set_cons_zero, List.set_cons_succ]; first | exact ⟨_, rfl, krf _, fun _ _ => rfl⟩ | exact ⟨_, rfl, by with_reducible assumption, fun _ hk9 => rfl⟩ | exact ⟨_, rfl, (by first | with_reducible assumption | exact krf _), fun _ hk9 => Bs.keep (by with_reducible assumption) hk9⟩ | exact ⟨_, rfl, (by first | with_reducible assumption | exact krf _), fun _ hk9 => (Bs.of_own (by with_reducible assumption)).keep hk9⟩ | exact ⟨_, rfl, (by first | with_reducible assumption | exact krf _), fun _ hk9 => ⟨_, rfl, Bs.keep (by with_reducible assumption) hk9⟩⟩ | exact ⟨_, rfl, (by first | with_reducible assumption | exact krf _), fun _ hk9 => ⟨_, rfl, (Ob.bs (by with_reducible assumption)).keep hk9⟩⟩ | exact ⟨_, rfl, (by first | with_reducible assumption | exact krf _), fun _ hk9 => (Ob.bs (by with_reducible assumption)).keep hk9⟩)
            · (intro us W hl99 hW hd hs K hK; obtain ⟨u0, u1, u2, u3, u4, u5, u6, u7, rfl⟩ := rro 8 hl99 rfl; clear hl99; clear hs; simp only [DepR, List.getD_cons_zero, List.getD_cons_succ, and_true] at hd; obtain ⟨d2, d4⟩ := hd; subst d2; subst d4; simp only [fillD, List.set_cons_zero, List.set_cons_succ]; refine wantedN rfl ?_; go_wp2_with (first | fail); simp only [DoneR, fillD, List.set_cons_zero, List.set_cons_succ]; first | exact ⟨_, rfl, krf _, fun _ _ => rfl⟩ | exact ⟨_, rfl, by with_reducible assumption, fun _ hk9 => rfl⟩ | exact ⟨_, rfl, (by first | with_reducible assumption | exact krf _), fun _ hk9 => Bs.keep (by with_reducible assumption) hk9⟩ | exact ⟨_, rfl, (by first | with_reducible assumption | exact krf _), fun _ hk9 => (Bs.of_own (by with_reducible assumption)).keep hk9⟩ | exact ⟨_, rfl, (by first | with_reducible assumption | exact krf _), fun _ hk9 => ⟨_, rfl, Bs.keep (by with_reducible assumption) hk9⟩⟩ | exact ⟨_, rfl, (by first | with_reducible assumption | exact krf _), fun _ hk9 => ⟨_, rfl, (Ob.bs (by with_reducible assumption)).keep hk9⟩⟩ | exact ⟨_, rfl, (by first | with_reducible assumption | exact krf _), fun _ hk9 => (Ob.bs (by with_reducible assumption)).keep hk9⟩)
            · (intro us W hl99 hW hd hs K hK; obtain ⟨u0, u1, u2, u3, u4, u5, u6, u7, rfl⟩ := rro 8 hl99 rfl; clear hl99; clear hs; simp only [DepR, List.getD_cons_zero, List.getD_cons_succ, and_true] at hd; have d5 := hd; clear hd; subst d5; simp only [fillD, List.set_cons_zero, List.set_cons_succ]; refine wantedN rfl ?_; refine wp_convB (v := .slice (some ad) F.length c) rfl Try.underlying29 Try.underlying5 Try.underlying9 rfl (by first | (with_reducible assumption) | (exact Bs.keep (by (with_reducible assumption)) (by first | (with_reducible assumption) | exact Keep.tr (Keep.dr (Keep.rf _)) (by (with_reducible assumption))))) ?_; go_wp2; simp only [DoneR, fillD, List.set_cons_zero, List.set_cons_succ]; first | exact ⟨_, rfl, krf _, fun _ _ => rfl⟩ | exact ⟨_, rfl, by with_reducible assumption, fun _ hk9 => rfl⟩ | exact ⟨_, rfl, (by first | with_reducible assumption | exact krf _), fun _ hk9 => Bs.keep (by with_reducible assumption) hk9⟩ | exact ⟨_, rfl, (by first | with_reducible assumption | exact krf _), fun _ hk9 => (Bs.of_own (by with_reducible assumption)).keep hk9⟩ | exact ⟨_, rfl, (by first | with_reducible assumption | exact krf _), fun _ hk9 => ⟨_, rfl, Bs.keep (by with_reducible assumption) hk9⟩⟩ | exact ⟨_, rfl, (by first | with_reducible assumption | exact krf _), fun _ hk9 => ⟨_, rfl, (Ob.bs (by with_reducible assumption)).keep hk9⟩⟩ | exact ⟨_, rfl, (by first | with_reducible assumption | exact krf _), fun _ hk9 => (Ob.bs (by with_reducible assumption)).keep hk9⟩)
            · (intro us W hl99 hW hd hs K hK; obtain ⟨u0, u1, u2, u3, u4, u5, u6, u7, rfl⟩ := rro 8 hl99 rfl; clear hl99; clear hs; simp only [DepR, List.getD_cons_zero, List.getD_cons_succ, and_true] at hd; obtain ⟨d1, d6⟩ := hd; subst d1; subst d6; simp only [fillD, List.set_cons_zero, List.set_cons_succ]; refine wantedN rfl ?_; go_wp2_with (first | fail); simp only [DoneR, fillD, List.set_cons_zero, List.set_cons_succ]; first | exact ⟨_, rfl, krf _, fun _ _ => rfl⟩ | exact ⟨_, rfl, by with_reducible assumption, fun _ hk9 => rfl⟩ | exact ⟨_, rfl, (by first | with_reducible assumption | exact krf _), fun _ hk9 => Bs.keep (by with_reducible assumption) hk9⟩ | exact ⟨_, rfl, (by first | with_reducible assumption | exact krf _), fun _ hk9 => (Bs.of_own (by with_reducible assumption)).keep hk9⟩ | exact ⟨_, rfl, (by first | with_reducible assumption | exact krf _), fun _ hk9 => ⟨_, rfl, Bs.keep (by with_reducible assumption) hk9⟩⟩ | exact ⟨_, rfl, (by first | with_reducible assumption | exact krf _), fun _ hk9 => ⟨_, rfl, (Ob.bs (by with_reducible assumption)).keep hk9⟩⟩ | exact ⟨_, rfl, (by first | with_reducible assumption | exact krf _), fun _ hk9 => (Ob.bs (by with_reducible assumption)).keep hk9⟩)
          (intro us W hl99 hW hA; obtain ⟨u0, u1, u2, u3, u4, u5, u6, u7, rfl⟩ := rro 8 hl99 rfl; clear hl99; simp only [AllR, and_true] at hA; obtain ⟨d0, d1, d2, d3, d4, d5, d6, d7⟩ := hA; subst d0; subst d1; subst d2; subst d3; subst d4; subst d5; subst d6; subst d7; simp only [fillD, List.set_cons_zero, List.set_cons_succ])
          have hKW := Keep.tr hkk (Keep.tr (Keep.dr (Keep.rf w2)) hW)
          have hc3 := Keep.cell (Keep.tr (Keep.dr (Keep.rf w2)) hW) hc2
          have hob3 := hob.keep (Keep.tr (Keep.dr (Keep.rf w2)) hW)
          cases q with
          | false =>
            go_wp2
            refine bodyPost_ret (results_tmp4 rfl _ _ _) rfl ?_
            exact RetG.no hKW (by rw [HF.out]; rfl)
          | true =>
            go_wp2
            refine bodyPost_ret (results_tmp4 rfl _ _ _) rfl ?_
            refine ⟨hKW, ?_⟩
            rw [HF.out]
            exact ⟨_, rfl, hob3⟩
end Go.Proofs.Ytcbkklfdeloeeaa
