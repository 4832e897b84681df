/- Walks: the functions of package frame, and of its reference, come to FramePure's. -/
import Derived.Test.YtcbkklfdeloeeaaSumW
import Derived.Test.YtcbkklfdeloeeaaVarW
import Derived.Test.YtcbkklfdeloeeaaFramePure
namespace Go.Proofs.Ytcbkklfdeloeeaa
open Go.RowKit
set_option linter.unusedVariables false
set_option maxRecDepth 100000
theorem be_u8 (s : Nat) : Value.int .u8 ((s : Int) % 256) = bv (UInt8.ofNat s) := by
  unfold bv
  rw [UInt8.toNat_ofNat']
  simp
theorem be_at (s k : Nat) (hk : k < 4) : (Em.be4 s).take (k + 1) = (Em.be4 s).take k ++ [UInt8.ofNat (s / 256 ^ (3 - k))] := by
  have : k = 0 ∨ k = 1 ∨ k = 2 ∨ k = 3 := by omega
  rcases this with rfl | rfl | rfl | rfl <;> simp [Em.be4]
/-- What Put answers of a body that is not too long. -/
def RetF (w : World) (k : UInt8) (l : List UInt8) (e : Ending) (w' : World) : Prop := ∃ v, e = .returned (.tuple #[v, .bool true]) ∧ Obs w' w.heap.size v (Em.frame k l) ∧ Keep w w'
theorem flat_one (l : List UInt8) : [l].flatten = l := by simp
set_option maxHeartbeats 2000000 in
theorem framePut (k : UInt8) (v : Value) (l : List UInt8) (w : World) (h : Bs w v l) (hl : l.length ≤ 4000) : Calls Try.prog 109 #[.int .u8 (k.toNat : Int), v] w (RetF w k l) := by
  have h0 := h
  obtain ⟨A, c, rfl, hlc, hcm, hr⟩ := h
  clear hr
  have hp := Em.putN_len10 (v := l.length) (by omega)
  have HF : Hid (Em.frame k l = Em.fpre k l ++ Em.be4 (Em.adler (Em.fpre k l))) := rfl
  have HP : Hid ([k] ++ Em.putN l.length ++ l = Em.fpre k l) := rfl
  have hfl : (Em.fpre k l).length ≤ 11 + l.length := by rw [Em.fpre_len]; omega
  have HB := hide (Em.adler_lt (Em.fpre k l))
  have hk := k.toNat_lt
  go_enter Try.func109, Try.ntmps109
  go_wp2_with fail
  refine (varPut l.length (by omega) _).mono ?_
  rintro e w1 ⟨r, rfl, ho, hk1⟩
  have hkk := Keep.tr (Keep.al (Keep.rf w) _) hk1
  have hkb : Obs w1 w.heap.size (.slice (some ⟨w.heap.size, 0, none⟩) 1 1) [k] := by
    refine Ob.keep (Ob.new (w := w) [k] rfl rfl rfl (Nat.le_refl _) (by simp)) ?_
    exact hk1
  clear hk1
  have hob := ho.bs
  clear ho
  go_wp2_with (first
    | (at_builtin; refine appB (w0 := w) rfl (.tmp 13) (.tmp 17) rfl _ _ rfl hkb _ _ rfl hob hkk (by simp; omega) ?_; intro v2 w2 ho2 hk2 hg2 hat2)
    | (at_builtin; refine appB (w0 := w) rfl (.tmp 19) (.tmp 20) rfl _ _ rfl ho2 _ _ rfl (h0.keep hk2) hk2 (by simp; omega) ?_; intro v3 w3 ho3 hk3 hg3 hat3; rw [HP.out] at ho3; obtain ⟨A3, c3, rfl⟩ := ho3.slice)
    | (go_at_call 130; go_loud (refine (sumAdler _ [Em.fpre k l] _ (Rws.one ho3.bs _ (by first | rfl | simp))).mono ?_; rintro e w' ⟨rfl, rfl⟩; rw [flat_one]))
    | fail)
  go_loopw [6, 25] (fun b i W => ∃ j : Nat, j ≤ 4 ∧ i = .int .i64 j ∧ Obs W w.heap.size b (Em.fpre k l ++ (Em.be4 (Em.adler (Em.fpre k l))).take j) ∧ Keep w W) (fun _ i _ => 4 - (intOf i).toNat)
  case atStart => exact ⟨0, by omega, rfl, by simpa using ho3.keep (by repeat (first | exact Keep.rf _ | assumption | apply Keep.al | apply Keep.dr | apply Keep.dn)), Keep.al hk3 _⟩
  case round =>
    obtain ⟨j, hj, rfl, ho, hk4⟩ := hrel
    generalize Em.fpre k l = P at HF HP hfl HB ho
    generalize Em.adler P = s at HF HB ho
    by_cases hlt : j < 4
    · have hb := hide (be_at s j hlt)
      have hs := hide (List.append_assoc P ((Em.be4 s).take j) [UInt8.ofNat (s / 256 ^ (3 - j))])
      rw [← hb.out] at hs
      have hu := hide (be_u8 (s / 256 ^ (3 - j)))
      have hlen : (P ++ (Em.be4 s).take j).length ≤ P.length + 4 := by simp [Em.be4_len]; omega
      have HB2 := HB.out
      generalize UInt8.ofNat (s / 256 ^ (3 - j)) = b at hu hs hb
      generalize P ++ (Em.be4 s).take j = Q at ho hs hlen
      have h4 : j = 0 ∨ j = 1 ∨ j = 2 ∨ j = 3 := by omega
      rcases h4 with rfl | rfl | rfl | rfl
      all_goals
        go_wp2_with (at_builtin; refine appB (w0 := w) rfl (.tmp 28) (.tmp 35) rfl _ _ rfl (ho.keep (by repeat (first | exact Keep.rf _ | assumption | apply Keep.al | apply Keep.dr | apply Keep.dn))) _ [b] rfl (Bs.box (by rw [← hu.out]; congr 1; try omega) (by first | rfl | simp)) (Keep.al hk4 _) (by simp; omega) ?_; intro v5 w5 ho5 hk5 hg5 hat5; rw [hs.out] at ho5)
        go_roundw
        case rel => exact ⟨_, by omega, by go_num, ho5, hk5⟩
        case measure => simp [intOf]
    · have e4 : j = 4 := by omega
      subst e4
      have hs : P ++ (Em.be4 s).take 4 = Em.frame k l := by rw [HF.out]; simp [Em.be4]
      rw [hs] at ho
      clear hs
      go_wp2
      go_ret2
      exact ⟨_, rfl, ho, hk4⟩
set_option maxHeartbeats 2000000 in
theorem refFPut (k : UInt8) (v : Value) (l : List UInt8) (w : World) (h : Bs w v l) (hl : l.length ≤ 4000) : Calls Try.prog 36 #[.int .u8 (k.toNat : Int), v] w (RetF w k l) := by
  have h0 := h
  obtain ⟨A, c, rfl, hlc, hcm, hr⟩ := h
  clear hr
  have hp := Em.putN_len10 (v := l.length) (by omega)
  have HF : Hid (Em.fpre k l ++ Em.be4 (Em.adler (Em.fpre k l)) = Em.frame k l) := rfl
  have HP : Hid ([k] ++ Em.putN l.length ++ l = Em.fpre k l) := rfl
  have hfl : (Em.fpre k l).length ≤ 11 + l.length := by rw [Em.fpre_len]; omega
  have HB := hide (Em.adler_lt (Em.fpre k l))
  have hk := k.toNat_lt
  go_enter Try.func36, Try.ntmps36
  go_wp2_with fail
  refine (refPut l.length (by omega) _).mono ?_
  rintro e w1 ⟨r, rfl, ho, hk1⟩
  have hkk := Keep.tr (Keep.al (Keep.rf w) _) hk1
  have hkb : Obs w1 w.heap.size (.slice (some ⟨w.heap.size, 0, none⟩) 1 1) [k] := by
    refine Ob.keep (Ob.new (w := w) [k] rfl rfl rfl (Nat.le_refl _) (by simp)) ?_
    exact hk1
  clear hk1
  have hob := ho.bs
  clear ho
  go_wp2_with (first
    | (at_builtin; refine appB (w0 := w) rfl (.tmp 12) (.tmp 16) rfl _ _ rfl hkb _ _ rfl hob hkk (by simp; omega) ?_; intro v2 w2 ho2 hk2 hg2 hat2)
    | (at_builtin; refine appB (w0 := w) rfl (.tmp 18) (.tmp 19) rfl _ _ rfl ho2 _ _ rfl (h0.keep hk2) hk2 (by simp; omega) ?_; intro v3 w3 ho3 hk3 hg3 hat3; rw [HP.out] at ho3)
    | fail)
  refine (refAdler _ (Em.fpre k l) _ ho3.bs).mono ?_
  rintro e w' ⟨rfl, rfl⟩
  have hbx : ∀ (s : Nat), (Em.be4 s).length = 4 := fun _ => rfl
  generalize Em.fpre k l = P at HF HP hfl HB ho3
  generalize Em.adler P = s at HF HB
  have HB2 := HB.out
  have HU : Hid ([Value.int .u8 ((s : Int) / 16777216), Value.int .u8 ((s : Int) / 65536 % 256), Value.int .u8 ((s : Int) / 256 % 256), Value.int .u8 ((s : Int) % 256)].toArray = ((Em.be4 s).map bv).toArray) := by
    show _ = _
    have e : (s : Int) / 16777216 = ((s / 16777216 : Nat) : Int) % 256 := by omega
    rw [e]
    simp [Em.be4, ← be_u8]
  go_wp2_with (at_builtin; refine appB (w0 := w) rfl (.tmp 23) (.tmp 35) rfl _ _ rfl (ho3.keep (by repeat (first | exact Keep.rf _ | assumption | apply Keep.al | apply Keep.dr | apply Keep.dn))) _ (Em.be4 s) rfl (Bs.lit (Em.be4 s) HU.out (by first | rfl | simp) rfl (by simp) (by simp)) (Keep.al hk3 _) (by rw [hbx]; omega) ?_; intro v5 w5 ho5 hk5 hg5 hat5; rw [HF.out] at ho5)
  go_ret2
  exact ⟨_, rfl, ho5, hk5⟩
set_option maxHeartbeats 1000000 in
theorem framePut_long (k : UInt8) (v : Value) (l : List UInt8) (w : World) (h : Bs w v l) (hl : 4000 < l.length) : Calls Try.prog 109 #[.int .u8 (k.toNat : Int), v] w fun e w' => e = .returned (.tuple #[.slice none 0 0, .bool false]) ∧ w = w' := by
  obtain ⟨A, c, rfl, hlc, hcm, hr⟩ := h
  clear hr
  go_enter Try.func109, Try.ntmps109
  go_wp2
  go_ret2
  exact ⟨rfl, rfl⟩
set_option maxHeartbeats 1000000 in
theorem refFPut_long (k : UInt8) (v : Value) (l : List UInt8) (w : World) (h : Bs w v l) (hl : 4000 < l.length) : Calls Try.prog 36 #[.int .u8 (k.toNat : Int), v] w fun e w' => e = .returned (.tuple #[.slice none 0 0, .bool false]) ∧ w = w' := by
  obtain ⟨A, c, rfl, hlc, hcm, hr⟩ := h
  clear hr
  go_enter Try.func36, Try.ntmps36
  go_wp2
  go_ret2
  exact ⟨rfl, rfl⟩
end Go.Proofs.Ytcbkklfdeloeeaa
