/- Walk: two heaps of the same blocks (pair, in the laws of shape). -/
import Derived.Test.YtilhglnfjaablaaHeapB
import Derived.Test.YtilhglnfjaablaaDrawO
import Derived.Test.YtilhglnfjaablaaRowLib2
namespace Go.Proofs.Ytilhglnfjaablaa
open Go.ChangeShapes Go.WideShapes Go.ChangeAt Go.RowKit Go.Maps
set_option linter.unusedVariables false
set_option linter.unusedSimpArgs false
set_option maxRecDepth 100000
/-- A slice of rows of ints, as it came in. -/
def KIs (w : World) (cs : List Value) (l : List Int) : Prop := ∃ v, cs = [v] ∧ Is w v l ∧ ∀ n ∈ l, (Lit.int .i64 n).wf = true
theorem opn_ws : Opn Try.prog 27 KIs := Opn.imp (opn_ints Try.underlying27 Try.underlying24 (by kernel_rfl) (by kernel_rfl)) fun w cs l h => by
  obtain ⟨v, h1, h2, _⟩ := h
  exact ⟨l, v, h1, h2⟩
section
variable {H : Type} {enc : TypeId × Value → H} {W : World} {base : Nat}
theorem open_wss {v : Value} {d : DataW H} {p : List MemPlace}
    (hv : Value.okWide Try.prog W .any base 23 v) (h : DataW.Trod enc Try.prog W 0 (fun _ => true) true 23 v d p) (hz : ∀ n ∈ d.weights Try.prog 23, n ≤ reachBytes) : ∃ l, Sl 1 KIs W v l ∧ True :=
  open_sl (K' := fun w v l => Sl 1 KIs w v l ∧ True) (Opn.imp (opn_slice opn_ws Try.underlying23 (sz := 1) (by kernel_rfl) rfl) fun w cs l ⟨v, h1, h2, h3⟩ => ⟨l, v, h1, h2, trivial⟩) Try.underlying23 hv h hz
end
theorem Both.frm {w W W' : World} {p q m : Nat} {S T : List Nat} {H : Em.Hp} (h : Both w W p q m S T H) {X : Nat → Prop} (F : Frm X W W') (hX : ∀ k, X k → k ∉ S ∧ k ∉ T ∧ w.heap.size ≤ k) : Both w W' p q m S T H := by
  obtain ⟨h1, h2, h3, h4, h5, h6⟩ := h
  exact ⟨h1.frm F fun i hi hx => (hX i hx).1 hi, h2.frm F fun i hi hx => (hX i hx).2.1 hi, h3, h4, h5, Frm.keep h6 F fun i hx => (hX i hx).2.2⟩
/-- The words so far, where they lie. -/
def LAt (B : Nat) (W : World) (v : Value) (S T : List Nat) (l : List Int) : Prop := W.ownsRow B 24 1 v l.length (l.map (Value.int .i64)) ∧ ∀ k, v.ownBlock = some k → k ∉ S ∧ k ∉ T
theorem LAt.step {B : Nat} {W W1 W2 : World} {v : Value} {S T S1 T1 : List Nat} {l : List Int} (h : LAt B W v S T l) (x1 : Ext W W1 T T1) (x2 : Ext W1 W2 S S1) : LAt B W2 v S1 T1 l := by
  obtain ⟨h1, h2⟩ := h
  have hlt := World.ownsRow.lt h1
  refine ⟨x2.1.own (x1.1.own h1 fun k hk => (h2 k hk).2) fun k hk => (h2 k hk).1, fun k hk => ⟨fun e => ?_, fun e => ?_⟩⟩
  · have := (hlt k hk).2
    have := x1.1.size
    rcases x2.2 k e with e | e
    · exact (h2 k hk).1 e
    · omega
  · have := (hlt k hk).2
    rcases x1.2 k e with e | e
    · exact (h2 k hk).2 e
    · omega
theorem LAt.push {B : Nat} {w W W1 W2 : World} {p q m : Nat} {H : Em.Hp} {v v' : Value} {S T : List Nat} {l l' : List Int} (hB : Both w W p q m S T H) (h : LAt B W v S T l) (k : Keep W W1) (ho : W2.ownsRow B 24 1 v' l'.length (l'.map (Value.int .i64))) (hg : W1.grownBy W2 v.ownBlock) (hat : v'.ownBlock = v.ownBlock ∨ v'.ownBlock = some W1.heap.size) (hb : w.heap.size ≤ B) :
    Both w W2 p q m S T H ∧ ∀ k, v'.ownBlock = some k → k ∉ S ∧ k ∉ T := by
  have F : Frm (fun k => v.ownBlock = some k) W1 W2 := Frm.of_grown hg fun _ e => e
  have hlt := World.ownsRow.lt h.1
  refine ⟨(hB.keep k).frm F fun i e => ⟨(h.2 i e).1, (h.2 i e).2, Nat.le_trans hb (hlt i e).1⟩, fun i e => ?_⟩
  rcases hat with e2 | e2
  · exact h.2 i (by rw [← e2, e])
  · rw [e2] at e
    injection e with e
    have hs := k.size
    exact ⟨fun hx => by have := hB.1.lt i hx; omega, fun hx => by have := hB.2.1.lt i hx; omega⟩
/-- Two heaps of the same blocks, or none. -/
def RetPair (w : World) (sz : Int) (e : Ending) (w' : World) : Prop :=
  (e = .returned (.tuple #[.pointer none, .pointer none, .slice none 0 0]) ∧ Keep w w') ∨
    ∃ (p q m : Nat) (S T : List Nat) (H : Em.Hp) (v : Value) (l : List Int), sz = (m : Int) ∧ e = .returned (.tuple #[.pointer (some ⟨p, 0, none⟩), .pointer (some ⟨q, 0, none⟩), v]) ∧ Both w w' p q m S T H ∧ Is w' v l
set_option maxHeartbeats 16000000 in
theorem lawPair (w : World) (words : Int) (hwo : (Lit.int .i64 words).wf = true) (v : Value) (tags : List Int) (hv : Is w v tags) (hvw : ∀ n ∈ tags, (Lit.int .i64 n).wf = true) (u : Value) (fields : List (List Int)) (hu : Sl 1 KIs w u fields) :
    Calls Try.prog 12 #[.int .i64 words, v, u] w (RetPair w words) := by
  obtain ⟨tA, tc, rfl, q1, q2, q3⟩ := hv
  simp only [List.length_map, List.getElem_map] at q1 q3 ⊢
  obtain ⟨fA, fc, rfl, r1, r2, r3⟩ := hu
  have hwb := in_i64 hwo
  by_cases h2 : 0 ≤ words ∧ words ≤ 20000
  · obtain ⟨m, rfl⟩ := Int.eq_ofNat_of_zero_le h2.1
    go_enter Try.func12, Try.ntmps12
    go_wp2_with fail
    refine (heapNew m _ (by omega)).mono ?_
    rintro e w1 ⟨p, S, rfl, hR, hS, hk⟩
    go_wp2_with fail
    refine (refNew m _ (by omega)).mono ?_
    rintro e w2 ⟨q, T, rfl, hR2, hT, hk2⟩
    have hB : Both w w2 p q m S T [] := ⟨hR.keep hk2, hR2, hS, fun k hk' => Nat.le_trans hk.size (hT k hk'), fun k hk' hm => by have := hR.lt k hk'; have := hT k hm; omega, Keep.tr hk hk2⟩
    have hk02 := Keep.tr hk hk2
    have HB := hide hB
    clear hR hS hk hR2 hT hk2 hB
    by_cases h3 : tags.length ≤ 60
    · have h3i : ¬ (tags.length : Int) > 60 := by omega
      go_wp2_with fail
      go_loopw [11, 12] (fun lv i W => w2.heap.size ≤ W.heap.size ∧ ∃ (j : Nat) (H : Em.Hp) (S T : List Nat) (l : List Int), j ≤ tags.length ∧ i = .int .i64 j ∧ Both w W p q m S T H ∧ W.ownsRow w2.heap.size 24 1 lv l.length (l.map (Value.int .i64)) ∧ l.length ≤ j ∧ (∀ k, lv.ownBlock = some k → k ∉ S ∧ k ∉ T)) (fun _ i _ => tags.length - (intOf i).toNat)
      case atStart => exact ⟨Nat.le_refl _, 0, [], S, T, [], by omega, rfl, HB.out, ⟨by simp, .inl ⟨rfl, rfl⟩⟩, by simp, by simp [Value.ownBlock]⟩
      case round =>
        clear HB
        obtain ⟨hwr0, j, H, S, T, l, hj, rfl, hB, ho, hlj, hn⟩ := hrel
        obtain ⟨lA, lc, rfl⟩ := own_slice ho
        have HO := hide ho
        have HN := hide hn
        have HB := hide hB
        have kw := hB.2.2.2.2.2
        by_cases hlt : j < tags.length
        · have hlti : (j : Int) < (tags.length : Int) := by omega
          obtain ⟨ad, rfl, hcell⟩ := q3 (by omega)
          have hc00 := hcell j hlt
          have c0 := Keep.cell kw hc00
          have htw := hvw _ (List.getElem_mem hlt)
          generalize tags[j] = tag at *
          have HC0 := hide hc00
          clear hc00
          have HQ := hide q3
          have HR3 := hide r3
          obtain ⟨b1, b2, b3, b4, b5, b6⟩ := hB
          rcases (show (∃ h : j < fields.length, (fields[j]'h).length ≤ 40) ∨ (∃ h : j < fields.length, 40 < (fields[j]'h).length) ∨ fields.length ≤ j from by
            by_cases h : j < fields.length
            · by_cases h4 : (fields[j]'h).length ≤ 40
              · exact .inl ⟨h, h4⟩
              · exact .inr (.inl ⟨h, by omega⟩)
            · exact .inr (.inr (by omega))) with ⟨hfl, hf40⟩ | ⟨hfl, hf40⟩ | hfl
          · have hfli : (j : Int) < (fields.length : Int) := by omega
            obtain ⟨ad2, rfl, hcell2⟩ := r3 (by omega)
            obtain ⟨cs, hcs, hcl, fv, rfl, hfi, hfw⟩ := hcell2 j hfl
            have e0 := Keep.cell kw (hcl 0 _ rfl)
            rw [Nat.add_zero, Nat.mul_one] at e0
            generalize fields[j] = fs at *
            have HFI := hide hfi
            have HFW := hide hfw
            obtain ⟨xA, xc, rfl, x1, x2, _⟩ := hfi
            simp only [List.length_map] at x1 e0 HFI ⊢
            have hf40i : (fs.length : Int) ≤ 40 := by omega
            clear hcell hcell2 hcl hcs q3 r3 ho hn hfw
            go_wp2_with fail
            refine (refAlloc _ b2 tag htw _ _ (HFI.out.keep kw) (fun W F => HFI.out.keep (Frm.keep kw F b4)) HFW.out (by omega)).mono ?_
            intro e W1 R
            obtain ⟨rfl, T1, rT, xT⟩ := R.all b2
            have kw1 := Frm.keep kw xT.1 b4
            have c1 := Keep.cell kw1 HC0.out
            have b1' := b1.frm xT.1 fun i hi hs => b5 i hi hs
            clear R
            go_wp2_with fail
            refine (heapAlloc _ b1' tag htw _ _ (HFI.out.keep kw1) HFW.out (by omega)).mono ?_
            intro e W2 R
            obtain ⟨rfl, S1, rS, xS⟩ := R.all b1'
            have hB2 := HB.out.stepR rT xT rS xS
            have hL2 := (show LAt _ _ _ _ _ _ from ⟨HO.out, HN.out⟩).step xT xS
            have hwr2 : w2.heap.size ≤ W2.heap.size := Nat.le_trans hwr0 (Nat.le_trans xT.1.size xS.1.size)
            clear R b1 b2 b1' rT rS xT xS c0 c1
            generalize allocE m H tag _ = r at *
            obtain ⟨n, ok, H1⟩ := r
            simp only at *
            have HB2 := hide hB2
            have HL2 := hide hL2
            have HW2 := hide hwr2
            clear hB2 hL2
            cases ok with
            | false =>
              go_wp2_with fail
              go_roundw
              case rel => exact ⟨HW2.out, j + 1, H1, S1, T1, l, by omega, by go_num, HB2.out, HL2.out.1, by omega, HL2.out.2⟩
              case measure => simp [intOf]; omega
            | true =>
              go_wp2_with (first
                | (at_builtin; go_loud (refine appI l [n] rfl (.tmp 70) (.tmp 72) _ _ _ _ Try.underlying27 infoW rfl (by omega) rfl w2.heap.size _ rfl (own_keep HL2.out.1 (by repeat (first | exact Keep.rf _ | assumption | apply Keep.al | apply Keep.dr | apply Keep.dn))) _ rfl (Cs.lit _ rfl rfl rfl (by simp) (by simp)) (by rw [size_alloc]; exact Nat.le_trans HW2.out (Nat.le_succ _)) (by simp; omega) ?_); intro v3 w3 ho3 hg3 hat3; have HO3 := hide ho3; have HG3 := hide hg3; have HAT := hide hat3; obtain ⟨A3, c3, e3⟩ := own_slice ho3; subst e3; clear ho3 hg3 hat3)
                | fail)
              have hpush := LAt.push (w := w) HB2.out HL2.out (by repeat (first | exact Keep.rf _ | assumption | apply Keep.al | apply Keep.dr | apply Keep.dn)) HO3.out HG3.out HAT.out hk02.size
              have HP := hide hpush
              clear hpush
              go_roundw
              case rel => exact ⟨Nat.le_trans HW2.out (Nat.le_trans (Nat.le_succ _) (by have := HG3.out.size; rwa [size_alloc] at this)), j + 1, H1, S1, T1, l ++ [n], by omega, by go_num, HP.out.1, by simpa using HO3.out, by simp; omega, by simpa using HP.out.2⟩
              case measure => simp [intOf]; omega
          · have hfli : (j : Int) < (fields.length : Int) := by omega
            obtain ⟨ad2, rfl, hcell2⟩ := r3 (by omega)
            obtain ⟨cs, hcs, hcl, fv, rfl, hfi, hfw⟩ := hcell2 j hfl
            have e0 := Keep.cell kw (hcl 0 _ rfl)
            rw [Nat.add_zero, Nat.mul_one] at e0
            generalize fields[j] = fs0 at *
            obtain ⟨xA, xc, rfl, x1, x2, _⟩ := hfi
            simp only [List.length_map] at x1 e0 ⊢
            have hf40i : ¬ (fs0.length : Int) ≤ 40 := by omega
            have HFI := hide (Cs.nil w : Is w (.slice none 0 0) [])
            have HFW := hide (show ∀ n ∈ ([] : List Int), (Lit.int .i64 n).wf = true from by simp)
            have hf40 : ([] : List Int).length ≤ 40 := by simp
            clear hcell hcell2 hcl hcs q3 r3 ho hn hfw
            go_wp2_with fail
            refine (refAlloc _ b2 tag htw _ _ (HFI.out.keep kw) (fun W F => HFI.out.keep (Frm.keep kw F b4)) HFW.out (by omega)).mono ?_
            intro e W1 R
            obtain ⟨rfl, T1, rT, xT⟩ := R.all b2
            have kw1 := Frm.keep kw xT.1 b4
            have c1 := Keep.cell kw1 HC0.out
            have b1' := b1.frm xT.1 fun i hi hs => b5 i hi hs
            clear R
            go_wp2_with fail
            refine (heapAlloc _ b1' tag htw _ _ (HFI.out.keep kw1) HFW.out (by omega)).mono ?_
            intro e W2 R
            obtain ⟨rfl, S1, rS, xS⟩ := R.all b1'
            have hB2 := HB.out.stepR rT xT rS xS
            have hL2 := (show LAt _ _ _ _ _ _ from ⟨HO.out, HN.out⟩).step xT xS
            have hwr2 : w2.heap.size ≤ W2.heap.size := Nat.le_trans hwr0 (Nat.le_trans xT.1.size xS.1.size)
            clear R b1 b2 b1' rT rS xT xS c0 c1
            generalize allocE m H tag _ = r at *
            obtain ⟨n, ok, H1⟩ := r
            simp only at *
            have HB2 := hide hB2
            have HL2 := hide hL2
            have HW2 := hide hwr2
            clear hB2 hL2
            cases ok with
            | false =>
              go_wp2_with fail
              go_roundw
              case rel => exact ⟨HW2.out, j + 1, H1, S1, T1, l, by omega, by go_num, HB2.out, HL2.out.1, by omega, HL2.out.2⟩
              case measure => simp [intOf]; omega
            | true =>
              go_wp2_with (first
                | (at_builtin; go_loud (refine appI l [n] rfl (.tmp 70) (.tmp 72) _ _ _ _ Try.underlying27 infoW rfl (by omega) rfl w2.heap.size _ rfl (own_keep HL2.out.1 (by repeat (first | exact Keep.rf _ | assumption | apply Keep.al | apply Keep.dr | apply Keep.dn))) _ rfl (Cs.lit _ rfl rfl rfl (by simp) (by simp)) (by rw [size_alloc]; exact Nat.le_trans HW2.out (Nat.le_succ _)) (by simp; omega) ?_); intro v3 w3 ho3 hg3 hat3; have HO3 := hide ho3; have HG3 := hide hg3; have HAT := hide hat3; obtain ⟨A3, c3, e3⟩ := own_slice ho3; subst e3; clear ho3 hg3 hat3)
                | fail)
              have hpush := LAt.push (w := w) HB2.out HL2.out (by repeat (first | exact Keep.rf _ | assumption | apply Keep.al | apply Keep.dr | apply Keep.dn)) HO3.out HG3.out HAT.out hk02.size
              have HP := hide hpush
              clear hpush
              go_roundw
              case rel => exact ⟨Nat.le_trans HW2.out (Nat.le_trans (Nat.le_succ _) (by have := HG3.out.size; rwa [size_alloc] at this)), j + 1, H1, S1, T1, l ++ [n], by omega, by go_num, HP.out.1, by simpa using HO3.out, by simp; omega, by simpa using HP.out.2⟩
              case measure => simp [intOf]; omega
          · have hfli : ¬ (j : Int) < (fields.length : Int) := by omega
            have HFI := hide (Cs.nil w : Is w (.slice none 0 0) [])
            have HFW := hide (show ∀ n ∈ ([] : List Int), (Lit.int .i64 n).wf = true from by simp)
            have hf40 : ([] : List Int).length ≤ 40 := by simp
            clear hcell q3 r3 ho hn
            go_wp2_with fail
            refine (refAlloc _ b2 tag htw _ _ (HFI.out.keep kw) (fun W F => HFI.out.keep (Frm.keep kw F b4)) HFW.out (by omega)).mono ?_
            intro e W1 R
            obtain ⟨rfl, T1, rT, xT⟩ := R.all b2
            have kw1 := Frm.keep kw xT.1 b4
            have c1 := Keep.cell kw1 HC0.out
            have b1' := b1.frm xT.1 fun i hi hs => b5 i hi hs
            clear R
            go_wp2_with fail
            refine (heapAlloc _ b1' tag htw _ _ (HFI.out.keep kw1) HFW.out (by omega)).mono ?_
            intro e W2 R
            obtain ⟨rfl, S1, rS, xS⟩ := R.all b1'
            have hB2 := HB.out.stepR rT xT rS xS
            have hL2 := (show LAt _ _ _ _ _ _ from ⟨HO.out, HN.out⟩).step xT xS
            have hwr2 : w2.heap.size ≤ W2.heap.size := Nat.le_trans hwr0 (Nat.le_trans xT.1.size xS.1.size)
            clear R b1 b2 b1' rT rS xT xS c0 c1
            generalize allocE m H tag _ = r at *
            obtain ⟨n, ok, H1⟩ := r
            simp only at *
            have HB2 := hide hB2
            have HL2 := hide hL2
            have HW2 := hide hwr2
            clear hB2 hL2
            cases ok with
            | false =>
              go_wp2_with fail
              go_roundw
              case rel => exact ⟨HW2.out, j + 1, H1, S1, T1, l, by omega, by go_num, HB2.out, HL2.out.1, by omega, HL2.out.2⟩
              case measure => simp [intOf]; omega
            | true =>
              go_wp2_with (first
                | (at_builtin; go_loud (refine appI l [n] rfl (.tmp 70) (.tmp 72) _ _ _ _ Try.underlying27 infoW rfl (by omega) rfl w2.heap.size _ rfl (own_keep HL2.out.1 (by repeat (first | exact Keep.rf _ | assumption | apply Keep.al | apply Keep.dr | apply Keep.dn))) _ rfl (Cs.lit _ rfl rfl rfl (by simp) (by simp)) (by rw [size_alloc]; exact Nat.le_trans HW2.out (Nat.le_succ _)) (by simp; omega) ?_); intro v3 w3 ho3 hg3 hat3; have HO3 := hide ho3; have HG3 := hide hg3; have HAT := hide hat3; obtain ⟨A3, c3, e3⟩ := own_slice ho3; subst e3; clear ho3 hg3 hat3)
                | fail)
              have hpush := LAt.push (w := w) HB2.out HL2.out (by repeat (first | exact Keep.rf _ | assumption | apply Keep.al | apply Keep.dr | apply Keep.dn)) HO3.out HG3.out HAT.out hk02.size
              have HP := hide hpush
              clear hpush
              go_roundw
              case rel => exact ⟨Nat.le_trans HW2.out (Nat.le_trans (Nat.le_succ _) (by have := HG3.out.size; rwa [size_alloc] at this)), j + 1, H1, S1, T1, l ++ [n], by omega, by go_num, HP.out.1, by simpa using HO3.out, by simp; omega, by simpa using HP.out.2⟩
              case measure => simp [intOf]; omega
        · have hlti : ¬ (j : Int) < (tags.length : Int) := by omega
          go_wp2_with fail
          go_ret3
          exact .inr ⟨p, q, m, S, T, H, _, l, rfl, rfl, hB, (Cs.of_own ho).1⟩
    · have h3i : (tags.length : Int) > 60 := by omega
      go_wp2_with fail
      go_ret3
      exact .inl ⟨rfl, hk02⟩
  · go_enter Try.func12, Try.ntmps12
    go_wp2_with fail
    refine (heapNew_no words _ (by omega)).mono ?_
    rintro e w1 ⟨rfl, rfl⟩
    go_wp2_with fail
    refine (refNew_no words _ (by omega)).mono ?_
    rintro e w2 ⟨rfl, rfl⟩
    go_wp2_with fail
    go_ret3
    exact .inl ⟨rfl, Keep.rf _⟩
end Go.Proofs.Ytilhglnfjaablaa
