/- Walks: the functions of package heap. -/
import Derived.Test.YtoehaijmkmdggaaHeapR
import Derived.Test.YtoehaijmkmdggaaRegRel
import Derived.Lib.SliceRun
namespace Go.Proofs.Ytoehaijmkmdggaa
open Go.RowKit Go.Maps
set_option linter.unusedVariables false
set_option maxRecDepth 100000
theorem Cs.none {w : World} {A : Option Addr} {n c : Nat} {l : List Value} (h : Cs w (.slice A n c) l) (hA : A = none) : l = [] := by
  obtain ⟨A', c', e, h1, h2, h3⟩ := h
  injection e with e1 e2 e3
  rcases Nat.eq_zero_or_pos l.length with h0 | h0
  · exact List.eq_nil_of_length_eq_zero h0
  · obtain ⟨ad, e, _⟩ := h3 h0
    rw [e1.symm.trans hA] at e
    cases e
set_option maxHeartbeats 1000000 in
theorem cloneW (v : Value) (l : List Int) (w : World) (h : Is w v l) (hl : l.length ≤ 1000000) : Calls Try.prog 61 #[v] w fun e w' => ∃ A c, e = .returned (.slice A l.length c) ∧ w'.ownsRow w.heap.size 36 1 (.slice A l.length c) l.length (l.map (Value.int .i64)) ∧ Keep w w' := by
  have h0 := h
  obtain ⟨A, c, rfl, hlc, hcm, hr⟩ := h
  have kn := fun W A n c => Lib.run_eql_slice_nil (P := Try.prog) W 68 36 A n c 0 0 Try.underlying68
  clear hr
  rcases A with _ | ad
  · have h00 := h0.none rfl
    have : l = [] := by simpa using h00
    subst this
    go_enter Try.func61, Try.ntmps61
    go_wp2
    go_ret
    exact ⟨_, _, rfl, ⟨by simp, .inl ⟨rfl, rfl⟩⟩, Keep.rf _⟩
  · have HL := hide (show (l.map (Value.int .i64)).length = l.length from by simp)
    go_enter Try.func61, Try.ntmps61
    go_wp2_with (at_builtin; go_loud (refine app1 rfl (.tmp 5) (.tmp 6) _ _ _ _ Try.underlying68 infoW rfl (by omega) rfl w.heap.size _ [] rfl (own_new [] rfl rfl rfl (Nat.le_refl _) (by simp)) _ _ rfl (h0.keep (by repeat (first | exact Keep.rf _ | assumption | apply Keep.al | apply Keep.dr | apply Keep.dn))) (int_one l) (Below.size (show Keep w _ from (by repeat (first | exact Keep.rf _ | assumption | apply Keep.al | apply Keep.dr | apply Keep.dn)))) (by simp; omega) ?_); intro v2 w2 ho2 hg2 hat2)
    go_ret
    obtain ⟨A9, c9, e9⟩ := own_slice ho2
    subst e9
    simp only [List.nil_append, HL.out] at ho2 ⊢
    refine ⟨_, _, rfl, ?_, (show Keep w _ from (by repeat (first | exact Keep.rf _ | assumption | apply Keep.al | apply Keep.dr | apply Keep.dn))).grown hg2 (Below.size (show Keep w _ from (by repeat (first | exact Keep.rf _ | assumption | apply Keep.al | apply Keep.dr | apply Keep.dn)))) (fun k h => by cases h; exact Nat.le_refl _)⟩
    simpa [HL.out] using ho2
/-- A number as a word. -/
def intW (n : Int) : Int := IntKind.i64.wrap (2 * n) + 1
theorem or_nat1 (m : Nat) (h : m % 2 = 0) : m ||| 1 = m + 1 := by
  have : m = (m / 2) <<< 1 := by rw [Nat.shiftLeft_eq]; omega
  rw [this, ← Nat.shiftLeft_add_eq_or_of_lt (by omega)]
theorem or_i64 (x : Int) (h1 : -9223372036854775808 ≤ x) (h2 : x ≤ 9223372036854775807) (h : x % 2 = 0) : bits .or .i64 x 1 = x + 1 := by
  show IntKind.i64.wrap ((BitVec.ofInt 64 x ||| BitVec.ofInt 64 1).toNat : Int) = _
  have e : (BitVec.ofInt 64 x ||| BitVec.ofInt 64 1).toNat = (x % 18446744073709551616).toNat + 1 := by
    rw [BitVec.toNat_or, BitVec.toNat_ofInt, show (BitVec.ofInt 64 1).toNat = 1 from by decide]
    exact or_nat1 _ (by omega)
  rw [e, IntKind.wrap_i64]
  omega
theorem and_i64 (x : Int) : bits .and .i64 x 1 = x % 2 := by
  show IntKind.i64.wrap ((BitVec.ofInt 64 x &&& BitVec.ofInt 64 1).toNat : Int) = _
  have e : (BitVec.ofInt 64 x &&& BitVec.ofInt 64 1).toNat = (x % 18446744073709551616).toNat % 2 := by
    rw [BitVec.toNat_and, BitVec.toNat_ofInt, show (BitVec.ofInt 64 1).toNat = 2 ^ 1 - 1 from by decide, Nat.and_two_pow_sub_one_eq_mod]
    rfl
  rw [e, IntKind.wrap_i64]
  omega
theorem intW_go (n : Int) : bits .or .i64 (wrap64 (n * 2)) 1 = intW n := by
  rw [show wrap64 (n * 2) = IntKind.i64.wrap (n * 2) from by rw [IntKind.wrap_i64]; unfold wrap64; omega]
  unfold intW
  rw [Int.mul_comm 2 n]
  have := IntKind.wrap_i64 (n * 2)
  exact or_i64 _ (by rw [this]; omega) (by rw [this]; omega) (by rw [this]; omega)
theorem intW_ref (n : Int) : IntKind.i64.wrap (bits .or .u64 (IntKind.u64.wrap (IntKind.u64.wrap n * 2)) 1) = intW n := by
  have h1 := IntKind.wrap_u64 n
  have h2 := IntKind.wrap_u64 (IntKind.u64.wrap n * 2)
  obtain ⟨m, hm⟩ : ∃ m : Nat, IntKind.u64.wrap (IntKind.u64.wrap n * 2) = (m : Int) := ⟨(IntKind.u64.wrap (IntKind.u64.wrap n * 2)).toNat, by rw [h2]; omega⟩
  rw [hm, show (1 : Int) = ((1 : Nat) : Int) from rfl, u64_or_nat _ _ (by omega) (by omega), or_nat1 _ (by omega)]
  unfold intW
  rw [IntKind.wrap_i64, IntKind.wrap_i64]
  omega
theorem intW_odd (n : Int) : intW n % 2 = 1 := by
  unfold intW
  rw [IntKind.wrap_i64]
  omega
theorem intW_back (n : Int) (h1 : -4611686018427387904 ≤ n) (h2 : n < 4611686018427387904) : intW n / 2 = n := by
  unfold intW
  rw [IntKind.wrap_i64]
  omega
theorem heapInt (n : Int) (w : World) : Calls Try.prog 20 #[.int .i64 n] w fun e w' => e = .returned (.int .i64 (intW n)) ∧ w = w' := by
  have h := intW_go n
  go_enter Try.func20, Try.ntmps20
  go_wp2
  go_ret
  exact ⟨by rw [← h]; rfl, rfl⟩
theorem refInt (n : Int) (w : World) : Calls Try.prog 49 #[.int .i64 n] w fun e w' => e = .returned (.int .i64 (intW n)) ∧ w = w' := by
  have h := intW_ref n
  go_enter Try.func49, Try.ntmps49
  go_wp2
  go_ret
  exact ⟨by rw [← h]; rfl, rfl⟩
theorem heapIsInt (n : Int) (w : World) : Calls Try.prog 100 #[.int .i64 n] w fun e w' => e = .returned (.bool (n % 2 == 1)) ∧ w = w' := by
  have h := and_i64 n
  go_enter Try.func100, Try.ntmps100
  go_wp2
  go_ret
  exact ⟨rfl, rfl⟩
theorem refIsInt (n : Int) (w : World) : Calls Try.prog 113 #[.int .i64 n] w fun e w' => e = .returned (.bool (n % 2 == 1)) ∧ w = w' := by
  have h := and_i64 n
  go_enter Try.func113, Try.ntmps113
  go_wp2
  go_ret
  exact ⟨rfl, rfl⟩
theorem heapNum (n : Int) (w : World) : Calls Try.prog 99 #[.int .i64 n] w fun e w' => e = .returned (.int .i64 (n / 2)) ∧ w = w' := by
  go_enter Try.func99, Try.ntmps99
  go_wp2
  go_ret
  exact ⟨rfl, rfl⟩
theorem refNum (n : Int) (w : World) : Calls Try.prog 48 #[.int .i64 n] w fun e w' => e = .returned (.int .i64 (n / 2)) ∧ w = w' := by
  go_enter Try.func48, Try.ntmps48
  go_wp2
  go_ret
  exact ⟨rfl, rfl⟩
theorem HLies.new {w : World} {mb p sz : Nat} (hmb : w.heap.size = mb) (hp : w.heap.size + 1 = p) (h : sz ≤ 20000) : HLies ((w.alloc (.map #[] 0)).alloc (.cells #[.int .i64 (sz : Int), .int .i64 0, .map (some mb)] 77)) p mb [] sz [] := by
  subst hmb hp
  refine { top := ?_, map := ?_, len := rfl, part := fun i x b h => by simp at h, nodup := by simp [foot], ints := by simp, small := ⟨by simp [Em.used], h⟩ }
  · have := heap_alloc_new (w.alloc (.map #[] 0)) (.cells #[.int .i64 (sz : Int), .int .i64 0, .map (some w.heap.size)] 77)
    rw [show (w.alloc (.map #[] 0)).heap.size = w.heap.size + 1 from by simp] at this
    exact this
  · have h1 := (MapF.new w rfl).frm (S := fun _ => False) ((Keep.rf (w.alloc (.map #[] 0))).al (.cells #[.int .i64 (sz : Int), .int .i64 0, .map (some w.heap.size)] 77) |>.frm _) (fun h => h)
    have : ptrAt [] [] = fun _ => none := by
      funext n
      simp [ptrAt, Em.idx, Em.idxF]
    rw [this]
    exact h1
/-- A Heap that was made. -/
def NewH (w : World) (sz : Nat) (e : Ending) (w' : World) : Prop := ∃ p S, e = .returned (.pointer (some ⟨p, 0, none⟩)) ∧ HRep w' p S sz [] ∧ (∀ k ∈ S, w.heap.size ≤ k) ∧ Keep w w'
theorem heapNew (n : Nat) (w : World) (h : n ≤ 20000) : Calls Try.prog 14 #[.int .i64 (n : Int)] w (NewH w n) := by
  have hmm := @run_makeMap Try.prog
  go_enter Try.func14, Try.ntmps14
  go_wp2
  go_ret
  refine ⟨w.heap.size + 1, [w.heap.size + 1, w.heap.size], by simp, ⟨w.heap.size, [], rfl, HLies.new rfl rfl h⟩, by simp, (by repeat (first | exact Keep.rf _ | assumption | apply Keep.al | apply Keep.dr | apply Keep.dn))⟩
theorem heapNew_no (n : Int) (w : World) (h : n < 0 ∨ 20000 < n) : Calls Try.prog 14 #[.int .i64 n] w fun e w' => e = .returned (.pointer none) ∧ w = w' := by
  rcases h with h | h
  all_goals
    go_enter Try.func14, Try.ntmps14
    go_wp2
    go_ret
    exact ⟨rfl, rfl⟩
theorem heapUsed {p sz : Nat} {S : List Nat} {H : Em.Hp} (w : World) (h : HRep w p S sz H) : Calls Try.prog 39 #[.pointer (some ⟨p, 0, none⟩)] w fun e w' => e = .returned (.int .i64 (Em.used H : Int)) ∧ w = w' := by
  obtain ⟨mb, L, rfl, h⟩ := h
  have c0 := top_cells h.top 1
  simp only [List.getElem?_toArray, List.getElem?_cons_succ, List.getElem?_cons_zero] at c0
  clear h
  go_enter Try.func39, Try.ntmps39
  go_wp2
  go_ret
  exact ⟨rfl, rfl⟩
theorem heapSize {p sz : Nat} {S : List Nat} {H : Em.Hp} (w : World) (h : HRep w p S sz H) : Calls Try.prog 38 #[.pointer (some ⟨p, 0, none⟩)] w fun e w' => e = .returned (.int .i64 (sz : Int)) ∧ w = w' := by
  obtain ⟨mb, L, rfl, h⟩ := h
  have c0 := top_cells h.top 0
  simp only [List.getElem?_toArray, List.getElem?_cons_succ, List.getElem?_cons_zero] at c0
  clear h
  go_enter Try.func38, Try.ntmps38
  go_wp2
  go_ret
  exact ⟨rfl, rfl⟩
theorem zeroBlk (w : World) : (zeroValue 118).run Try.prog w = .ok (.pointer none) w := by kernel_rfl
theorem heapAt {p mb sz : Nat} {L : List (Nat × Value)} {H : Em.Hp} (w : World) (h : HLies w p mb L sz H) (n : Int) (hn : (Lit.int .i64 n).wf = true) : Calls Try.prog 63 #[.pointer (some ⟨p, 0, none⟩), .int .i64 n] w fun e w' => e = .returned ((ptrAt L H n).getD (.pointer none)) ∧ w = w' := by
  have c0 := top_cells h.top 2
  simp only [List.getElem?_toArray, List.getElem?_cons_succ, List.getElem?_cons_zero] at c0
  have hlk := h.map.look (P := Try.prog) Try.underlying75 Try.underlying36 (zeroBlk w) n hn
  clear h hn
  go_enter Try.func63, Try.ntmps63
  go_wp2
  go_ret
  exact ⟨rfl, rfl⟩
theorem heapTag {p sz : Nat} {S : List Nat} {H : Em.Hp} (w : World) (h : HRep w p S sz H) (n : Int) (hn : (Lit.int .i64 n).wf = true) : Calls Try.prog 105 #[.pointer (some ⟨p, 0, none⟩), .int .i64 n] w fun e w' => e = .returned (.int .i64 (Em.blk H n).1) ∧ w = w' := by
  obtain ⟨mb, L, rfl, h⟩ := h
  cases hi : Em.idx H n with
  | none =>
    obtain ⟨h1, h2⟩ := ptrAt_none (L := L) hi
    have H2 := hide h2
    clear h2
    go_enter Try.func105, Try.ntmps105
    go_wp2_with fail
    refine (heapAt w h n hn).mono ?_
    rintro e w' ⟨rfl, rfl⟩
    rw [h1, Option.getD_none]
    go_wp2
    go_ret
    exact ⟨by rw [H2.out]; rfl, rfl⟩
  | some i =>
    obtain ⟨x, b, hx, hb, h1, h2⟩ := ptrAt_some h.len hi
    have H2 := hide h2
    obtain ⟨g1, g2⟩ := h.part i x b hx hb
    have c0 := top_cells g1 0
    simp only [List.getElem?_toArray, List.getElem?_cons_succ, List.getElem?_cons_zero] at c0
    clear h2 g1 g2
    go_enter Try.func105, Try.ntmps105
    go_wp2_with fail
    refine (heapAt w h n hn).mono ?_
    rintro e w' ⟨rfl, rfl⟩
    rw [h1, Option.getD_some]
    go_wp2
    go_ret
    exact ⟨by rw [H2.out]; rfl, rfl⟩
theorem heapLen {p sz : Nat} {S : List Nat} {H : Em.Hp} (w : World) (h : HRep w p S sz H) (n : Int) (hn : (Lit.int .i64 n).wf = true) : Calls Try.prog 62 #[.pointer (some ⟨p, 0, none⟩), .int .i64 n] w fun e w' => e = .returned (.int .i64 ((Em.blk H n).2.length : Int)) ∧ w = w' := by
  obtain ⟨mb, L, rfl, h⟩ := h
  cases hi : Em.idx H n with
  | none =>
    obtain ⟨h1, h2⟩ := ptrAt_none (L := L) hi
    have H2 := hide h2
    clear h2
    go_enter Try.func62, Try.ntmps62
    go_wp2_with fail
    refine (heapAt w h n hn).mono ?_
    rintro e w' ⟨rfl, rfl⟩
    rw [h1, Option.getD_none]
    go_wp2
    go_ret
    exact ⟨by rw [H2.out]; rfl, rfl⟩
  | some i =>
    obtain ⟨x, b, hx, hb, h1, h2⟩ := ptrAt_some h.len hi
    have H2 := hide h2
    obtain ⟨g1, g2⟩ := h.part i x b hx hb
    obtain ⟨x1, x2⟩ := x
    obtain ⟨A, c, rfl⟩ := own_slice g2
    have c0 := top_cells g1 1
    simp only [List.getElem?_toArray, List.getElem?_cons_succ, List.getElem?_cons_zero] at c0
    clear h2 g1 g2
    go_enter Try.func62, Try.ntmps62
    go_wp2_with fail
    refine (heapAt w h n hn).mono ?_
    rintro e w' ⟨rfl, rfl⟩
    rw [h1, Option.getD_some]
    go_wp2
    go_ret
    exact ⟨by rw [H2.out]; rfl, rfl⟩
theorem field_no {H : Em.Hp} {n i : Int} (h : i < 0 ∨ ((Em.blk H n).2.length : Int) ≤ i) : Em.field H n i = none := by
  unfold Em.field
  by_cases h1 : i < 0
  · rw [if_pos h1]
  · rw [if_neg h1, List.getElem?_eq_none (by omega)]
/-- What Field answers. -/
def fieldT (H : Em.Hp) (n i : Int) : Value := match Em.field H n i with
  | some v => .tuple #[.int .i64 v, .bool true]
  | none => .tuple #[.int .i64 0, .bool false]
theorem heapField {p sz : Nat} {S : List Nat} {H : Em.Hp} (w : World) (h : HRep w p S sz H) (n : Int) (hn : (Lit.int .i64 n).wf = true) (k : Int) : Calls Try.prog 107 #[.pointer (some ⟨p, 0, none⟩), .int .i64 n, .int .i64 k] w fun e w' => e = .returned (fieldT H n k) ∧ w = w' := by
  have h0 := h
  by_cases hk : k < 0
  · have hf := hide (show fieldT H n k = _ from by unfold fieldT; rw [field_no (.inl hk)])
    go_enter Try.func107, Try.ntmps107
    go_wp2
    go_ret2
    exact ⟨by rw [hf.out]; rfl, rfl⟩
  · by_cases hk2 : ((Em.blk H n).2.length : Int) ≤ k
    · have hf := hide (show fieldT H n k = _ from by unfold fieldT; rw [field_no (.inr hk2)])
      go_enter Try.func107, Try.ntmps107
      go_wp2_with fail
      refine (heapLen w h n hn).mono ?_
      rintro e w' ⟨rfl, rfl⟩
      go_wp2
      go_ret2
      exact ⟨by rw [hf.out]; rfl, rfl⟩
    · obtain ⟨j, rfl⟩ := Int.eq_ofNat_of_zero_le (show 0 ≤ k by omega)
      cases hi : Em.idx H n with
      | none =>
        obtain ⟨_, h2⟩ := ptrAt_none (L := []) hi
        rw [h2] at hk2
        simp at hk2
      | some i =>
        obtain ⟨mb, L, rfl, h⟩ := h
        obtain ⟨x, b, hx, hb, h1, h2⟩ := ptrAt_some h.len hi
        have hjl : j < b.2.length := by rw [h2] at hk2; omega
        have hf := hide (show fieldT H n (j : Int) = .tuple #[.int .i64 b.2[j], .bool true] from by
          unfold fieldT Em.field
          rw [if_neg hk, h2, Int.toNat_natCast, List.getElem?_eq_getElem hjl])
        have HL := heapLen w h0 n hn
        rw [h2] at HL
        obtain ⟨g1, g2⟩ := h.part i x b hx hb
        obtain ⟨x1, x2⟩ := x
        obtain ⟨hcs, -⟩ := Cs.of_own g2
        obtain ⟨A, c, e2, q1, q2, q3⟩ := hcs
        simp only [List.length_map] at e2 q1 q3
        subst e2
        obtain ⟨ad, rfl, hc⟩ := q3 (by omega)
        have hcj := hc j (by omega)
        simp only [List.getElem_map] at hcj
        have c0 := top_cells g1 1
        simp only [List.getElem?_toArray, List.getElem?_cons_succ, List.getElem?_cons_zero] at c0
        have H1 := hide h1
        clear h2 g1 g2 hc q3 hk2 h1 hi hx hb
        go_enter Try.func107, Try.ntmps107
        go_wp2_with fail
        refine HL.mono ?_
        rintro e w' ⟨rfl, rfl⟩
        go_wp2_with fail
        refine (heapAt w h n hn).mono ?_
        rintro e w' ⟨rfl, rfl⟩
        rw [H1.out, Option.getD_some]
        go_wp2
        go_ret2
        exact ⟨by rw [hf.out]; rfl, rfl⟩
/-- What Set does. -/
def SetH (w : World) (p : Nat) (S : List Nat) (sz : Nat) (H : Em.Hp) (n k v : Int) (e : Ending) (w' : World) : Prop := match Em.put H n k v with
  | none => e = .returned (.bool false) ∧ w = w'
  | some H' => e = .returned (.bool true) ∧ HRep w' p S sz H' ∧ Frm (· ∈ S) w w'
theorem put_no {H : Em.Hp} {n k v : Int} (h : k < 0 ∨ ((Em.blk H n).2.length : Int) ≤ k) : Em.put H n k v = none := by
  unfold Em.put
  cases Em.idx H n with
  | none => rfl
  | some b => simp only; rw [if_pos h]
set_option maxHeartbeats 1000000 in
theorem heapSet {p sz : Nat} {S : List Nat} {H : Em.Hp} (w : World) (h : HRep w p S sz H) (n : Int) (hn : (Lit.int .i64 n).wf = true) (k v : Int) (hv : (Lit.int .i64 v).wf = true) : Calls Try.prog 33 #[.pointer (some ⟨p, 0, none⟩), .int .i64 n, .int .i64 k, .int .i64 v] w (SetH w p S sz H n k v) := by
  have h0 := h
  by_cases hk : k < 0
  · have hf := hide (put_no (H := H) (n := n) (v := v) (.inl hk))
    go_enter Try.func33, Try.ntmps33
    go_wp2
    go_ret
    unfold SetH
    rw [hf.out]
    exact ⟨rfl, rfl⟩
  · by_cases hk2 : ((Em.blk H n).2.length : Int) ≤ k
    · have hf := hide (put_no (H := H) (n := n) (v := v) (.inr hk2))
      go_enter Try.func33, Try.ntmps33
      go_wp2_with fail
      refine (heapLen w h n hn).mono ?_
      rintro e w' ⟨rfl, rfl⟩
      go_wp2
      go_ret
      unfold SetH
      rw [hf.out]
      exact ⟨rfl, rfl⟩
    · obtain ⟨j, rfl⟩ := Int.eq_ofNat_of_zero_le (show 0 ≤ k by omega)
      cases hi : Em.idx H n with
      | none =>
        obtain ⟨_, h2⟩ := ptrAt_none (L := []) hi
        rw [h2] at hk2
        simp at hk2
      | some i =>
        obtain ⟨mb, L, rfl, h⟩ := h
        obtain ⟨x, b, hx, hb, h1, h2⟩ := ptrAt_some h.len hi
        have hjl : j < b.2.length := by rw [h2] at hk2; omega
        have hf := hide (show Em.put H n (j : Int) v = some (Em.setF H i j v) from by
          unfold Em.put
          rw [hi]
          simp only
          rw [if_neg (by omega), Int.toNat_natCast])
        have HL := heapLen w h0 n hn
        rw [h2] at HL
        obtain ⟨g1, g2⟩ := h.part i x b hx hb
        obtain ⟨x1, x2⟩ := x
        have g20 := g2
        obtain ⟨_, ⟨_, h00⟩ | ⟨g, c, cur, rfl, _, gh, _, _, _, _⟩⟩ := g2
        · omega
        · have hfz := top_free gh j
          obtain ⟨hcs, -⟩ := Cs.of_own g20
          obtain ⟨A, c', e2, q1, q2, q3⟩ := hcs
          simp only [List.length_map] at e2 q1 q3
          injection e2 with e21 e22 e23
          subst e21 e23
          obtain ⟨ad, ead, hc⟩ := q3 (by omega)
          injection ead with ead
          subst ead
          have hcj := hc j (by omega)
          rw [add_pl] at hcj
          simp only [List.getElem_map] at hcj
          have c0 := top_cells g1 1
          simp only [List.getElem?_toArray, List.getElem?_cons_succ, List.getElem?_cons_zero] at c0
          have hset := h.set hx hb j v hv hjl
          have H1 := hide h1
          clear h2 g1 g20 hc q3 hk2 h1 hi hx hb e22 gh
          go_enter Try.func33, Try.ntmps33
          go_wp2_with fail
          refine HL.mono ?_
          rintro e w' ⟨rfl, rfl⟩
          go_wp2_with fail
          refine (heapAt w h n hn).mono ?_
          rintro e w' ⟨rfl, rfl⟩
          rw [H1.out, Option.getD_some]
          go_wp2
          go_ret
          unfold SetH
          rw [hf.out]
          exact ⟨rfl, ⟨mb, L, rfl, hset.1⟩, hset.2⟩
end Go.Proofs.Ytoehaijmkmdggaa
