/- What a Heap is in memory. Walks: the functions of package heap. Walk: Alloc of package heap. Walks: the laws of heap return true. -/
import Derived.Test.YtoehaijmkmdggaaULib
import Derived.Test.YtoehaijmkmdggaaUHeapPure
import Derived.RegionTactic
import Derived.Test.YtoehaijmkmdggaaUReg
import Derived.Lib.SliceRun
set_option linter.unusedSimpArgs false
set_option linter.unusedVariables false
set_option linter.unusedSimpArgs false
namespace Go.Proofs.Ytoehaijmkmdggaa
open Go.RowKit Go.Maps
set_option linter.unusedVariables false
theorem infoW : (Try.prog.info? 36).map (fun i => (i.zero, i.size, i.bytes)) = some (some (.int .i64 0), 1, 8) := by kernel_rfl
/-- make of words. -/
theorem run_makeW (w : World) (n : Nat) (hn : n ≤ 1000000) : ∃ w', (Instr.makeSlice 68 (.int .i64 (n : Int)) (.int .i64 (n : Int))).run Try.prog w = .ok (.slice (some ⟨w.heap.size, 0, none⟩) n n) w' ∧ w'.ownsRow w.heap.size 36 1 (.slice (some ⟨w.heap.size, 0, none⟩) n n) n ((List.replicate n (0 : Int)).map (Value.int .i64)) ∧ Keep w w' := by
  obtain ⟨i, hi, hz⟩ := Option.map_eq_some_iff.1 infoW
  simp only [Prod.mk.injEq] at hz
  obtain ⟨hz0, hz1, hz2⟩ := hz
  obtain ⟨w', h1, h2, h3⟩ := run_make_full (P := Try.prog) w w.heap.size 68 36 i _ 1 Try.underlying68 hi hz0 hz1 .i64 .i64 n (by rw [hz2]; omega) (by simp only [maxLen]; omega) (Nat.le_refl _)
  refine ⟨w', h1, ?_, (Keep.rf w).grown h3 (Nat.le_refl _) (fun k h => by cases h)⟩
  have e : (madeCells (Value.int .i64 0).cells (n * 1)).toList = (List.replicate n (0 : Int)).map (Value.int .i64) := by
    rw [show (Value.int IntKind.i64 0).cells = #[Value.int .i64 0] from rfl, toList_madeCells_one, List.map_replicate, Nat.mul_one]
  rw [e] at h2
  exact h2
end Go.Proofs.Ytoehaijmkmdggaa
namespace Go.Proofs.Ytoehaijmkmdggaa
open Go.RowKit Go.Maps
set_option linter.unusedVariables false
set_option maxRecDepth 100000
theorem Cs.none {w : World} {A : Option Addr} {n c : Nat} {l : List Value} (h : Cs w (.slice A n c) l) (hA : A = none) : l = [] := by
  obtain ⟨A', c', e, h1, h2, h3⟩ := h
  injection e with e1 e2 e3
  rcases Nat.eq_zero_or_pos l.length with h0 | h0
  · exact List.eq_nil_of_length_eq_zero h0
  · obtain ⟨ad, e, _⟩ := h3 h0
    rw [e1.symm.trans hA] at e
    cases e
/-- A number as a word. -/
def intW (n : Int) : Int := IntKind.i64.wrap (2 * n) + 1
theorem or_nat1 (m : Nat) (h : m % 2 = 0) : m ||| 1 = m + 1 := by
  have : m = (m / 2) <<< 1 := by rw [Nat.shiftLeft_eq]; omega
  rw [this, ← Nat.shiftLeft_add_eq_or_of_lt (by omega)]
theorem and_i64 (x : Int) : bits .and .i64 x 1 = x % 2 := by
  show IntKind.i64.wrap ((BitVec.ofInt 64 x &&& BitVec.ofInt 64 1).toNat : Int) = _
  have e : (BitVec.ofInt 64 x &&& BitVec.ofInt 64 1).toNat = (x % 18446744073709551616).toNat % 2 := by
    rw [BitVec.toNat_and, BitVec.toNat_ofInt, show (BitVec.ofInt 64 1).toNat = 2 ^ 1 - 1 from by decide, Nat.and_two_pow_sub_one_eq_mod]
    rfl
  rw [e, IntKind.wrap_i64]
  omega
theorem intW_ref (n : Int) : IntKind.i64.wrap (bits .or .u64 (IntKind.u64.wrap (IntKind.u64.wrap n * 2)) 1) = intW n := by
  have h1 := IntKind.wrap_u64 n
  have h2 := IntKind.wrap_u64 (IntKind.u64.wrap n * 2)
  obtain ⟨m, hm⟩ : ∃ m : Nat, IntKind.u64.wrap (IntKind.u64.wrap n * 2) = (m : Int) := ⟨(IntKind.u64.wrap (IntKind.u64.wrap n * 2)).toNat, by rw [h2]; omega⟩
  rw [hm, show (1 : Int) = ((1 : Nat) : Int) from rfl, u64_or_nat _ _ (by omega) (by omega), or_nat1 _ (by omega)]
  unfold intW
  rw [IntKind.wrap_i64, IntKind.wrap_i64]
  omega
theorem intW_odd (n : Int) : intW n % 2 = 1 := by
  unfold intW
  rw [IntKind.wrap_i64]
  omega
theorem intW_back (n : Int) (h1 : -4611686018427387904 ≤ n) (h2 : n < 4611686018427387904) : intW n / 2 = n := by
  unfold intW
  rw [IntKind.wrap_i64]
  omega
theorem refInt (n : Int) (w : World) : Calls Try.prog 49 #[.int .i64 n] w fun e w' => e = .returned (.int .i64 (intW n)) ∧ w = w' := by
  have h := intW_ref n
  go_enter Try.func49, Try.ntmps49
  go_wp2
  go_ret
  exact ⟨by rw [← h]; rfl, rfl⟩
theorem refIsInt (n : Int) (w : World) : Calls Try.prog 113 #[.int .i64 n] w fun e w' => e = .returned (.bool (n % 2 == 1)) ∧ w = w' := by
  have h := and_i64 n
  go_enter Try.func113, Try.ntmps113
  go_wp2
  go_ret
  exact ⟨rfl, rfl⟩
theorem refNum (n : Int) (w : World) : Calls Try.prog 48 #[.int .i64 n] w fun e w' => e = .returned (.int .i64 (n / 2)) ∧ w = w' := by
  go_enter Try.func48, Try.ntmps48
  go_wp2
  go_ret
  exact ⟨rfl, rfl⟩
theorem put_no {H : Em.Hp} {n k v : Int} (h : k < 0 ∨ ((Em.blk H n).2.length : Int) ≤ k) : Em.put H n k v = none := by
  unfold Em.put
  cases Em.idx H n with
  | none => rfl
  | some b => simp only; rw [if_pos h]
end Go.Proofs.Ytoehaijmkmdggaa
namespace Go.Proofs.Ytoehaijmkmdggaa
open Go.RowKit Go.Maps
set_option linter.unusedVariables false
set_option maxRecDepth 100000
theorem alloc_no {sz : Nat} {H : Em.Hp} {tag : Int} {fs : List Int} (h : tag < 1 ∨ 8 < tag ∨ (sz : Int) - Em.used H < 1 + fs.length) : Em.alloc sz H tag fs = none := if_pos h
theorem alloc_yes {sz : Nat} {H : Em.Hp} {tag : Int} {fs : List Int} (h : ¬ (tag < 1 ∨ 8 < tag ∨ (sz : Int) - Em.used H < 1 + fs.length)) : Em.alloc sz H tag fs = some (2 * (Em.used H : Int), H ++ [(tag, fs)]) := if_neg h
end Go.Proofs.Ytoehaijmkmdggaa
namespace Go.Proofs.Ytoehaijmkmdggaa
open Go.RowKit Go.Maps
set_option linter.unusedVariables false
set_option maxRecDepth 100000
theorem heap_set {w : World} {p j : Nat} {cs : Array Value} {t : TypeId} (h : w.heap[p]? = some (.cells cs t)) (u : Value) : (w.setCell ⟨p, j, none⟩ u).heap[p]? = some (.cells (cs.setIfInBounds j u) t) := by
  simp [World.setCell, Array.getElem?_modify, h]
end Go.Proofs.Ytoehaijmkmdggaa
