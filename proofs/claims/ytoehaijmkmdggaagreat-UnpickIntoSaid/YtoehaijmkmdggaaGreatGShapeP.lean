/- Walks: a string put into a heap (package shape). Walks: a string's bytes out of a heap (package shape). Walks: the graph of a number; the laws' own check (shape). Walks: the laws' own check (shape); the law ShapePut. Graphs that came in; walks: are two rows of values one? are two blocks? -/
import Derived.Test.YtoehaijmkmdggaaGreatGHeapR
import Derived.Test.YtoehaijmkmdggaaGreatGLib
import Derived.Test.YtoehaijmkmdggaaGreatGLibK
import Derived.Test.YtoehaijmkmdggaaGreatGReg
import Derived.Test.YtoehaijmkmdggaaGreatGOpen
import Derived.Test.YtoehaijmkmdggaaGreatGLibR
set_option linter.unusedSimpArgs false
set_option linter.unusedVariables false
set_option linter.unusedSimpArgs false
namespace Go.Proofs.YtoehaijmkmdggaaGreat
open Go.RowKit
set_option linter.unusedVariables false
set_option maxRecDepth 100000
/-- A string's words. -/
def wordsOf (s : List UInt8) : List Int := s.map fun b => intW (b.toNat : Int)
theorem wordsOf_wf (s : List UInt8) : ∀ f ∈ wordsOf s, (Lit.int .i64 f).wf = true := by
  intro f hf
  obtain ⟨b, _, rfl⟩ := List.mem_map.1 hf
  have := b.toNat_lt
  unfold intW
  rw [IntKind.wrap_i64]
  simp [Lit.wf, IntKind.min, IntKind.max, IntKind.bits, IntKind.signed, wrap64]
  omega
theorem words_set (s : List UInt8) (k : Nat) (hk : k < s.length) : (wordsOf (s.take k) ++ List.replicate (s.length - k) 0).set k (intW (s[k].toNat : Int)) = wordsOf (s.take (k + 1)) ++ List.replicate (s.length - (k + 1)) 0 := by
  have hl : (wordsOf (s.take k)).length = k := by simp [wordsOf]; omega
  rw [List.set_append_right _ _ (by omega), hl, Nat.sub_self, show s.length - k = (s.length - (k + 1)) + 1 by omega, List.replicate_succ, List.set_cons_zero]
  unfold wordsOf
  rw [List.take_succ_eq_append_getElem hk, List.map_append, List.append_assoc]
  rfl
/-- A row of the call's own: its block, a cell of it. -/
theorem own_at {w : World} {base e n : Nat} {g c : Nat} {xs : List Value} (h : w.ownsRow base e 1 (.slice (some ⟨g, 0, none⟩) n c) n xs) (k : Nat) (hk : k < xs.length) : w.cell? ⟨g, k, none⟩ = some xs[k] ∧ w.frozen? ⟨g, k, none⟩ = false := by
  have hc := h.cells (g := g) rfl k xs[k] (by simp [hk])
  rw [add_pl] at hc
  refine ⟨hc, ?_⟩
  rcases h.2 with ⟨e, _⟩ | ⟨g', cap, cur, e, hg, hh, _⟩
  · cases e
  · cases e
    simp [World.frozen?, hh]
set_option maxHeartbeats 4000000 in
theorem shapePut {p sz : Nat} {S : List Nat} {H : Em.Hp} (w : World) (h : HRep w p S sz H) (s : List UInt8) (hs : s.length ≤ 100000) : Calls Tryz.prog 30 #[.pointer (some ⟨p, 0, none⟩), .string (str s)] w fun e w' => ∃ w1, Keep w w1 ∧ AllocH w1 p S sz H 1 (wordsOf s) e w' := by
  obtain ⟨w1, hmk, hrow, k1⟩ := run_makeW w s.length (by omega)
  have hsz := str_size s
  go_enter Tryz.func30, Tryz.ntmps30
  go_wp2_with fail
  go_loopw [13] (fun i W => ∃ k : Nat, k ≤ s.length ∧ i = .int .i64 (k : Int) ∧ W.ownsRow w.heap.size 32 1 (.slice (some ⟨w.heap.size, 0, none⟩) s.length s.length) s.length ((wordsOf (s.take k) ++ List.replicate (s.length - k) 0).map (Value.int .i64)) ∧ Keep w W) (fun i _ => s.length - (intOf i).toNat)
  case atStart => exact ⟨0, Nat.zero_le _, rfl, by simpa [wordsOf] using hrow, k1⟩
  case round =>
    clear hrow k1 hmk
    obtain ⟨k, hk, rfl, row, kw⟩ := hrel
    by_cases hlt : k < s.length
    · have hlti : (k : Int) < (s.length : Int) := by omega
      have hws := words_set s k hlt
      have hat := own_at row k (by simp [wordsOf]; omega)
      obtain ⟨c0, c1⟩ := hat
      have HROW := hide row
      clear row
      go_wp2_with fail
      have hw : wrap64 (((str s)[k]'(by rw [str_size]; exact hlt)).toNat : Int) = (s[k].toNat : Int) := by
        have hb : (str s)[k]'(by rw [str_size]; exact hlt) = s[k] := by simp [str]; rfl
        rw [hb]
        have := s[k].toNat_lt
        simp only [wrap64]
        omega
      rw [hw]
      refine (heapInt _ _).mono ?_
      rintro e w2 ⟨rfl, rfl⟩
      have hst := (World.ownsRow.stored HROW.out k (.int .i64 (intW (s[k].toNat : Int)))).1
      rw [← List.map_set, hws] at hst
      have HST := hide hst
      have HK := hide (Keep.st kw (p := ⟨w.heap.size, k, none⟩) (Nat.le_refl _) (.int .i64 (intW (s[k].toNat : Int))))
      clear hst hws hw
      generalize intW (s[k].toNat : Int) = y at *
      go_wp2_with fail
      go_roundw
      case rel => exact ⟨k + 1, by omega, by go_num, HST.out, HK.out⟩
      case measure => simp [intOf]; omega
    · have hlti : ¬ (k : Int) < (s.length : Int) := by omega
      have hkn : k = s.length := by omega
      rw [hkn, List.take_length, Nat.sub_self, List.replicate_zero, List.append_nil] at row
      have hIs := (Cs.of_own row).1
      have HIS := hide hIs
      clear hkn hIs row
      go_wp2_with fail
      refine (heapAlloc wr (h.keep kw) 1 (by decide) _ (wordsOf s) HIS.out (wordsOf_wf s) (by simp [wordsOf]; omega)).mono ?_
      intro e w3 R
      cases ha : Em.alloc sz H 1 (wordsOf s) with
      | none =>
        obtain ⟨rfl, k3⟩ := R.no ha
        go_wp2_with fail
        go_ret2
        exact ⟨wr, kw, R⟩
      | some x =>
        obtain ⟨n, H'⟩ := x
        obtain ⟨rfl, k3⟩ := R.yes ha
        go_wp2_with fail
        go_ret2
        exact ⟨wr, kw, R⟩
end Go.Proofs.YtoehaijmkmdggaaGreat
namespace Go.Proofs.YtoehaijmkmdggaaGreat
open Go.RowKit
set_option linter.unusedVariables false
set_option maxRecDepth 100000
namespace Em
end Em
theorem used_ge {H : Em.Hp} {b : Int × List Int} (h : b ∈ H) : b.2.length ≤ Em.used H := by
  induction H with
  | nil => cases h
  | cons c t ih =>
    rw [Em.used]
    rcases List.mem_cons.1 h with rfl | h
    · omega
    · have := ih h
      omega
theorem blk_mem (H : Em.Hp) (n : Int) : Em.blk H n = (0, []) ∨ Em.blk H n ∈ H := by
  unfold Em.blk
  cases hi : Em.idx H n with
  | none => exact .inl rfl
  | some i =>
    have := Em.idx_lt hi
    right
    simp only [List.getD_eq_getElem?_getD, List.getElem?_eq_getElem this, Option.getD_some]
    exact List.getElem_mem this
theorem HRep.small {w : World} {p sz : Nat} {S : List Nat} {H : Em.Hp} (h : HRep w p S sz H) : Em.used H ≤ sz ∧ sz ≤ 20000 ∧ ∀ b ∈ H, (Lit.int .i64 b.1).wf = true ∧ ∀ f ∈ b.2, (Lit.int .i64 f).wf = true := by
  obtain ⟨mb, L, rfl, h⟩ := h
  exact ⟨h.small.1, h.small.2, h.ints⟩
theorem HRep.blk {w : World} {p sz : Nat} {S : List Nat} {H : Em.Hp} (h : HRep w p S sz H) (n : Int) : (Em.blk H n).2.length ≤ 20000 ∧ (∀ f ∈ (Em.blk H n).2, (Lit.int .i64 f).wf = true) ∧ (Lit.int .i64 (Em.blk H n).1).wf = true := by
  have hs := h.small
  rcases blk_mem H n with e | e
  · rw [e]
    exact ⟨by simp, by simp, by decide⟩
  · have := used_ge e
    exact ⟨by omega, (hs.2.2 _ e).2, (hs.2.2 _ e).1⟩
end Go.Proofs.YtoehaijmkmdggaaGreat
namespace Go.Proofs.YtoehaijmkmdggaaGreat
open Go.RowKit
set_option linter.unusedVariables false
set_option maxRecDepth 100000
end Go.Proofs.YtoehaijmkmdggaaGreat
namespace Go.Proofs.YtoehaijmkmdggaaGreat
open Go.RowKit
set_option linter.unusedVariables false
set_option maxRecDepth 100000
end Go.Proofs.YtoehaijmkmdggaaGreat
namespace Go.Proofs.YtoehaijmkmdggaaGreat
open Go.ChangeShapes Go.WideShapes Go.RowKit
set_option linter.unusedVariables false
set_option maxRecDepth 100000
namespace Em
/-- A block of a graph. -/
structure Blk where
  tag : Int
  str : List UInt8
  kids : List (Bool × Int)
  deriving DecidableEq
/-- A graph. -/
structure Gr where
  root : Bool × Int
  blocks : List Blk
  deriving DecidableEq
end Em
def KRf (_ : World) (cs : List Value) (x : Bool × Int) : Prop := cs = [.bool x.1, .int .i64 x.2] ∧ (Lit.int .i64 x.2).wf = true
def KBk (w : World) (cs : List Value) (b : Em.Blk) : Prop := ∃ v, cs = [.int .i64 b.tag, .string (str b.str), v] ∧ (Lit.int .i64 b.tag).wf = true ∧ Sl 2 KRf w v b.kids
theorem KBk.keep {w w' : World} {cs : List Value} {b : Em.Blk} (h : KBk w cs b) (k : Keep w w') : KBk w' cs b := by
  obtain ⟨v, h1, h2, h3⟩ := h
  exact ⟨v, h1, h2, h3.keep k fun _ _ h => h⟩
/-- A value that is a graph. -/
def GrV (w : World) (v : Value) (g : Em.Gr) : Prop := ∃ u, v = .agg #[.bool g.root.1, .int .i64 g.root.2, u] ∧ (Lit.int .i64 g.root.2).wf = true ∧ Sl 3 KBk w u g.blocks
theorem GrV.keep {w w' : World} {v : Value} {g : Em.Gr} (h : GrV w v g) (k : Keep w w') : GrV w' v g := by
  obtain ⟨u, h1, h2, h3⟩ := h
  exact ⟨u, h1, h2, h3.keep k fun _ _ h => h.keep k⟩
section
variable {H : Type} {enc : TypeId × Value → H} {W : World} {base : Nat}
end
end Go.Proofs.YtoehaijmkmdggaaGreat
