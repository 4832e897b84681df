/- Words for the walks, of this program's own types: bytes appended. -/
import Derived.Test.YtilhglnfjaablaaProg
import Derived.Test.YtilhglnfjaablaaLibA
import Derived.Test.YtilhglnfjaablaaLibSl
namespace Go.Proofs.Ytilhglnfjaablaa
open Go.RowKit
theorem infoU8 : (Try.prog.info? 5).map (fun i => (i.zero, i.size, i.bytes)) = some (some (.int .u8 0), 1, 1) := by kernel_rfl
theorem sizeU8 : (Try.prog.info? 5).map (fun i => i.size) = some 1 := by kernel_rfl
/-- Bytes of the call's own. -/
abbrev Obs (w : World) (base : Nat) (v : Value) (l : List UInt8) : Prop := Ob w base 5 v l
theorem Ob.slice {w : World} {base e : Nat} {v : Value} {l : List UInt8} (h : Ob w base e v l) : ∃ A c, v = .slice A l.length c := by
  obtain ⟨A, c, h, _⟩ := h.bs
  exact ⟨A, c, h⟩
/-- append of bytes at the walk. -/
theorem appB {w w0 : World} {ops : Array Oper} {rest : List Oper} {o : Oper} {a : Act} {Q : Exit → Act → World → Prop} (hgd : o.guard = none) (s x : Operand)
    (ho : o.op = .call { callee := .builtin .append, args := #[s, x], argTypes := #[93, 93] })
    (v : Value) (xs : List UInt8) (hs : a.eval s = v) (hown : Obs w w0.heap.size v xs) (y : Value) (ys : List UInt8) (hx : a.eval x = y) (hy : Bs w y ys) (hk : Keep w0 w) (hl : xs.length + ys.length ≤ 1000000000)
    (h : ∀ v' w', Obs w' w0.heap.size v' (xs ++ ys) → Keep w0 w' → w.grownBy w' v.ownBlock → (v'.ownBlock = v.ownBlock ∨ v'.ownBlock = some w.heap.size) → wpList Try.prog ops Q rest (a.put o.dst v') w') : wpList Try.prog ops Q (o :: rest) a w :=
  wpList_app hgd s x 93 ho w0.heap.size 5 (.int .u8 0) 1 1 Try.underlying93 infoU8 rfl (by omega) v xs.length (xs.map bv) hs hown y ys.length (ys.map bv) hx hy.src
    (fun u hu => bv_one u ys hu) (by simp only [maxLen]; omega) (by omega) hk.size fun v' w' h2 => h v' w' (App.ob h2 rfl) (App.below h2 hk hk.size hown.base) h2.2.1 h2.2.2
/-- make of bytes. -/
theorem run_makeB (w : World) (n : Nat) (hn : n ≤ 1000000) : ∃ w', (Instr.makeSlice 93 (.int .i64 (n : Int)) (.int .i64 (n : Int))).run Try.prog w = .ok (.slice (some ⟨w.heap.size, 0, none⟩) n n) w' ∧ Obs w' w.heap.size (.slice (some ⟨w.heap.size, 0, none⟩) n n) (List.replicate n 0) ∧ Keep w w' := by
  obtain ⟨i, hi, hz⟩ := Option.map_eq_some_iff.1 infoU8
  simp only [Prod.mk.injEq] at hz
  obtain ⟨hz0, hz1, hz2⟩ := hz
  obtain ⟨w', h1, h2, h3⟩ := run_make_full (P := Try.prog) w w.heap.size 93 5 i _ 1 Try.underlying93 hi hz0 hz1 .i64 .i64 n (by rw [hz2]; omega) (by simp only [maxLen]; omega) (Nat.le_refl _)
  refine ⟨w', h1, ?_, (Keep.rf w).grown h3 (Nat.le_refl _) (fun k h => by cases h)⟩
  have e : (madeCells (Value.int .u8 0).cells (n * 1)).toList = (List.replicate n (0 : UInt8)).map bv := by
    rw [show (Value.int IntKind.u8 0).cells = #[Value.int .u8 0] from rfl, toList_madeCells_one, List.map_replicate, Nat.mul_one]
    rfl
  rw [e] at h2
  unfold Obs Ob
  rw [List.length_replicate]
  exact h2
end Go.Proofs.Ytilhglnfjaablaa
