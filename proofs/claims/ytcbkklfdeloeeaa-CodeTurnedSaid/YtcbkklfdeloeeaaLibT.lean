/- Words for the walks, of this program's own types: a string appended to bytes. -/
import Derived.Test.YtcbkklfdeloeeaaLibP
import Derived.Test.YtcbkklfdeloeeaaLibS
import Derived.Lib.AppendStr
namespace Go.Proofs.Ytcbkklfdeloeeaa
open Go.RowKit
theorem strCells_str (l : List UInt8) : Lib.strCells (str l) = l.map bv := by
  simp [Lib.strCells, str, bv]
theorem wp_appT {w w0 : World} {o : Oper} {a : Act} {K : Act → World → Prop} {Q : Exit → Act → World → Prop} (s x : Operand)
    (ho : o.op = .call { callee := .builtin .append, args := #[s, x], argTypes := #[29, 9] })
    (v : Value) (xs : List UInt8) (hs : a.eval s = v) (hown : Obs w w0.heap.size v xs) (l : List UInt8) (hx : a.eval x = .string (str l)) (hk : Keep w0 w) (hl : xs.length + l.length ≤ 1000000000)
    (h : ∀ v' w', Obs w' w0.heap.size v' (xs ++ l) → Keep w0 w' → w.grownBy w' v.ownBlock → K (a.put o.dst v') w') : o.wp Try.prog a w K Q := by
  obtain ⟨i, hi, hz⟩ := Option.map_eq_some_iff.1 infoU8
  simp only [Prod.mk.injEq] at hz
  obtain ⟨hz0, hz1, hz2⟩ := hz
  obtain ⟨v', w', hr, h2, h3, h4⟩ := Lib.run_append_own_string (P := Try.prog) w w0.heap.size 29 9 o.type 5 i Try.underlying29 Try.underlying9 hi hz0 hz1 hz2 v xs.length (xs.map bv) hown (str l) (by rw [str_size]; simp only [maxLen]; omega) (by rw [str_size]; omega) hk.size
  unfold Oper.wp execOp
  simp only [ho, resolve, invoke, builtin, Sem.run_bind, Sem.run_pure, Result.andThen_ok, List.map_toArray, List.map_cons, List.map_nil, hs, hx, hr]
  rw [str_size, strCells_str, ← List.map_append] at h2
  refine h v' w' ?_ (hk.grown h3 hk.size hown.base) h3
  unfold Obs Ob
  rw [List.length_append]
  exact h2
theorem appT {w w0 : World} {ops : Array Oper} {rest : List Oper} {o : Oper} {a : Act} {Q : Exit → Act → World → Prop} (hgd : o.guard = none) (s x : Operand)
    (ho : o.op = .call { callee := .builtin .append, args := #[s, x], argTypes := #[29, 9] })
    (v : Value) (xs : List UInt8) (hs : a.eval s = v) (hown : Obs w w0.heap.size v xs) (l : List UInt8) (hx : a.eval x = .string (str l)) (hk : Keep w0 w) (hl : xs.length + l.length ≤ 1000000000)
    (h : ∀ v' w', Obs w' w0.heap.size v' (xs ++ l) → Keep w0 w' → wpList Try.prog ops Q rest (a.put o.dst v') w') : wpList Try.prog ops Q (o :: rest) a w :=
  wpList_plain hgd fun _ hK => wp_appT s x ho v xs hs hown l hx hk hl fun v' w' h1 h2 _ => hK _ _ (h v' w' h1 h2)
end Go.Proofs.Ytcbkklfdeloeeaa
