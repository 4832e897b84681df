/- Walks: pick: a block that comes the first time, given what a value comes to. -/
import Derived.Test.YtoehaijmkmdggaaUPkV
import Derived.Test.YtoehaijmkmdggaaUPkQ
import Derived.Lib.AppendStr
set_option linter.unusedSimpArgs false
set_option linter.unusedVariables false
namespace Go.Proofs.Ytoehaijmkmdggaa
open Go.RowKit Go.Maps
open Em (Ty)
set_option linter.unusedVariables false
set_option linter.unusedSimpArgs false
set_option maxRecDepth 100000
theorem strCellsK (l : List UInt8) : Lib.strCells (str l) = l.map bv := by
  simp [Lib.strCells, str, bv]
theorem appS_block {w w' : World} {B n : Nat} {v v' : Value} {xs : List Value} {ty : TypeId} {s : ByteArray} {i : TypeInfo} (hi : Try.prog.info? 5 = some i) (hz0 : i.zero = some (.int .u8 0)) (hz1 : i.size = 1) (hz2 : i.bytes = 1) (hown : w.ownsRow B 5 1 v n xs) (hn : n + s.size ≤ 140737488355328)
    (hr : (Builtin.append_ #[22, 9] ty #[v, .string s]).run Try.prog w = .ok v' w') (h4 : v' = .slice none 0 0 ↔ v = .slice none 0 0 ∧ s.size = 0) : v'.ownBlock = v.ownBlock ∨ v'.ownBlock = some w.heap.size := by
  have hxl : xs.length = n := by simpa using hown.1
  rcases hown.2 with ⟨rfl, rfl⟩ | ⟨g, cap, cur, rfl, hbg, hg, hnc, hcm, hcs, htake⟩
  · by_cases hm : s.size = 0
    · rw [h4.2 ⟨rfl, hm⟩]
      exact .inl rfl
    · have hr2 := run_append_nil_string (P := Try.prog) w 22 9 ty 5 i (.int .u8 0) Try.underlying22 Try.underlying9 hi hz0 s (by omega) (by omega) (by rw [hz2]; omega)
      rw [hr2] at hr
      injection hr with hr _
      rw [← hr]
      exact .inr rfl
  · by_cases hroom : n + s.size ≤ cap
    · have hcs' : cur.size = cap := by simpa using hcs
      have hr2 := Lib.run_append_room_string (P := Try.prog) w 22 9 ty 5 i Try.underlying22 Try.underlying9 hi hz1 g n cap cur hg s hroom (by omega)
      rw [hr2] at hr
      injection hr with hr _
      rw [← hr]
      exact .inl rfl
    · have holds : ∀ j u, xs[j]? = some u → w.cell? ((⟨g, 0, none⟩ : Addr).add j) = some u := hown.cells (g := g) rfl
      have hr2 := Lib.run_append_grow_string (P := Try.prog) w 22 9 ty 5 i (.int .u8 0) Try.underlying22 Try.underlying9 hi hz0 ⟨g, 0, none⟩ n cap xs (by rw [hz1]; simpa using hxl) holds s (by omega) (by omega) (by rw [hz2]; exact growslice_fits (by omega) (by omega))
      rw [hr2] at hr
      injection hr with hr _
      rw [← hr]
      exact .inr rfl
/-- append of a string to bytes of the call's own. -/
theorem wp_appS {w : World} {o : Oper} {a : Act} {K : Act → World → Prop} {Q : Exit → Act → World → Prop} (s x : Operand)
    (ho : o.op = .call { callee := .builtin .append, args := #[s, x], argTypes := #[22, 9] }) (B : Nat) (hB : B ≤ w.heap.size)
    (v : Value) (xs : List UInt8) (hs : a.eval s = v) (hown : Ob w B 5 v xs) (l : List UInt8) (hx : a.eval x = .string (str l)) (hl : xs.length + l.length ≤ 1000000000)
    (h : ∀ v' w', BGrow w B v (xs ++ l) w' v' → K (a.put o.dst v') w') : o.wp Try.prog a w K Q := by
  obtain ⟨i, hi, hz⟩ := Option.map_eq_some_iff.1 infoU8
  simp only [Prod.mk.injEq] at hz
  obtain ⟨hz0, hz1, hz2⟩ := hz
  obtain ⟨v', w', hr, h2, h3, h4⟩ := Lib.run_append_own_string (P := Try.prog) w B 22 9 o.type 5 i Try.underlying22 Try.underlying9 hi hz0 hz1 hz2 v xs.length (xs.map bv) hown (str l) (by rw [str_size]; simp only [maxLen]; omega) (by rw [str_size]; omega) hB
  unfold Oper.wp execOp
  simp only [ho, resolve, invoke, builtin, Sem.run_bind, Sem.run_pure, Result.andThen_ok, List.map_toArray, List.map_cons, List.map_nil, hs, hx, hr]
  rw [str_size, strCellsK, ← List.map_append] at h2
  refine h v' w' ⟨w, Keep.rf w, h3, appS_block hi hz0 hz1 hz2 hown (by rw [str_size]; omega) hr h4, ?_⟩
  unfold Ob
  rw [List.length_append]
  exact h2
theorem wpList_appS {w : World} {ops : Array Oper} {rest : List Oper} {o : Oper} {a : Act} {Q : Exit → Act → World → Prop} (hgd : o.guard = none) (s x : Operand)
    (ho : o.op = .call { callee := .builtin .append, args := #[s, x], argTypes := #[22, 9] }) (B : Nat) (hB : B ≤ w.heap.size)
    (v : Value) (xs : List UInt8) (hs : a.eval s = v) (hown : Ob w B 5 v xs) (l : List UInt8) (hx : a.eval x = .string (str l)) (hl : xs.length + l.length ≤ 1000000000)
    (h : ∀ v' w', BGrow w B v (xs ++ l) w' v' → wpList Try.prog ops Q rest (a.put o.dst v') w') : wpList Try.prog ops Q (o :: rest) a w :=
  wpList_plain hgd fun _ hK => wp_appS s x ho B hB v xs hs hown l hx hl fun v' w' h1 => hK _ _ (h v' w' h1)
theorem kidsK_drop (r : Int → Ty → Em.Pk → Em.PkO) (H : Em.Hp) (n : Int) (kt : List Ty) (j : Nat) (s : Em.Pk) (hj : j < kt.length) : Em.kidsK r H n j (kt.drop j) s = match r ((Em.field H n (j : Int)).getD 0) kt[j] s with | .err c => .err c | .ok s' => Em.kidsK r H n (j + 1) (kt.drop (j + 1)) s' := by
  rw [List.drop_eq_getElem_cons hj]
  rfl
theorem in_wf64 {n : Int} (h : Em.InW n) : (Lit.int .i64 n).wf = true := imm_wf h.1 h.2
section
variable {B f : Nat} {Z : Nat → Prop} {w0 w : World} {p mb hp sz : Nat} {S : List Nat} {ov : Value} {tys : List (Ty × List Value)} {s : Em.Pk} {H : Em.Hp}
theorem tag_no {o : List UInt8} (h : ¬ o = Em.wString) : ¬ Em.tagT o = 1 := by
  unfold Em.tagT
  rw [if_neg h]
  split
  · decide
  · split
    · decide
    · split <;> decide
end
end Go.Proofs.Ytoehaijmkmdggaa
