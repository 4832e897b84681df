/- Words for the walks: an append onto a row of bytes that is full changes nothing that was there. No program is named here. -/
import Derived.Test.YtcbkklfdeloeeaaLibA
namespace Go.Proofs.Ytcbkklfdeloeeaa
open Go.RowKit
set_option linter.unusedVariables false
set_option linter.unusedSimpArgs false
section
variable {P : Program}
theorem run_appF (w : World) (t ty e : TypeId) (i : TypeInfo) (z : Value) (ht : P.underlying t = some (.slice e)) (hi : P.info? e = some i) (hz : i.zero = some z)
    (hsize : i.size = 1) (hby : i.bytes = 1) (hzs : z.cells.size = 1) (ad : Addr) (n : Nat) (xs : List UInt8) (hb : Bs w (.slice (some ad) n n) xs) (y : Value) (ys : List UInt8) (hy : Bs w y ys) (hl : xs.length + ys.length ≤ 1000000) :
    ∃ A c w', (Builtin.append_ #[t, t] ty #[.slice (some ad) n n, y]).run P w = .ok (.slice A (xs ++ ys).length c) w' ∧ Bs w' (.slice A (xs ++ ys).length c) (xs ++ ys) ∧ Keep w w' := by
  have hb0 := hb
  obtain ⟨Ax, cx, ex, hx1, hx2, hx3⟩ := hb
  cases ex
  obtain ⟨Ay, cy, rfl, hy1, hy2, hy3⟩ := hy
  rcases Nat.eq_zero_or_pos ys.length with h0 | h0
  · obtain rfl : ys = [] := List.eq_nil_of_length_eq_zero h0
    refine ⟨some ad, xs.length, w, ?_, by rw [List.append_nil]; exact hb0, Keep.rf w⟩
    cases Ay with
    | none => simp [Builtin.append_, run_underlying ht, sizeOf, typeInfo, hi, Builtin.lenOf, Builtin.firstCells, storeCells, loadCells, loadCellsFrom]
    | some ay => simp [Builtin.append_, run_underlying ht, sizeOf, typeInfo, hi, Builtin.lenOf, Builtin.firstCells, storeCells, loadCells, loadCellsFrom]
  · obtain ⟨ay, rfl, hcy⟩ := hy3 h0
    have holds : ∀ j u, (xs.map bv)[j]? = some u → w.cell? (ad.add j) = some u := by
      intro j u hu
      obtain ⟨hj, he⟩ := List.getElem?_eq_some_iff.1 hu
      simp only [List.length_map] at hj
      obtain ⟨ax, e, hc⟩ := hx3 (by omega)
      cases e
      rw [hc j hj, ← he]
      simp
    have hnews : ∀ j u, (ys.map bv)[j]? = some u → w.cell? (ay.add j) = some u := by
      intro j u hu
      obtain ⟨hj, he⟩ := List.getElem?_eq_some_iff.1 hu
      simp only [List.length_map] at hj
      rw [hcy j hj, ← he]
      simp
    have hr := run_append_grow (P := P) w t ty e i z ht hi hz ad xs.length xs.length (xs.map bv) (by rw [hsize]; simp) holds ay ys.length cy (ys.map bv) (by rw [hsize]; simp) hnews (by omega) (by omega) (growslice_fits (by omega) (by rw [hby]; omega))
    have hge := grownCap_ge w (xs.length + ys.length) xs.length e
    have hcm : grownCap w (xs.length + ys.length) xs.length e ≤ maxLen := grownCap_le_maxLen w (xs.length + ys.length) xs.length e (by simp only [maxLen]; omega)
    rw [List.length_append]
    refine ⟨_, _, _, hr, ?_, ⟨rfl, rfl, rfl, by simp, fun k hk => heap_alloc_old w.drew _ hk⟩⟩
    rw [← List.length_append] at hge hcm ⊢
    refine Bs.of_cells hge (by simpa [maxLen] using hcm) fun j hj => ?_
    rw [show w.heap.size = w.drew.heap.size from rfl, cell_new]
    rw [Array.getElem?_append_left (by simpa using hj), show ((xs.map bv).toArray ++ (ys.map bv).toArray) = ((xs ++ ys).map bv).toArray from by simp]
    rw [List.getElem?_toArray, List.getElem?_map, List.getElem?_eq_getElem hj]
    rfl
theorem wp_appF {w : World} {o : Oper} {a : Act} {K : Act → World → Prop} {Q : Exit → Act → World → Prop} (s x : Operand) (t : TypeId)
    (ho : o.op = .call { callee := .builtin .append, args := #[s, x], argTypes := #[t, t] })
    (e : Nat) (z : Value) (ht : P.underlying t = some (.slice e)) (hinfo : (P.info? e).map (fun i => (i.zero, i.size, i.bytes)) = some (some z, 1, 1)) (hzs : z.cells.size = 1)
    (ad : Addr) (n : Nat) (xs : List UInt8) (hs : a.eval s = .slice (some ad) n n) (hb : Bs w (.slice (some ad) n n) xs)
    (y : Value) (ys : List UInt8) (hx : a.eval x = y) (hy : Bs w y ys) (hl : xs.length + ys.length ≤ 1000000)
    (h : ∀ A c w', Bs w' (.slice A (xs ++ ys).length c) (xs ++ ys) → Keep w w' → K (a.put o.dst (.slice A (xs ++ ys).length c)) w') : o.wp P a w K Q := by
  obtain ⟨i0, hi, hzz⟩ := Option.map_eq_some_iff.1 hinfo
  simp only [Prod.mk.injEq] at hzz
  obtain ⟨hz0, hz1, hz2⟩ := hzz
  obtain ⟨A, c, w', hrun, h2, h3⟩ := run_appF (P := P) w t o.type e i0 z ht hi hz0 hz1 hz2 hzs ad n xs hb y ys hy hl
  unfold Oper.wp execOp
  simp only [ho, resolve, invoke, builtin, Sem.run_bind, Sem.run_pure, Result.andThen_ok, List.map_toArray, List.map_cons, List.map_nil, hs, hx, hrun]
  exact h A c w' h2 h3
theorem wpList_appF {w : World} {ops : Array Oper} {rest : List Oper} {o : Oper} {a : Act} {Q : Exit → Act → World → Prop} (hgd : o.guard = none) (s x : Operand) (t : TypeId)
    (ho : o.op = .call { callee := .builtin .append, args := #[s, x], argTypes := #[t, t] })
    (e : Nat) (z : Value) (ht : P.underlying t = some (.slice e)) (hinfo : (P.info? e).map (fun i => (i.zero, i.size, i.bytes)) = some (some z, 1, 1)) (hzs : z.cells.size = 1)
    (ad : Addr) (n : Nat) (xs : List UInt8) (hs : a.eval s = .slice (some ad) n n) (hb : Bs w (.slice (some ad) n n) xs)
    (y : Value) (ys : List UInt8) (hx : a.eval x = y) (hy : Bs w y ys) (hl : xs.length + ys.length ≤ 1000000)
    (h : ∀ A c w', Bs w' (.slice A (xs ++ ys).length c) (xs ++ ys) → Keep w w' → wpList P ops Q rest (a.put o.dst (.slice A (xs ++ ys).length c)) w') : wpList P ops Q (o :: rest) a w :=
  wpList_plain hgd fun _ hK => wp_appF s x t ho e z ht hinfo hzs ad n xs hs hb y ys hx hy hl fun A c w' h2 h3 => hK _ _ (h A c w' h2 h3)
end
end Go.Proofs.Ytcbkklfdeloeeaa
