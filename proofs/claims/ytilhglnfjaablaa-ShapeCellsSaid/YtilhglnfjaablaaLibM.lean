/- Words for the walks: a map from ints to anything, as a function. No program is named here. -/
import Derived.Test.YtilhglnfjaablaaLibF
import Derived.Maps.Own
namespace Go.Proofs.Ytilhglnfjaablaa
open Go.RowKit Go.Maps
/-- Block b is a map whose lookup is f. -/
def MapF (w : World) (b : Nat) (f : Int → Option Value) : Prop :=
  ∃ es clock, w.heap[b]? = some (.map es clock) ∧ (∀ e ∈ es.toList, ∃ n, e.key = .int .i64 n ∧ (Lit.int .i64 n).wf = true ∧ f n = some e.val) ∧ (∀ n v, f n = some v → ∃ e ∈ es.toList, e.key = .int .i64 n)
theorem MapF.frm {S : Nat → Prop} {w w' : World} {b : Nat} {f : Int → Option Value} (h : MapF w b f) (k : Frm S w w') (hs : ¬ S b) : MapF w' b f := by
  obtain ⟨es, clock, h1, h2⟩ := h
  exact ⟨es, clock, k.heap hs h1, h2⟩
theorem MapF.new (w : World) {b : Nat} (hb : w.heap.size = b) : MapF (w.alloc (.map #[] 0)) b (fun _ => none) := by
  subst hb
  exact ⟨#[], 0, heap_alloc_new w _, by simp, by simp⟩
section
variable {P : Program}
theorem MapF.find {w : World} {f : Int → Option Value} {es : Array MapEntry} {k : TypeId} (hu : P.underlying k = some (.int .i64)) (hk : ∀ e ∈ es.toList, ∃ n, e.key = .int .i64 n ∧ (Lit.int .i64 n).wf = true ∧ f n = some e.val)
    (hf : ∀ n v, f n = some v → ∃ e ∈ es.toList, e.key = .int .i64 n) (n : Int) (hn : (Lit.int .i64 n).wf = true) :
    ((Instr.findKey k (.int .i64 n) es.toList).run P w = .ok none w ∧ f n = none) ∨ ∃ j v, (Instr.findKey k (.int .i64 n) es.toList).run P w = .ok (some (j, v)) w ∧ f n = some v := by
  have law : Keyed P k := int_keyed hu
  rcases law.find w (keyOf_int_mk hu hn) es.toList (fun e he => by
    obtain ⟨m, h1, h2, _⟩ := hk e he
    exact ⟨_, by rw [h1]; exact keyOf_int_mk hu h2⟩) with ⟨h1, h2⟩ | ⟨j, e, h1, h2, h3⟩
  · refine .inl ⟨h1, ?_⟩
    cases hq : f n with
    | none => rfl
    | some v =>
      obtain ⟨e, he, hk2⟩ := hf n v hq
      exact (h2 e he hk2).elim
  · refine .inr ⟨j, e.val, h1, ?_⟩
    obtain ⟨m, g1, g2, g3⟩ := hk e (List.mem_of_getElem? h2)
    rw [h3] at g1
    injection g1 with _ g1
    rw [g1, g3]
theorem MapF.look {w : World} {b : Nat} {f : Int → Option Value} {t k e : TypeId} (h : MapF w b f) (ht : P.underlying t = some (.map k e)) (hu : P.underlying k = some (.int .i64)) {z : Value} (hz : (zeroValue e).run P w = .ok z w) (n : Int) (hn : (Lit.int .i64 n).wf = true) :
    (Instr.lookup t (.map (some b)) (.int .i64 n) false).run P w = .ok ((f n).getD z) w := by
  obtain ⟨es, clock, h1, h2, h3⟩ := h
  have law : Keyed P k := int_keyed hu
  have hc := law.check w es.isEmpty (keyOf_int_mk hu hn)
  rcases MapF.find (w := w) hu h2 h3 n hn with ⟨g1, g2⟩ | ⟨j, v, g1, g2⟩
  · simp [Instr.lookup, run_underlying ht, MapKept.run_getObj_map h1, hc, g1, g2, hz]
  · simp [Instr.lookup, run_underlying ht, MapKept.run_getObj_map h1, hc, g1, g2]
theorem MapF.look_ok {w : World} {b : Nat} {f : Int → Option Value} {t k e : TypeId} (h : MapF w b f) (ht : P.underlying t = some (.map k e)) (hu : P.underlying k = some (.int .i64)) {z : Value} (hz : (zeroValue e).run P w = .ok z w) (n : Int) (hn : (Lit.int .i64 n).wf = true) :
    (Instr.lookup t (.map (some b)) (.int .i64 n) true).run P w = .ok (.tuple #[(f n).getD z, .bool (f n).isSome]) w := by
  obtain ⟨es, clock, h1, h2, h3⟩ := h
  have law : Keyed P k := int_keyed hu
  have hc := law.check w es.isEmpty (keyOf_int_mk hu hn)
  rcases MapF.find (w := w) hu h2 h3 n hn with ⟨g1, g2⟩ | ⟨j, v, g1, g2⟩
  · simp [Instr.lookup, run_underlying ht, MapKept.run_getObj_map h1, hc, g1, g2, hz]
  · simp [Instr.lookup, run_underlying ht, MapKept.run_getObj_map h1, hc, g1, g2]
/-- A new key is put. -/
theorem MapF.put {w : World} {b : Nat} {f : Int → Option Value} {t k e : TypeId} (h : MapF w b f) (ht : P.underlying t = some (.map k e)) (hu : P.underlying k = some (.int .i64)) (n : Int) (hn : (Lit.int .i64 n).wf = true) (hf : f n = none) (v : Value) :
    ∃ w', (Instr.mapUpdate t (.map (some b)) (.int .i64 n) v).run P w = .ok () w' ∧ MapF w' b (fun m => if m = n then some v else f m) ∧ Frm (· = b) w w' := by
  obtain ⟨es, clock, h1, h2, h3⟩ := h
  have law : Keyed P k := int_keyed hu
  have hc := law.check w false (keyOf_int_mk hu hn)
  rcases MapF.find (w := w) hu h2 h3 n hn with ⟨g1, g2⟩ | ⟨j, u, g1, g2⟩
  · have hb : b < w.heap.size := (Array.getElem?_eq_some_iff.1 h1).1
    refine ⟨{ w with heap := w.heap.setIfInBounds b (.map (es.push { key := .int .i64 n, val := v, born := clock }) (clock + 1)) }, ?_, ?_, ?_⟩
    · simp [Instr.mapUpdate, run_underlying ht, MapKept.run_getObj_map h1, hc, g1, MapKept.run_setObj_map _ h1]
    · refine ⟨es.push { key := .int .i64 n, val := v, born := clock }, clock + 1, by simp [hb], ?_, ?_⟩
      · intro x hx
        simp only [Array.toList_push, List.mem_append, List.mem_singleton] at hx
        rcases hx with hx | rfl
        · obtain ⟨m, i1, i2, i3⟩ := h2 x hx
          refine ⟨m, i1, i2, ?_⟩
          have hne : m ≠ n := fun e => by
            rw [e, hf] at i3
            cases i3
          simpa [hne] using i3
        · exact ⟨n, rfl, hn, by simp⟩
      · intro m u hm
        by_cases e : m = n
        · subst e
          exact ⟨⟨.int .i64 m, v, clock⟩, by simp, rfl⟩
        · simp only [if_neg e] at hm
          obtain ⟨x, hx, hk⟩ := h3 m u hm
          exact ⟨x, by simp [hx], hk⟩
    · refine ⟨rfl, rfl, rfl, by simp, fun i hi hne => ?_⟩
      simp [Array.getElem?_setIfInBounds, Ne.symm hne]
  · rw [hf] at g2
    cases g2
end
end Go.Proofs.Ytilhglnfjaablaa
