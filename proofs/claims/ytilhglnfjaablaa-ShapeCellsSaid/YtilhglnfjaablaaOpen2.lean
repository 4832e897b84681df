/- Words for the rows: slices of ints that came in. No program is named here. -/
import Derived.Test.YtilhglnfjaablaaOpen
import Derived.Test.YtilhglnfjaablaaLibF
namespace Go.Proofs.Ytilhglnfjaablaa
open Go.ChangeShapes Go.WideShapes Go.RowKit
theorem Sl.is {w : World} {v : Value} {l : List Int} (h : Sl 1 (fun _ cs (n : Int) => cs = [.int .i64 n] ∧ (Lit.int .i64 n).wf = true) w v l) : Is w v l ∧ ∀ n ∈ l, (Lit.int .i64 n).wf = true := by
  obtain ⟨A, c, rfl, h1, h2, h3⟩ := h
  refine ⟨⟨A, c, by rw [List.length_map], by rw [List.length_map]; exact h1, h2, fun hp => ?_⟩, fun n hn => ?_⟩
  · rw [List.length_map] at hp
    obtain ⟨ad, rfl, hc⟩ := h3 hp
    refine ⟨ad, rfl, fun j hj => ?_⟩
    rw [List.length_map] at hj
    obtain ⟨cs, _, hcell, rfl, _⟩ := hc j hj
    have := hcell 0 (.int .i64 l[j]) rfl
    simpa using this
  · obtain ⟨j, hj, rfl⟩ := List.getElem_of_mem hn
    obtain ⟨ad, rfl, hc⟩ := h3 (by omega)
    obtain ⟨cs, _, hcell, rfl, hw⟩ := hc j hj
    exact hw
/-- A slice of ints that came in. -/
def KI (w : World) (cs : List Value) (l : List Int) : Prop := ∃ v, cs = [v] ∧ (Is w v l ∧ ∀ n ∈ l, (Lit.int .i64 n).wf = true) ∧ l.length ≤ 17592186044416
theorem opn_ints {P : Program} {t e : TypeId} (ht : P.underlying t = some (.slice e)) (he : P.underlying e = some (.int .i64)) (hs : P.cellsOf e = 1) (hB : P.bytesOf e = 8) : Opn P t KI :=
  Opn.imp (opn_slice (opn_int he) ht hs hB) fun w cs l ⟨v, h1, h2, h3⟩ => ⟨l, v, h1, h2.is, by omega⟩
end Go.Proofs.Ytilhglnfjaablaa
