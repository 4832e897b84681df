/- Words for the rows: what an argument that came in reads as. -/
import Derived.Test.YtilhglnfjaablaaRows
import Derived.Test.YtilhglnfjaablaaOpen
import Derived.WalkKit
import Derived.ProofKit
import Derived.OpenShut
import Derived.ShutString
import Derived.ChangeOld
import Derived.Below
namespace Go.Proofs.Ytilhglnfjaablaa
open Go.ChangeShapes Go.WideShapes Go.ChangeAt Go.RowKit
open Go.ChangeMaps (open_string shut_string)
set_option linter.unusedVariables false

theorem ownK : ownKnob Try.prog.godebug = none := by kernel_rfl
theorem laidOutK : laidOutB Try.prog = true := by kernel_rfl
theorem weigh {H : Type} {P : Program} {ts : List TypeId} {ds : List (DataW H)} (h : (DataW.weightsEach P ts ds).all (· ≤ reachBytes) = true) (j : Nat) {t : TypeId} {d : DataW H} (ht : ts[j]? = some t) (hd : ds[j]? = some d) : ∀ n ∈ d.weights P t, n ≤ reachBytes := by
  intro n hn
  have := List.all_eq_true.1 h n (DataW.weights_mem_each ht hd n hn)
  simpa using this
section
variable {H : Type} {enc : TypeId × Value → H} {P : Program} {W : World} {base : Nat}
theorem open_sl {α : Type} {K' : World → Value → α → Prop} {t e : TypeId} {v : Value} {d : DataW H} {p : List MemPlace} (hO : Opn P t (fun w cs x => ∃ v, cs = [v] ∧ K' w v x)) (ht : P.underlying t = some (.slice e))
    (hv : Value.okWide P W .any base t v) (h : DataW.Trod enc P W 0 (fun _ => true) true t v d p) (hz : ∀ n ∈ d.weights P t, n ≤ reachBytes) : ∃ x, K' W v x := by
  obtain ⟨a, len, cap, rfl⟩ := okWide_slice ht hv
  obtain ⟨fuel, hf⟩ := h
  obtain ⟨x, u, hu, hk⟩ := hO H enc W fuel _ d p hf hz
  have : Value.slice a len cap = u := by simpa [Value.cells] using hu
  subst this
  exact ⟨x, hk⟩
theorem open_bs {t e : TypeId} {v : Value} {d : DataW H} {p : List MemPlace} (ht : P.underlying t = some (.slice e)) (he : P.underlying e = some (.int .u8)) (hs : P.cellsOf e = 1) (hB : P.bytesOf e = 1)
    (hv : Value.okWide P W .any base t v) (h : DataW.Trod enc P W 0 (fun _ => true) true t v d p) (hz : ∀ n ∈ d.weights P t, n ≤ reachBytes) : ∃ l, Bs W v l ∧ l.length ≤ 140737488351232 :=
  open_sl (K' := fun w v l => Bs w v l ∧ l.length ≤ 140737488351232) (opn_bs ht he hs hB) ht hv h hz
theorem open_rows {t s e : TypeId} {v : Value} {d : DataW H} {p : List MemPlace} (ht : P.underlying t = some (.slice s)) (hs : P.underlying s = some (.slice e)) (he : P.underlying e = some (.int .u8)) (c1 : P.cellsOf e = 1) (b1 : P.bytesOf e = 1) (c2 : P.cellsOf s = 1)
    (hv : Value.okWide P W .any base t v) (h : DataW.Trod enc P W 0 (fun _ => true) true t v d p) (hz : ∀ n ∈ d.weights P t, n ≤ reachBytes) : ∃ ls, Rws W v ls ∧ ∀ l ∈ ls, l.length ≤ 140737488351232 :=
  open_sl (K' := fun w v ls => Rws w v ls ∧ ∀ l ∈ ls, l.length ≤ 140737488351232) (opn_rows ht hs he c1 b1 c2) ht hv h hz
end
end Go.Proofs.Ytilhglnfjaablaa
