/- Words for the rows: more arguments that came in. -/
import Derived.Test.YtilhglnfjaablaaRowLib
import Derived.Test.YtilhglnfjaablaaOpen2
namespace Go.Proofs.Ytilhglnfjaablaa
open Go.ChangeShapes Go.WideShapes Go.ChangeAt Go.RowKit
section
variable {H : Type} {enc : TypeId × Value → H} {P : Program} {W : World} {base : Nat}
theorem open_ints {t e : TypeId} {v : Value} {d : DataW H} {p : List MemPlace} (ht : P.underlying t = some (.slice e)) (he : P.underlying e = some (.int .i64)) (hs : P.cellsOf e = 1) (hB : P.bytesOf e = 8)
    (hv : Value.okWide P W .any base t v) (h : DataW.Trod enc P W 0 (fun _ => true) true t v d p) (hz : ∀ n ∈ d.weights P t, n ≤ reachBytes) : ∃ l, (Is W v l ∧ ∀ n ∈ l, (Lit.int .i64 n).wf = true) ∧ l.length ≤ 17592186044416 :=
  open_sl (K' := fun w v l => (Is w v l ∧ ∀ n ∈ l, (Lit.int .i64 n).wf = true) ∧ l.length ≤ 17592186044416) (opn_ints ht he hs hB) ht hv h hz
end
end Go.Proofs.Ytilhglnfjaablaa
