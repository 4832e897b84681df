/- Walks: a value's graph (package shape, and its reference). -/
import Derived.Test.YtoehaijmkmdggaaDrawU
import Derived.Test.YtoehaijmkmdggaaShapeK
namespace Go.Proofs.Ytoehaijmkmdggaa
open Go.RowKit Go.Maps
set_option linter.unusedVariables false
set_option linter.unusedSimpArgs false
set_option maxRecDepth 100000
namespace Em
/-- The words that may come. -/
def univ (H : Hp) (n : Int) : List Int := n :: H.flatMap (·.2)
/-- What Of answers, by what was drawn. -/
def ofD (r : (Bool × Int) × Dw) : Gr × Int := if r.2.bad = true then (⟨(false, 0), []⟩, 1) else if 2000 < r.2.bl.length then (⟨(false, 0), []⟩, 7) else (⟨r.1, r.2.bl⟩, 0)
def ofH (H : Hp) (n : Int) : Gr × Int := ofD (refP ((univ H n).length + 1) H n ⟨[], [], false⟩)
theorem ofQ (H : Hp) (n : Int) : ofD (refQ ((univ H n).length + 1) H n ⟨[], [], false⟩) = ofH H n := by
  unfold ofH
  rcases ref_alike ((univ H n).length + 1) H n ⟨[], [], false⟩ with e | ⟨e1, e2⟩
  · rw [e]
  · unfold ofD
    rw [if_pos e1, if_pos e2]
end Em
theorem flat_used (H : Em.Hp) : (H.flatMap (·.2)).length ≤ Em.used H := by
  induction H with
  | nil => simp
  | cons b t ih =>
    rw [List.flatMap_cons, List.length_append, Em.used]
    omega
theorem univ_len (H : Em.Hp) (n : Int) : (Em.univ H n).length ≤ Em.used H + 1 := by
  have := flat_used H
  simp only [Em.univ, List.length_cons]
  omega
theorem univ_kid (H : Em.Hp) (n m : Int) (x : Int) (h : x ∈ (Em.blk H m).2) : x ∈ Em.univ H n := by
  rcases blk_mem H m with e | e
  · rw [e] at h
    cases h
  · exact List.mem_cons_of_mem _ (List.mem_flatMap.2 ⟨_, e, h⟩)
theorem DR.start {tt B : Nat} {U : List Int} {w : World} {dp mb : Nat} {hv : Value} (ht : w.heap[dp]? = some (.cells #[hv, .map (some mb), .slice none 0 0, .bool false] tt)) (hm : MapF w mb (fun _ => none)) (h1 : B ≤ dp) (h2 : B ≤ mb) (h3 : dp ≠ mb) (hU : U.length ≤ 60000) :
    DR tt B U w dp mb hv (.slice none 0 0) [] ⟨[], [], false⟩ := by
  refine ⟨{ top := ht, map := hm, row := ⟨by simp, .inl ⟨rfl, rfl⟩⟩, kid := by simp, wf := by simp, d1 := ⟨h1, h2, h3⟩, d2 := by simp [Value.ownBlock], d3 := by simp }, rfl, rfl, ?_⟩
  have : Em.uns U [] ≤ U.length := List.countP_le_length
  simpa using Nat.le_trans this hU
theorem uns_nil (U : List Int) : Em.uns U [] < U.length + 1 := by
  have : Em.uns U [] ≤ U.length := List.countP_le_length
  omega
/-- A graph that was answered. -/
def RetG (w : World) (o : Em.Gr × Int) (e : Ending) (w' : World) : Prop := ∃ v, e = .returned (.tuple #[v, .int .i64 o.2]) ∧ GrV w' v o.1 ∧ Keep w w'
theorem RetG.none {w w' : World} {o : Em.Gr × Int} {c : Int} (h : o = (⟨(false, 0), []⟩, c)) (k : Keep w w') : RetG w o (.returned (.tuple #[.agg #[.bool false, .int .i64 0, .slice none 0 0], .int .i64 c])) w' := by
  subst h
  exact ⟨_, rfl, ⟨_, rfl, (by decide : (Lit.int .i64 0).wf = true), Sl.nil _⟩, k⟩
theorem RRep.smallR {w : World} {p sz : Nat} {S : List Nat} {H : Em.Hp} (h : RRep w p S sz H) : Em.used H ≤ sz ∧ sz ≤ 20000 := by
  obtain ⟨a, t, f, fv, rfl, h, r, h1, h2⟩ := h
  exact ⟨h1, h2⟩
end Go.Proofs.Ytoehaijmkmdggaa
