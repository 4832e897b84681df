/- A type that came in. -/
import Derived.Test.YtoehaijmkmdggaaGreatGTyW
import Derived.Test.YtoehaijmkmdggaaGreatGOpen
set_option linter.unusedSimpArgs false
set_option linter.unusedVariables false
namespace Go.Proofs.YtoehaijmkmdggaaGreat
open Go.ChangeShapes Go.WideShapes Go.ChangeAt Go.RowKit
open Em (Ty)
set_option linter.unusedVariables false
set_option maxRecDepth 100000
theorem opnB_type : ∀ b : Nat, OpnB Tryz.prog b 25 (TyK b)
  | 0 => by
    intro H enc W fuel cs d ps hb hf hw
    have : fuel = 0 := by omega
    subst this
    simp [DataW.trod] at hf
  | b + 1 => by
    intro H enc W fuel cs d ps hb hf hw
    obtain ⟨n, rfl, hl, hg⟩ := trod_fields Tryz.underlying25 hf hw
    have hl3 : cs.length = 3 := hl.trans (by kernel_rfl)
    obtain ⟨d0, p0, t0, w0⟩ := hg 0 _ rfl
    obtain ⟨d1, p1, t1, w1⟩ := hg 1 _ rfl
    obtain ⟨d2, p2, t2, w2⟩ := hg 2 _ rfl
    obtain ⟨x0, e0, f0⟩ := opn_str Tryz.underlying9 H enc W n _ d0 p0 t0 w0
    obtain ⟨x1, e1, f1⟩ := opn_int Tryz.underlying3 H enc W n _ d1 p1 t1 w1
    obtain ⟨xs, v, e2, f2, _⟩ := opnB_slice (opnB_type b) Tryz.underlying23 (sz := 3) (by kernel_rfl) rfl H enc W n _ d2 p2 (by omega) t2 w2
    match cs, hl3 with
    | [c0, c1, c2], _ =>
      have h0 : [c0] = [_] := e0
      have h1 : [c1] = [_] := e1
      have h2 : [c2] = [_] := e2
      simp only [List.cons.injEq, and_true] at h0 h1 h2
      subst h0 h1 h2
      refine ⟨Ty.mk x0.data.toList x1 xs, _, ?_, f1, f2⟩
      simp only [Ty.op, Ty.n, str_of]
section
variable {H : Type} {enc : TypeId × Value → H} {W : World} {base : Nat}
theorem open_type {v : Value} {d : DataW H} {p : List MemPlace}
    (hv : Value.okWide Tryz.prog W .any base 25 v) (h : DataW.Trod enc Tryz.prog W 0 (fun _ => true) true 25 v d p) (hz : ∀ n ∈ d.weights Tryz.prog 25, n ≤ reachBytes) :
    ∃ t : Ty, TyV W v t ∧ True := by
  obtain ⟨c, rfl, hc⟩ := okWide_struct Tryz.underlying25 hv
  obtain ⟨fuel, hf⟩ := h
  obtain ⟨x, hx⟩ := opnB_type fuel H enc W fuel _ d p (Nat.le_refl _) hf hz
  exact ⟨x, ⟨fuel, c.toList, by simp, hx⟩, trivial⟩
end
end Go.Proofs.YtoehaijmkmdggaaGreat
