/-
  No cell of these rows narrows 'for every input' (looked for: loops, veiled, ifaces, maps, wideKeys, modest, calm, conditions, laid).
  DERIVED. THE GIVEN ROWS OF THIS SEAT. 9 by the template 'for every input the law returns true; each argument reads behind the call as it read before'; 0 by the template 'total and deterministic' (their statements: YtilhglnfjaablaaTotals.lean).
  GIVEN WITH THE SEED: the statements are not yours to turn. If you find one false, say at which input.
  Laid BY PROGRAM, IN A SANDBOX (cutbox-rows.mjs): the forced cells as the released guide's own fill.sh prints them over the translation 2bd0c1b6e88ea81f… (all of the seat's roots in one cut). By AI agents, Wed Nov 11 2026. No macro, syntax, notation, axiom, sorry.
-/
import Derived.Test.YtilhglnfjaablaaChecked
import GoSem.Claim
import GoSem.ClaimJoined
import GoSem.ClaimMapViews
import Derived.JoinedTies
import Derived.KernelRfl
namespace Go.Proofs.Ytilhglnfjaablaa
/- THE CELL 'sum', in the pinned program and in every row, IS THE sha256 OF THE DUMP (.gsa) THAT YtilhglnfjaablaaProg.lean LOADS. Nothing in Lean hashes anything: it is a label: what it is worth is what the hold of that sum in a sandbox is worth. -/
noncomputable def Try.pinned : Pinned := { name := "ytilhglnfjaablaa", sum := "2bd0c1b6e88ea81fa0a52ac668656c59fd4c8529549a0b3d474c8bc66f358e7f", checked := Try.checked }
namespace Rows
def none {H : Type} : Left H := { results := [], args := [] }

/-- 'emissarylaw18.ShapeOf': WHATEVER THE INPUT: true; the input reads as it did. -/
def shapeOfSpec : ChangeSpec := { name := "shapeOf", fn := fun _ => fun
  | [d1, d2, d3, d4] => { results := [.lit (.bool true)], args := [d1, d2, d3, d4] }
  | _ => none }
def shapeOfRow : OpenClaim := { program := "ytilhglnfjaablaa", sum := "2bd0c1b6e88ea81fa0a52ac668656c59fd4c8529549a0b3d474c8bc66f358e7f", func := "emissary/emissarylaw18.ShapeOf", spec := "shapeOf", recurses := true, apart := false }
def ShapeOfSaid : Prop := shapeOfRow.holds Try.pinned (OpenSpec.ofChange shapeOfSpec)

/-- ITS FALSE NEIGHBOUR: 'it returns false'. Refute it at one input. -/
def shapeOfWrong : ChangeSpec := { name := "shapeOf", fn := fun _ => fun
  | [d1, d2, d3, d4] => { results := [.lit (.bool false)], args := [d1, d2, d3, d4] }
  | _ => none }
def ShapeOfWrongFalsely : Prop := shapeOfRow.holds Try.pinned (OpenSpec.ofChange shapeOfWrong)

/-- 'emissarylaw18.ShapeCells': WHATEVER THE INPUT: true; the input reads as it did. -/
def shapeCellsSpec : ChangeSpec := { name := "shapeCells", fn := fun _ => fun
  | [d1, d2] => { results := [.lit (.bool true)], args := [d1, d2] }
  | _ => none }
def shapeCellsRow : OpenClaim := { program := "ytilhglnfjaablaa", sum := "2bd0c1b6e88ea81fa0a52ac668656c59fd4c8529549a0b3d474c8bc66f358e7f", func := "emissary/emissarylaw18.ShapeCells", spec := "shapeCells", recurses := true, apart := false }
def ShapeCellsSaid : Prop := shapeCellsRow.holds Try.pinned (OpenSpec.ofChange shapeCellsSpec)

/-- ITS FALSE NEIGHBOUR: 'it returns false'. Refute it at one input. -/
def shapeCellsWrong : ChangeSpec := { name := "shapeCells", fn := fun _ => fun
  | [d1, d2] => { results := [.lit (.bool false)], args := [d1, d2] }
  | _ => none }
def ShapeCellsWrongFalsely : Prop := shapeCellsRow.holds Try.pinned (OpenSpec.ofChange shapeCellsWrong)

/-- 'emissarylaw18.ShapeSame': WHATEVER THE INPUT: true; the input reads as it did. -/
def shapeSameSpec : ChangeSpec := { name := "shapeSame", fn := fun _ => fun
  | [d1, d2] => { results := [.lit (.bool true)], args := [d1, d2] }
  | _ => none }
def shapeSameRow : OpenClaim := { program := "ytilhglnfjaablaa", sum := "2bd0c1b6e88ea81fa0a52ac668656c59fd4c8529549a0b3d474c8bc66f358e7f", func := "emissary/emissarylaw18.ShapeSame", spec := "shapeSame", unfollowed := true, recurses := true, apart := false }
def ShapeSameSaid : Prop := shapeSameRow.holds Try.pinned (OpenSpec.ofChange shapeSameSpec)

/-- ITS FALSE NEIGHBOUR: 'it returns false'. Refute it at one input. -/
def shapeSameWrong : ChangeSpec := { name := "shapeSame", fn := fun _ => fun
  | [d1, d2] => { results := [.lit (.bool false)], args := [d1, d2] }
  | _ => none }
def ShapeSameWrongFalsely : Prop := shapeSameRow.holds Try.pinned (OpenSpec.ofChange shapeSameWrong)

/-- 'emissarylaw18.ShapePut': WHATEVER THE INPUT: true; the input reads as it did. -/
def shapePutSpec : ChangeSpec := { name := "shapePut", fn := fun _ => fun
  | [d1, d2] => { results := [.lit (.bool true)], args := [d1, d2] }
  | _ => none }
def shapePutRow : OpenClaim := { program := "ytilhglnfjaablaa", sum := "2bd0c1b6e88ea81fa0a52ac668656c59fd4c8529549a0b3d474c8bc66f358e7f", func := "emissary/emissarylaw18.ShapePut", spec := "shapePut", recurses := true, apart := false }
def ShapePutSaid : Prop := shapePutRow.holds Try.pinned (OpenSpec.ofChange shapePutSpec)

/-- ITS FALSE NEIGHBOUR: 'it returns false'. Refute it at one input. -/
def shapePutWrong : ChangeSpec := { name := "shapePut", fn := fun _ => fun
  | [d1, d2] => { results := [.lit (.bool false)], args := [d1, d2] }
  | _ => none }
def ShapePutWrongFalsely : Prop := shapePutRow.holds Try.pinned (OpenSpec.ofChange shapePutWrong)

/-- 'emissarylaw15.VerifyTries': WHATEVER THE INPUT: true; the input reads as it did. -/
def verifyTriesSpec : ChangeSpec := { name := "verifyTries", fn := fun _ => fun
  | [d] => { results := [.lit (.bool true)], args := [d] }
  | _ => none }
def verifyTriesRow : OpenClaim := { program := "ytilhglnfjaablaa", sum := "2bd0c1b6e88ea81fa0a52ac668656c59fd4c8529549a0b3d474c8bc66f358e7f", func := "emissary/emissarylaw15.VerifyTries", spec := "verifyTries", unfollowed := true, recurses := true, apart := false }
def VerifyTriesSaid : Prop := verifyTriesRow.holds Try.pinned (OpenSpec.ofChange verifyTriesSpec)

/-- ITS FALSE NEIGHBOUR: 'it returns false'. Refute it at one input. -/
def verifyTriesWrong : ChangeSpec := { name := "verifyTries", fn := fun _ => fun
  | [d] => { results := [.lit (.bool false)], args := [d] }
  | _ => none }
def VerifyTriesWrongFalsely : Prop := verifyTriesRow.holds Try.pinned (OpenSpec.ofChange verifyTriesWrong)

/-- 'emissarylaw15.VerifyDepths': WHATEVER THE INPUT: true; the input reads as it did. -/
def verifyDepthsSpec : ChangeSpec := { name := "verifyDepths", fn := fun _ => fun
  | [d1, d2, d3] => { results := [.lit (.bool true)], args := [d1, d2, d3] }
  | _ => none }
def verifyDepthsRow : OpenClaim := { program := "ytilhglnfjaablaa", sum := "2bd0c1b6e88ea81fa0a52ac668656c59fd4c8529549a0b3d474c8bc66f358e7f", func := "emissary/emissarylaw15.VerifyDepths", spec := "verifyDepths", unfollowed := true, recurses := true, apart := false }
def VerifyDepthsSaid : Prop := verifyDepthsRow.holds Try.pinned (OpenSpec.ofChange verifyDepthsSpec)

/-- ITS FALSE NEIGHBOUR: 'it returns false'. Refute it at one input. -/
def verifyDepthsWrong : ChangeSpec := { name := "verifyDepths", fn := fun _ => fun
  | [d1, d2, d3] => { results := [.lit (.bool false)], args := [d1, d2, d3] }
  | _ => none }
def VerifyDepthsWrongFalsely : Prop := verifyDepthsRow.holds Try.pinned (OpenSpec.ofChange verifyDepthsWrong)

/-- 'emissarylaw18.ShapeIs': WHATEVER THE INPUT: true; the input reads as it did. -/
def shapeIsSpec : ChangeSpec := { name := "shapeIs", fn := fun _ => fun
  | [d1, d2] => { results := [.lit (.bool true)], args := [d1, d2] }
  | _ => none }
def shapeIsRow : OpenClaim := { program := "ytilhglnfjaablaa", sum := "2bd0c1b6e88ea81fa0a52ac668656c59fd4c8529549a0b3d474c8bc66f358e7f", func := "emissary/emissarylaw18.ShapeIs", spec := "shapeIs", unfollowed := true, recurses := true, apart := false }
def ShapeIsSaid : Prop := shapeIsRow.holds Try.pinned (OpenSpec.ofChange shapeIsSpec)

/-- ITS FALSE NEIGHBOUR: 'it returns false'. Refute it at one input. -/
def shapeIsWrong : ChangeSpec := { name := "shapeIs", fn := fun _ => fun
  | [d1, d2] => { results := [.lit (.bool false)], args := [d1, d2] }
  | _ => none }
def ShapeIsWrongFalsely : Prop := shapeIsRow.holds Try.pinned (OpenSpec.ofChange shapeIsWrong)

/-- 'emissarylaw18.ShapeStays': WHATEVER THE INPUT: true; the input reads as it did. -/
def shapeStaysSpec : ChangeSpec := { name := "shapeStays", fn := fun _ => fun
  | [d1, d2, d3] => { results := [.lit (.bool true)], args := [d1, d2, d3] }
  | _ => none }
def shapeStaysRow : OpenClaim := { program := "ytilhglnfjaablaa", sum := "2bd0c1b6e88ea81fa0a52ac668656c59fd4c8529549a0b3d474c8bc66f358e7f", func := "emissary/emissarylaw18.ShapeStays", spec := "shapeStays", unfollowed := true, recurses := true, apart := false }
def ShapeStaysSaid : Prop := shapeStaysRow.holds Try.pinned (OpenSpec.ofChange shapeStaysSpec)

/-- ITS FALSE NEIGHBOUR: 'it returns false'. Refute it at one input. -/
def shapeStaysWrong : ChangeSpec := { name := "shapeStays", fn := fun _ => fun
  | [d1, d2, d3] => { results := [.lit (.bool false)], args := [d1, d2, d3] }
  | _ => none }
def ShapeStaysWrongFalsely : Prop := shapeStaysRow.holds Try.pinned (OpenSpec.ofChange shapeStaysWrong)

/-- 'emissarylaw15.VerifyTells': WHATEVER THE INPUT: true; the input reads as it did. -/
def verifyTellsSpec : ChangeSpec := { name := "verifyTells", fn := fun _ => fun
  | [d1, d2] => { results := [.lit (.bool true)], args := [d1, d2] }
  | _ => none }
def verifyTellsRow : OpenClaim := { program := "ytilhglnfjaablaa", sum := "2bd0c1b6e88ea81fa0a52ac668656c59fd4c8529549a0b3d474c8bc66f358e7f", func := "emissary/emissarylaw15.VerifyTells", spec := "verifyTells", unfollowed := true, recurses := true, apart := false }
def VerifyTellsSaid : Prop := verifyTellsRow.holds Try.pinned (OpenSpec.ofChange verifyTellsSpec)

/-- ITS FALSE NEIGHBOUR: 'it returns false'. Refute it at one input. -/
def verifyTellsWrong : ChangeSpec := { name := "verifyTells", fn := fun _ => fun
  | [d1, d2] => { results := [.lit (.bool false)], args := [d1, d2] }
  | _ => none }
def VerifyTellsWrongFalsely : Prop := verifyTellsRow.holds Try.pinned (OpenSpec.ofChange verifyTellsWrong)

/- THE SECOND FORM. 'bulk': how many values and letters a reading holds, each counted each time it is reached (what is shared counts as often as it is met; a slice's spare places count too). A statement '..UptoSaid' is the law's where the arguments, and the package variables that the reading takes, are together of bulk at most 1048576: NARROWER than '..Said'. Prove '..Said' where nothing that the law and all that it calls make is longer than what came in: it says more and counts as full. Else prove '..UptoSaid'. A law counts once. -/
mutual
def uptoBulk {H : Type} : DataW H → Nat
  | .lit (.string bytes) => bytes.length + 1
  | .lit _ => 1
  | .nil => 1
  | .ptr d => uptoBulk d + 1
  | .slice elems spare => uptoBulkAll elems + uptoBulkAll spare + 1
  | .agg parts => uptoBulkAll parts + 1
  | .iface _ d => uptoBulk d + 1
  | .map entries => uptoBulkEntries entries + 1
  | .held _ => 1
def uptoBulkAll {H : Type} : List (DataW H) → Nat
  | [] => 0
  | d :: r => uptoBulk d + uptoBulkAll r
def uptoBulkEntries {H : Type} : List (Lit × DataW H) → Nat
  | [] => 0
  | x :: r => uptoBulkEntry x + uptoBulkEntries r
def uptoBulkEntry {H : Type} : Lit × DataW H → Nat
  | (.string bytes, d) => bytes.length + uptoBulk d + 1
  | (_, d) => uptoBulk d + 1
 end
def uptoSmall : (H : Type) → List (DataW H) → Bool := fun _ ds => decide (uptoBulkAll ds ≤ 1048576)
def OpenSpec.upto (s : _root_.Go.ChangeSpec) : _root_.Go.OpenSpec := { _root_.Go.OpenSpec.ofChange s with cond := some uptoSmall }

/-- 'emissarylaw18.ShapeOf', WHERE WHAT IT READS IS OF BULK AT MOST 1048576: true; the input reads as it did. -/
def shapeOfUptoRow : OpenClaim := { program := "ytilhglnfjaablaa", sum := "2bd0c1b6e88ea81fa0a52ac668656c59fd4c8529549a0b3d474c8bc66f358e7f", func := "emissary/emissarylaw18.ShapeOf", spec := "shapeOf", recurses := true, apart := false, narrowed := true }
def ShapeOfUptoSaid : Prop := shapeOfUptoRow.holds Try.pinned (OpenSpec.upto shapeOfSpec)

/-- 'emissarylaw18.ShapeCells', WHERE WHAT IT READS IS OF BULK AT MOST 1048576: true; the input reads as it did. -/
def shapeCellsUptoRow : OpenClaim := { program := "ytilhglnfjaablaa", sum := "2bd0c1b6e88ea81fa0a52ac668656c59fd4c8529549a0b3d474c8bc66f358e7f", func := "emissary/emissarylaw18.ShapeCells", spec := "shapeCells", recurses := true, apart := false, narrowed := true }
def ShapeCellsUptoSaid : Prop := shapeCellsUptoRow.holds Try.pinned (OpenSpec.upto shapeCellsSpec)

/-- 'emissarylaw18.ShapeSame', WHERE WHAT IT READS IS OF BULK AT MOST 1048576: true; the input reads as it did. -/
def shapeSameUptoRow : OpenClaim := { program := "ytilhglnfjaablaa", sum := "2bd0c1b6e88ea81fa0a52ac668656c59fd4c8529549a0b3d474c8bc66f358e7f", func := "emissary/emissarylaw18.ShapeSame", spec := "shapeSame", unfollowed := true, recurses := true, apart := false, narrowed := true }
def ShapeSameUptoSaid : Prop := shapeSameUptoRow.holds Try.pinned (OpenSpec.upto shapeSameSpec)

/-- 'emissarylaw18.ShapePut', WHERE WHAT IT READS IS OF BULK AT MOST 1048576: true; the input reads as it did. -/
def shapePutUptoRow : OpenClaim := { program := "ytilhglnfjaablaa", sum := "2bd0c1b6e88ea81fa0a52ac668656c59fd4c8529549a0b3d474c8bc66f358e7f", func := "emissary/emissarylaw18.ShapePut", spec := "shapePut", recurses := true, apart := false, narrowed := true }
def ShapePutUptoSaid : Prop := shapePutUptoRow.holds Try.pinned (OpenSpec.upto shapePutSpec)

/-- 'emissarylaw15.VerifyTries', WHERE WHAT IT READS IS OF BULK AT MOST 1048576: true; the input reads as it did. -/
def verifyTriesUptoRow : OpenClaim := { program := "ytilhglnfjaablaa", sum := "2bd0c1b6e88ea81fa0a52ac668656c59fd4c8529549a0b3d474c8bc66f358e7f", func := "emissary/emissarylaw15.VerifyTries", spec := "verifyTries", unfollowed := true, recurses := true, apart := false, narrowed := true }
def VerifyTriesUptoSaid : Prop := verifyTriesUptoRow.holds Try.pinned (OpenSpec.upto verifyTriesSpec)

/-- 'emissarylaw15.VerifyDepths', WHERE WHAT IT READS IS OF BULK AT MOST 1048576: true; the input reads as it did. -/
def verifyDepthsUptoRow : OpenClaim := { program := "ytilhglnfjaablaa", sum := "2bd0c1b6e88ea81fa0a52ac668656c59fd4c8529549a0b3d474c8bc66f358e7f", func := "emissary/emissarylaw15.VerifyDepths", spec := "verifyDepths", unfollowed := true, recurses := true, apart := false, narrowed := true }
def VerifyDepthsUptoSaid : Prop := verifyDepthsUptoRow.holds Try.pinned (OpenSpec.upto verifyDepthsSpec)

/-- 'emissarylaw18.ShapeIs', WHERE WHAT IT READS IS OF BULK AT MOST 1048576: true; the input reads as it did. -/
def shapeIsUptoRow : OpenClaim := { program := "ytilhglnfjaablaa", sum := "2bd0c1b6e88ea81fa0a52ac668656c59fd4c8529549a0b3d474c8bc66f358e7f", func := "emissary/emissarylaw18.ShapeIs", spec := "shapeIs", unfollowed := true, recurses := true, apart := false, narrowed := true }
def ShapeIsUptoSaid : Prop := shapeIsUptoRow.holds Try.pinned (OpenSpec.upto shapeIsSpec)

/-- 'emissarylaw18.ShapeStays', WHERE WHAT IT READS IS OF BULK AT MOST 1048576: true; the input reads as it did. -/
def shapeStaysUptoRow : OpenClaim := { program := "ytilhglnfjaablaa", sum := "2bd0c1b6e88ea81fa0a52ac668656c59fd4c8529549a0b3d474c8bc66f358e7f", func := "emissary/emissarylaw18.ShapeStays", spec := "shapeStays", unfollowed := true, recurses := true, apart := false, narrowed := true }
def ShapeStaysUptoSaid : Prop := shapeStaysUptoRow.holds Try.pinned (OpenSpec.upto shapeStaysSpec)

/-- 'emissarylaw15.VerifyTells', WHERE WHAT IT READS IS OF BULK AT MOST 1048576: true; the input reads as it did. -/
def verifyTellsUptoRow : OpenClaim := { program := "ytilhglnfjaablaa", sum := "2bd0c1b6e88ea81fa0a52ac668656c59fd4c8529549a0b3d474c8bc66f358e7f", func := "emissary/emissarylaw15.VerifyTells", spec := "verifyTells", unfollowed := true, recurses := true, apart := false, narrowed := true }
def VerifyTellsUptoSaid : Prop := verifyTellsUptoRow.holds Try.pinned (OpenSpec.upto verifyTellsSpec)

end Rows
end Go.Proofs.Ytilhglnfjaablaa
