/-
  No cell of these rows narrows 'for every input' (looked for: loops, veiled, ifaces, maps, wideKeys, modest, calm, conditions, laid).
  DERIVED. THE GIVEN ROWS OF THIS SEAT. 12 by the template 'for every input the law returns true; each argument reads behind the call as it read before'; 0 by the template 'total and deterministic' (their statements: YtonolehmhnfklaaTotals.lean).
  GIVEN WITH THE SEED: the statements are not yours to turn. If you find one false, say at which input.
  Laid BY PROGRAM, IN A SANDBOX (cutbox-rows.mjs): the forced cells as the released guide's own fill.sh prints them over the translation 1b32eeff1163c2b6… (all of the seat's roots in one cut). By AI agents, Wed Nov 11 2026. No macro, syntax, notation, axiom, sorry.
-/
import Derived.Test.YtonolehmhnfklaaChecked
import GoSem.Claim
import GoSem.ClaimJoined
import GoSem.ClaimMapViews
import Derived.JoinedTies
import Derived.KernelRfl
namespace Go.Proofs.Ytonolehmhnfklaa
/- THE CELL 'sum', in the pinned program and in every row, IS THE sha256 OF THE DUMP (.gsa) THAT YtonolehmhnfklaaProg.lean LOADS. Nothing in Lean hashes anything: it is a label: what it is worth is what the hold of that sum in a sandbox is worth. -/
noncomputable def Try.pinned : Pinned := { name := "ytonolehmhnfklaa", sum := "1b32eeff1163c2b6890244512ed7cfdfacc03c11632fa9d6ef403cc2f0a0b73a", checked := Try.checked }
namespace Rows
def none {H : Type} : Left H := { results := [], args := [] }

/-- 'emissarylaw2.SumTells': WHATEVER THE INPUT: true; the input reads as it did. -/
def sumTellsSpec : ChangeSpec := { name := "sumTells", fn := fun _ => fun
  | [d] => { results := [.lit (.bool true)], args := [d] }
  | _ => none }
def sumTellsRow : OpenClaim := { program := "ytonolehmhnfklaa", sum := "1b32eeff1163c2b6890244512ed7cfdfacc03c11632fa9d6ef403cc2f0a0b73a", func := "emissary/emissarylaw2.SumTells", spec := "sumTells", apart := false }
def SumTellsSaid : Prop := sumTellsRow.holds Try.pinned (OpenSpec.ofChange sumTellsSpec)

/-- ITS FALSE NEIGHBOUR: 'it returns false'. Refute it at one input. -/
def sumTellsWrong : ChangeSpec := { name := "sumTells", fn := fun _ => fun
  | [d] => { results := [.lit (.bool false)], args := [d] }
  | _ => none }
def SumTellsWrongFalsely : Prop := sumTellsRow.holds Try.pinned (OpenSpec.ofChange sumTellsWrong)

/-- 'emissarylaw2.SumRows': WHATEVER THE INPUT: true; the input reads as it did. -/
def sumRowsSpec : ChangeSpec := { name := "sumRows", fn := fun _ => fun
  | [d] => { results := [.lit (.bool true)], args := [d] }
  | _ => none }
def sumRowsRow : OpenClaim := { program := "ytonolehmhnfklaa", sum := "1b32eeff1163c2b6890244512ed7cfdfacc03c11632fa9d6ef403cc2f0a0b73a", func := "emissary/emissarylaw2.SumRows", spec := "sumRows", apart := false }
def SumRowsSaid : Prop := sumRowsRow.holds Try.pinned (OpenSpec.ofChange sumRowsSpec)

/-- ITS FALSE NEIGHBOUR: 'it returns false'. Refute it at one input. -/
def sumRowsWrong : ChangeSpec := { name := "sumRows", fn := fun _ => fun
  | [d] => { results := [.lit (.bool false)], args := [d] }
  | _ => none }
def SumRowsWrongFalsely : Prop := sumRowsRow.holds Try.pinned (OpenSpec.ofChange sumRowsWrong)

/-- 'emissarylaw2.SumTurned': WHATEVER THE INPUT: true; the input reads as it did. -/
def sumTurnedSpec : ChangeSpec := { name := "sumTurned", fn := fun _ => fun
  | [d1, d2, d3] => { results := [.lit (.bool true)], args := [d1, d2, d3] }
  | _ => none }
def sumTurnedRow : OpenClaim := { program := "ytonolehmhnfklaa", sum := "1b32eeff1163c2b6890244512ed7cfdfacc03c11632fa9d6ef403cc2f0a0b73a", func := "emissary/emissarylaw2.SumTurned", spec := "sumTurned", apart := false }
def SumTurnedSaid : Prop := sumTurnedRow.holds Try.pinned (OpenSpec.ofChange sumTurnedSpec)

/-- ITS FALSE NEIGHBOUR: 'it returns false'. Refute it at one input. -/
def sumTurnedWrong : ChangeSpec := { name := "sumTurned", fn := fun _ => fun
  | [d1, d2, d3] => { results := [.lit (.bool false)], args := [d1, d2, d3] }
  | _ => none }
def SumTurnedWrongFalsely : Prop := sumTurnedRow.holds Try.pinned (OpenSpec.ofChange sumTurnedWrong)

/-- 'emissarylaw2.SumNext': WHATEVER THE INPUT: true; the input reads as it did. -/
def sumNextSpec : ChangeSpec := { name := "sumNext", fn := fun _ => fun
  | [d1, d2] => { results := [.lit (.bool true)], args := [d1, d2] }
  | _ => none }
def sumNextRow : OpenClaim := { program := "ytonolehmhnfklaa", sum := "1b32eeff1163c2b6890244512ed7cfdfacc03c11632fa9d6ef403cc2f0a0b73a", func := "emissary/emissarylaw2.SumNext", spec := "sumNext", apart := false }
def SumNextSaid : Prop := sumNextRow.holds Try.pinned (OpenSpec.ofChange sumNextSpec)

/-- ITS FALSE NEIGHBOUR: 'it returns false'. Refute it at one input. -/
def sumNextWrong : ChangeSpec := { name := "sumNext", fn := fun _ => fun
  | [d1, d2] => { results := [.lit (.bool false)], args := [d1, d2] }
  | _ => none }
def SumNextWrongFalsely : Prop := sumNextRow.holds Try.pinned (OpenSpec.ofChange sumNextWrong)

/-- 'emissarylaw16.HeapInts': WHATEVER THE INPUT: true; the input reads as it did. -/
def heapIntsSpec : ChangeSpec := { name := "heapInts", fn := fun _ => fun
  | [d1, d2] => { results := [.lit (.bool true)], args := [d1, d2] }
  | _ => none }
def heapIntsRow : OpenClaim := { program := "ytonolehmhnfklaa", sum := "1b32eeff1163c2b6890244512ed7cfdfacc03c11632fa9d6ef403cc2f0a0b73a", func := "emissary/emissarylaw16.HeapInts", spec := "heapInts", apart := false }
def HeapIntsSaid : Prop := heapIntsRow.holds Try.pinned (OpenSpec.ofChange heapIntsSpec)

/-- ITS FALSE NEIGHBOUR: 'it returns false'. Refute it at one input. -/
def heapIntsWrong : ChangeSpec := { name := "heapInts", fn := fun _ => fun
  | [d1, d2] => { results := [.lit (.bool false)], args := [d1, d2] }
  | _ => none }
def HeapIntsWrongFalsely : Prop := heapIntsRow.holds Try.pinned (OpenSpec.ofChange heapIntsWrong)

/-- 'emissarylaw1.VarintPuts': WHATEVER THE INPUT: true; the input reads as it did. -/
def varintPutsSpec : ChangeSpec := { name := "varintPuts", fn := fun _ => fun
  | [d1, d2] => { results := [.lit (.bool true)], args := [d1, d2] }
  | _ => none }
def varintPutsRow : OpenClaim := { program := "ytonolehmhnfklaa", sum := "1b32eeff1163c2b6890244512ed7cfdfacc03c11632fa9d6ef403cc2f0a0b73a", func := "emissary/emissarylaw1.VarintPuts", spec := "varintPuts", unfollowed := true, recurses := true, apart := false }
def VarintPutsSaid : Prop := varintPutsRow.holds Try.pinned (OpenSpec.ofChange varintPutsSpec)

/-- ITS FALSE NEIGHBOUR: 'it returns false'. Refute it at one input. -/
def varintPutsWrong : ChangeSpec := { name := "varintPuts", fn := fun _ => fun
  | [d1, d2] => { results := [.lit (.bool false)], args := [d1, d2] }
  | _ => none }
def VarintPutsWrongFalsely : Prop := varintPutsRow.holds Try.pinned (OpenSpec.ofChange varintPutsWrong)

/-- 'emissarylaw1.VarintGets': WHATEVER THE INPUT: true; the input reads as it did. -/
def varintGetsSpec : ChangeSpec := { name := "varintGets", fn := fun _ => fun
  | [d] => { results := [.lit (.bool true)], args := [d] }
  | _ => none }
def varintGetsRow : OpenClaim := { program := "ytonolehmhnfklaa", sum := "1b32eeff1163c2b6890244512ed7cfdfacc03c11632fa9d6ef403cc2f0a0b73a", func := "emissary/emissarylaw1.VarintGets", spec := "varintGets", unfollowed := true, recurses := true, apart := false }
def VarintGetsSaid : Prop := varintGetsRow.holds Try.pinned (OpenSpec.ofChange varintGetsSpec)

/-- ITS FALSE NEIGHBOUR: 'it returns false'. Refute it at one input. -/
def varintGetsWrong : ChangeSpec := { name := "varintGets", fn := fun _ => fun
  | [d] => { results := [.lit (.bool false)], args := [d] }
  | _ => none }
def VarintGetsWrongFalsely : Prop := varintGetsRow.holds Try.pinned (OpenSpec.ofChange varintGetsWrong)

/-- 'emissarylaw1.VarintLeast': WHATEVER THE INPUT: true; the input reads as it did. -/
def varintLeastSpec : ChangeSpec := { name := "varintLeast", fn := fun _ => fun
  | [d] => { results := [.lit (.bool true)], args := [d] }
  | _ => none }
def varintLeastRow : OpenClaim := { program := "ytonolehmhnfklaa", sum := "1b32eeff1163c2b6890244512ed7cfdfacc03c11632fa9d6ef403cc2f0a0b73a", func := "emissary/emissarylaw1.VarintLeast", spec := "varintLeast", unfollowed := true, recurses := true, apart := false }
def VarintLeastSaid : Prop := varintLeastRow.holds Try.pinned (OpenSpec.ofChange varintLeastSpec)

/-- ITS FALSE NEIGHBOUR: 'it returns false'. Refute it at one input. -/
def varintLeastWrong : ChangeSpec := { name := "varintLeast", fn := fun _ => fun
  | [d] => { results := [.lit (.bool false)], args := [d] }
  | _ => none }
def VarintLeastWrongFalsely : Prop := varintLeastRow.holds Try.pinned (OpenSpec.ofChange varintLeastWrong)

/-- 'emissarylaw16.HeapFull': WHATEVER THE INPUT: true; the input reads as it did. -/
def heapFullSpec : ChangeSpec := { name := "heapFull", fn := fun _ => fun
  | [d1, d2] => { results := [.lit (.bool true)], args := [d1, d2] }
  | _ => none }
def heapFullRow : OpenClaim := { program := "ytonolehmhnfklaa", sum := "1b32eeff1163c2b6890244512ed7cfdfacc03c11632fa9d6ef403cc2f0a0b73a", func := "emissary/emissarylaw16.HeapFull", spec := "heapFull", apart := false }
def HeapFullSaid : Prop := heapFullRow.holds Try.pinned (OpenSpec.ofChange heapFullSpec)

/-- ITS FALSE NEIGHBOUR: 'it returns false'. Refute it at one input. -/
def heapFullWrong : ChangeSpec := { name := "heapFull", fn := fun _ => fun
  | [d1, d2] => { results := [.lit (.bool false)], args := [d1, d2] }
  | _ => none }
def HeapFullWrongFalsely : Prop := heapFullRow.holds Try.pinned (OpenSpec.ofChange heapFullWrong)

/-- 'emissarylaw1.VarintZigs': WHATEVER THE INPUT: true; the input reads as it did. -/
def varintZigsSpec : ChangeSpec := { name := "varintZigs", fn := fun _ => fun
  | [d1, d2] => { results := [.lit (.bool true)], args := [d1, d2] }
  | _ => none }
def varintZigsRow : OpenClaim := { program := "ytonolehmhnfklaa", sum := "1b32eeff1163c2b6890244512ed7cfdfacc03c11632fa9d6ef403cc2f0a0b73a", func := "emissary/emissarylaw1.VarintZigs", spec := "varintZigs", unfollowed := true, recurses := true, apart := false }
def VarintZigsSaid : Prop := varintZigsRow.holds Try.pinned (OpenSpec.ofChange varintZigsSpec)

/-- ITS FALSE NEIGHBOUR: 'it returns false'. Refute it at one input. -/
def varintZigsWrong : ChangeSpec := { name := "varintZigs", fn := fun _ => fun
  | [d1, d2] => { results := [.lit (.bool false)], args := [d1, d2] }
  | _ => none }
def VarintZigsWrongFalsely : Prop := varintZigsRow.holds Try.pinned (OpenSpec.ofChange varintZigsWrong)

/-- 'emissarylaw16.HeapPlays': WHATEVER THE INPUT: true; the input reads as it did. -/
def heapPlaysSpec : ChangeSpec := { name := "heapPlays", fn := fun _ => fun
  | [d1, d2] => { results := [.lit (.bool true)], args := [d1, d2] }
  | _ => none }
def heapPlaysRow : OpenClaim := { program := "ytonolehmhnfklaa", sum := "1b32eeff1163c2b6890244512ed7cfdfacc03c11632fa9d6ef403cc2f0a0b73a", func := "emissary/emissarylaw16.HeapPlays", spec := "heapPlays", apart := false }
def HeapPlaysSaid : Prop := heapPlaysRow.holds Try.pinned (OpenSpec.ofChange heapPlaysSpec)

/-- ITS FALSE NEIGHBOUR: 'it returns false'. Refute it at one input. -/
def heapPlaysWrong : ChangeSpec := { name := "heapPlays", fn := fun _ => fun
  | [d1, d2] => { results := [.lit (.bool false)], args := [d1, d2] }
  | _ => none }
def HeapPlaysWrongFalsely : Prop := heapPlaysRow.holds Try.pinned (OpenSpec.ofChange heapPlaysWrong)

/-- 'emissarylaw16.HeapOwn': WHATEVER THE INPUT: true; the input reads as it did. -/
def heapOwnSpec : ChangeSpec := { name := "heapOwn", fn := fun _ => fun
  | [d] => { results := [.lit (.bool true)], args := [d] }
  | _ => none }
def heapOwnRow : OpenClaim := { program := "ytonolehmhnfklaa", sum := "1b32eeff1163c2b6890244512ed7cfdfacc03c11632fa9d6ef403cc2f0a0b73a", func := "emissary/emissarylaw16.HeapOwn", spec := "heapOwn", apart := false }
def HeapOwnSaid : Prop := heapOwnRow.holds Try.pinned (OpenSpec.ofChange heapOwnSpec)

/-- ITS FALSE NEIGHBOUR: 'it returns false'. Refute it at one input. -/
def heapOwnWrong : ChangeSpec := { name := "heapOwn", fn := fun _ => fun
  | [d] => { results := [.lit (.bool false)], args := [d] }
  | _ => none }
def HeapOwnWrongFalsely : Prop := heapOwnRow.holds Try.pinned (OpenSpec.ofChange heapOwnWrong)

/- THE SECOND FORM. 'bulk': how many values and letters a reading holds, each counted each time it is reached (what is shared counts as often as it is met; a slice's spare places count too). A statement '..UptoSaid' is the law's where the arguments, and the package variables that the reading takes, are together of bulk at most 1048576: NARROWER than '..Said'. Prove '..Said' where nothing that the law and all that it calls make is longer than what came in: it says more and counts as full. Else prove '..UptoSaid'. A law counts once. -/
mutual
def uptoBulk {H : Type} : DataW H → Nat
  | .lit (.string bytes) => bytes.length + 1
  | .lit _ => 1
  | .nil => 1
  | .ptr d => uptoBulk d + 1
  | .slice elems spare => uptoBulkAll elems + uptoBulkAll spare + 1
  | .agg parts => uptoBulkAll parts + 1
  | .iface _ d => uptoBulk d + 1
  | .map entries => uptoBulkEntries entries + 1
  | .held _ => 1
def uptoBulkAll {H : Type} : List (DataW H) → Nat
  | [] => 0
  | d :: r => uptoBulk d + uptoBulkAll r
def uptoBulkEntries {H : Type} : List (Lit × DataW H) → Nat
  | [] => 0
  | x :: r => uptoBulkEntry x + uptoBulkEntries r
def uptoBulkEntry {H : Type} : Lit × DataW H → Nat
  | (.string bytes, d) => bytes.length + uptoBulk d + 1
  | (_, d) => uptoBulk d + 1
 end
def uptoSmall : (H : Type) → List (DataW H) → Bool := fun _ ds => decide (uptoBulkAll ds ≤ 1048576)
def OpenSpec.upto (s : _root_.Go.ChangeSpec) : _root_.Go.OpenSpec := { _root_.Go.OpenSpec.ofChange s with cond := some uptoSmall }

/-- 'emissarylaw2.SumTells', WHERE WHAT IT READS IS OF BULK AT MOST 1048576: true; the input reads as it did. -/
def sumTellsUptoRow : OpenClaim := { program := "ytonolehmhnfklaa", sum := "1b32eeff1163c2b6890244512ed7cfdfacc03c11632fa9d6ef403cc2f0a0b73a", func := "emissary/emissarylaw2.SumTells", spec := "sumTells", apart := false, narrowed := true }
def SumTellsUptoSaid : Prop := sumTellsUptoRow.holds Try.pinned (OpenSpec.upto sumTellsSpec)

/-- 'emissarylaw2.SumRows', WHERE WHAT IT READS IS OF BULK AT MOST 1048576: true; the input reads as it did. -/
def sumRowsUptoRow : OpenClaim := { program := "ytonolehmhnfklaa", sum := "1b32eeff1163c2b6890244512ed7cfdfacc03c11632fa9d6ef403cc2f0a0b73a", func := "emissary/emissarylaw2.SumRows", spec := "sumRows", apart := false, narrowed := true }
def SumRowsUptoSaid : Prop := sumRowsUptoRow.holds Try.pinned (OpenSpec.upto sumRowsSpec)

/-- 'emissarylaw2.SumTurned', WHERE WHAT IT READS IS OF BULK AT MOST 1048576: true; the input reads as it did. -/
def sumTurnedUptoRow : OpenClaim := { program := "ytonolehmhnfklaa", sum := "1b32eeff1163c2b6890244512ed7cfdfacc03c11632fa9d6ef403cc2f0a0b73a", func := "emissary/emissarylaw2.SumTurned", spec := "sumTurned", apart := false, narrowed := true }
def SumTurnedUptoSaid : Prop := sumTurnedUptoRow.holds Try.pinned (OpenSpec.upto sumTurnedSpec)

/-- 'emissarylaw2.SumNext', WHERE WHAT IT READS IS OF BULK AT MOST 1048576: true; the input reads as it did. -/
def sumNextUptoRow : OpenClaim := { program := "ytonolehmhnfklaa", sum := "1b32eeff1163c2b6890244512ed7cfdfacc03c11632fa9d6ef403cc2f0a0b73a", func := "emissary/emissarylaw2.SumNext", spec := "sumNext", apart := false, narrowed := true }
def SumNextUptoSaid : Prop := sumNextUptoRow.holds Try.pinned (OpenSpec.upto sumNextSpec)

/-- 'emissarylaw16.HeapInts', WHERE WHAT IT READS IS OF BULK AT MOST 1048576: true; the input reads as it did. -/
def heapIntsUptoRow : OpenClaim := { program := "ytonolehmhnfklaa", sum := "1b32eeff1163c2b6890244512ed7cfdfacc03c11632fa9d6ef403cc2f0a0b73a", func := "emissary/emissarylaw16.HeapInts", spec := "heapInts", apart := false, narrowed := true }
def HeapIntsUptoSaid : Prop := heapIntsUptoRow.holds Try.pinned (OpenSpec.upto heapIntsSpec)

/-- 'emissarylaw1.VarintPuts', WHERE WHAT IT READS IS OF BULK AT MOST 1048576: true; the input reads as it did. -/
def varintPutsUptoRow : OpenClaim := { program := "ytonolehmhnfklaa", sum := "1b32eeff1163c2b6890244512ed7cfdfacc03c11632fa9d6ef403cc2f0a0b73a", func := "emissary/emissarylaw1.VarintPuts", spec := "varintPuts", unfollowed := true, recurses := true, apart := false, narrowed := true }
def VarintPutsUptoSaid : Prop := varintPutsUptoRow.holds Try.pinned (OpenSpec.upto varintPutsSpec)

/-- 'emissarylaw1.VarintGets', WHERE WHAT IT READS IS OF BULK AT MOST 1048576: true; the input reads as it did. -/
def varintGetsUptoRow : OpenClaim := { program := "ytonolehmhnfklaa", sum := "1b32eeff1163c2b6890244512ed7cfdfacc03c11632fa9d6ef403cc2f0a0b73a", func := "emissary/emissarylaw1.VarintGets", spec := "varintGets", unfollowed := true, recurses := true, apart := false, narrowed := true }
def VarintGetsUptoSaid : Prop := varintGetsUptoRow.holds Try.pinned (OpenSpec.upto varintGetsSpec)

/-- 'emissarylaw1.VarintLeast', WHERE WHAT IT READS IS OF BULK AT MOST 1048576: true; the input reads as it did. -/
def varintLeastUptoRow : OpenClaim := { program := "ytonolehmhnfklaa", sum := "1b32eeff1163c2b6890244512ed7cfdfacc03c11632fa9d6ef403cc2f0a0b73a", func := "emissary/emissarylaw1.VarintLeast", spec := "varintLeast", unfollowed := true, recurses := true, apart := false, narrowed := true }
def VarintLeastUptoSaid : Prop := varintLeastUptoRow.holds Try.pinned (OpenSpec.upto varintLeastSpec)

/-- 'emissarylaw16.HeapFull', WHERE WHAT IT READS IS OF BULK AT MOST 1048576: true; the input reads as it did. -/
def heapFullUptoRow : OpenClaim := { program := "ytonolehmhnfklaa", sum := "1b32eeff1163c2b6890244512ed7cfdfacc03c11632fa9d6ef403cc2f0a0b73a", func := "emissary/emissarylaw16.HeapFull", spec := "heapFull", apart := false, narrowed := true }
def HeapFullUptoSaid : Prop := heapFullUptoRow.holds Try.pinned (OpenSpec.upto heapFullSpec)

/-- 'emissarylaw1.VarintZigs', WHERE WHAT IT READS IS OF BULK AT MOST 1048576: true; the input reads as it did. -/
def varintZigsUptoRow : OpenClaim := { program := "ytonolehmhnfklaa", sum := "1b32eeff1163c2b6890244512ed7cfdfacc03c11632fa9d6ef403cc2f0a0b73a", func := "emissary/emissarylaw1.VarintZigs", spec := "varintZigs", unfollowed := true, recurses := true, apart := false, narrowed := true }
def VarintZigsUptoSaid : Prop := varintZigsUptoRow.holds Try.pinned (OpenSpec.upto varintZigsSpec)

/-- 'emissarylaw16.HeapPlays', WHERE WHAT IT READS IS OF BULK AT MOST 1048576: true; the input reads as it did. -/
def heapPlaysUptoRow : OpenClaim := { program := "ytonolehmhnfklaa", sum := "1b32eeff1163c2b6890244512ed7cfdfacc03c11632fa9d6ef403cc2f0a0b73a", func := "emissary/emissarylaw16.HeapPlays", spec := "heapPlays", apart := false, narrowed := true }
def HeapPlaysUptoSaid : Prop := heapPlaysUptoRow.holds Try.pinned (OpenSpec.upto heapPlaysSpec)

/-- 'emissarylaw16.HeapOwn', WHERE WHAT IT READS IS OF BULK AT MOST 1048576: true; the input reads as it did. -/
def heapOwnUptoRow : OpenClaim := { program := "ytonolehmhnfklaa", sum := "1b32eeff1163c2b6890244512ed7cfdfacc03c11632fa9d6ef403cc2f0a0b73a", func := "emissary/emissarylaw16.HeapOwn", spec := "heapOwn", apart := false, narrowed := true }
def HeapOwnUptoSaid : Prop := heapOwnUptoRow.holds Try.pinned (OpenSpec.upto heapOwnSpec)

end Rows
end Go.Proofs.Ytonolehmhnfklaa
