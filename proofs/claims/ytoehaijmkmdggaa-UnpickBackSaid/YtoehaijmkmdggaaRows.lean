/-
  NARROWER THAN 'FOR EVERY INPUT', by the rows' own cells (each row's printed sentence says how): PickSame: loops · PickKinds: loops · UnpickGraphs: loops · UnpickBack: loops · UnpickTurned: loops · PickGraphs: loops.
  DERIVED. THE GIVEN ROWS OF THIS SEAT. 9 by the template 'for every input the law returns true; each argument reads behind the call as it read before'; 0 by the template 'total and deterministic' (their statements: YtoehaijmkmdggaaTotals.lean).
  GIVEN WITH THE SEED: the statements are not yours to turn. If you find one false, say at which input.
  Laid BY PROGRAM, IN A SANDBOX (cutbox-rows.mjs): the forced cells as the released guide's own fill.sh prints them over the translation a2a4e6b816002ad4… (all of the seat's roots in one cut). By AI agents, Wed Nov 11 2026. No macro, syntax, notation, axiom, sorry.
-/
import Derived.Test.YtoehaijmkmdggaaChecked
import GoSem.Claim
import GoSem.ClaimJoined
import GoSem.ClaimMapViews
import Derived.JoinedTies
import Derived.KernelRfl
namespace Go.Proofs.Ytoehaijmkmdggaa
/- THE CELL 'sum', in the pinned program and in every row, IS THE sha256 OF THE DUMP (.gsa) THAT YtoehaijmkmdggaaProg.lean LOADS. Nothing in Lean hashes anything: it is a label: what it is worth is what the hold of that sum in a sandbox is worth. -/
noncomputable def Try.pinned : Pinned := { name := "ytoehaijmkmdggaa", sum := "a2a4e6b816002ad4d1ac14ea0dcc0a59500e5047b088e4c0c20a5cc58f7efc05", checked := Try.checked }
namespace Rows
def none {H : Type} : Left H := { results := [], args := [] }

/-- 'emissarylaw22.PickSame': WHATEVER THE INPUT: true; the input reads as it did. -/
def pickSameSpec : ChangeSpec := { name := "pickSame", fn := fun _ => fun
  | [d1, d2, d3] => { results := [.lit (.bool true)], args := [d1, d2, d3] }
  | _ => none }
def pickSameRow : OpenClaim := { program := "ytoehaijmkmdggaa", sum := "a2a4e6b816002ad4d1ac14ea0dcc0a59500e5047b088e4c0c20a5cc58f7efc05", func := "emissary/emissarylaw22.PickSame", spec := "pickSame", unfollowed := true, recurses := true, loops := true, apart := false }
def PickSameSaid : Prop := pickSameRow.holds Try.pinned (OpenSpec.ofChange pickSameSpec)

/-- ITS FALSE NEIGHBOUR: 'it returns false'. Refute it at one input. -/
def pickSameWrong : ChangeSpec := { name := "pickSame", fn := fun _ => fun
  | [d1, d2, d3] => { results := [.lit (.bool false)], args := [d1, d2, d3] }
  | _ => none }
def PickSameWrongFalsely : Prop := pickSameRow.holds Try.pinned (OpenSpec.ofChange pickSameWrong)

/-- 'emissarylaw22.PickKinds': WHATEVER THE INPUT: true; the input reads as it did. -/
def pickKindsSpec : ChangeSpec := { name := "pickKinds", fn := fun _ => fun
  | [d1, d2] => { results := [.lit (.bool true)], args := [d1, d2] }
  | _ => none }
def pickKindsRow : OpenClaim := { program := "ytoehaijmkmdggaa", sum := "a2a4e6b816002ad4d1ac14ea0dcc0a59500e5047b088e4c0c20a5cc58f7efc05", func := "emissary/emissarylaw22.PickKinds", spec := "pickKinds", unfollowed := true, recurses := true, loops := true, apart := false }
def PickKindsSaid : Prop := pickKindsRow.holds Try.pinned (OpenSpec.ofChange pickKindsSpec)

/-- ITS FALSE NEIGHBOUR: 'it returns false'. Refute it at one input. -/
def pickKindsWrong : ChangeSpec := { name := "pickKinds", fn := fun _ => fun
  | [d1, d2] => { results := [.lit (.bool false)], args := [d1, d2] }
  | _ => none }
def PickKindsWrongFalsely : Prop := pickKindsRow.holds Try.pinned (OpenSpec.ofChange pickKindsWrong)

/-- 'emissarylaw23.UnpickGraphs': WHATEVER THE INPUT: true; the input reads as it did. -/
def unpickGraphsSpec : ChangeSpec := { name := "unpickGraphs", fn := fun _ => fun
  | [d1, d2] => { results := [.lit (.bool true)], args := [d1, d2] }
  | _ => none }
def unpickGraphsRow : OpenClaim := { program := "ytoehaijmkmdggaa", sum := "a2a4e6b816002ad4d1ac14ea0dcc0a59500e5047b088e4c0c20a5cc58f7efc05", func := "emissary/emissarylaw23.UnpickGraphs", spec := "unpickGraphs", inPlace := ["internal/reflectlite.TypeOf"], unfollowed := true, recurses := true, loops := true, apart := false }
def UnpickGraphsSaid : Prop := unpickGraphsRow.holds Try.pinned (OpenSpec.ofChange unpickGraphsSpec)

/-- ITS FALSE NEIGHBOUR: 'it returns false'. Refute it at one input. -/
def unpickGraphsWrong : ChangeSpec := { name := "unpickGraphs", fn := fun _ => fun
  | [d1, d2] => { results := [.lit (.bool false)], args := [d1, d2] }
  | _ => none }
def UnpickGraphsWrongFalsely : Prop := unpickGraphsRow.holds Try.pinned (OpenSpec.ofChange unpickGraphsWrong)

/-- 'emissarylaw23.UnpickBack': WHATEVER THE INPUT: true; the input reads as it did. -/
def unpickBackSpec : ChangeSpec := { name := "unpickBack", fn := fun _ => fun
  | [d1, d2] => { results := [.lit (.bool true)], args := [d1, d2] }
  | _ => none }
def unpickBackRow : OpenClaim := { program := "ytoehaijmkmdggaa", sum := "a2a4e6b816002ad4d1ac14ea0dcc0a59500e5047b088e4c0c20a5cc58f7efc05", func := "emissary/emissarylaw23.UnpickBack", spec := "unpickBack", inPlace := ["internal/reflectlite.TypeOf"], unfollowed := true, recurses := true, loops := true, apart := false }
def UnpickBackSaid : Prop := unpickBackRow.holds Try.pinned (OpenSpec.ofChange unpickBackSpec)

/-- ITS FALSE NEIGHBOUR: 'it returns false'. Refute it at one input. -/
def unpickBackWrong : ChangeSpec := { name := "unpickBack", fn := fun _ => fun
  | [d1, d2] => { results := [.lit (.bool false)], args := [d1, d2] }
  | _ => none }
def UnpickBackWrongFalsely : Prop := unpickBackRow.holds Try.pinned (OpenSpec.ofChange unpickBackWrong)

/-- 'emissarylaw23.UnpickTurned': WHATEVER THE INPUT: true; the input reads as it did. -/
def unpickTurnedSpec : ChangeSpec := { name := "unpickTurned", fn := fun _ => fun
  | [d1, d2, d3, d4, d5] => { results := [.lit (.bool true)], args := [d1, d2, d3, d4, d5] }
  | _ => none }
def unpickTurnedRow : OpenClaim := { program := "ytoehaijmkmdggaa", sum := "a2a4e6b816002ad4d1ac14ea0dcc0a59500e5047b088e4c0c20a5cc58f7efc05", func := "emissary/emissarylaw23.UnpickTurned", spec := "unpickTurned", inPlace := ["internal/reflectlite.TypeOf"], unfollowed := true, recurses := true, loops := true, apart := false }
def UnpickTurnedSaid : Prop := unpickTurnedRow.holds Try.pinned (OpenSpec.ofChange unpickTurnedSpec)

/-- ITS FALSE NEIGHBOUR: 'it returns false'. Refute it at one input. -/
def unpickTurnedWrong : ChangeSpec := { name := "unpickTurned", fn := fun _ => fun
  | [d1, d2, d3, d4, d5] => { results := [.lit (.bool false)], args := [d1, d2, d3, d4, d5] }
  | _ => none }
def UnpickTurnedWrongFalsely : Prop := unpickTurnedRow.holds Try.pinned (OpenSpec.ofChange unpickTurnedWrong)

/-- 'emissarylaw23.UnpickOdd': WHATEVER THE INPUT: true; the input reads as it did. -/
def unpickOddSpec : ChangeSpec := { name := "unpickOdd", fn := fun _ => fun
  | [d] => { results := [.lit (.bool true)], args := [d] }
  | _ => none }
def unpickOddRow : OpenClaim := { program := "ytoehaijmkmdggaa", sum := "a2a4e6b816002ad4d1ac14ea0dcc0a59500e5047b088e4c0c20a5cc58f7efc05", func := "emissary/emissarylaw23.UnpickOdd", spec := "unpickOdd", inPlace := ["internal/reflectlite.TypeOf"], unfollowed := true, recurses := true, apart := false }
def UnpickOddSaid : Prop := unpickOddRow.holds Try.pinned (OpenSpec.ofChange unpickOddSpec)

/-- ITS FALSE NEIGHBOUR: 'it returns false'. Refute it at one input. -/
def unpickOddWrong : ChangeSpec := { name := "unpickOdd", fn := fun _ => fun
  | [d] => { results := [.lit (.bool false)], args := [d] }
  | _ => none }
def UnpickOddWrongFalsely : Prop := unpickOddRow.holds Try.pinned (OpenSpec.ofChange unpickOddWrong)

/-- 'emissarylaw23.UnpickMany': WHATEVER THE INPUT: true; the input reads as it did. -/
def unpickManySpec : ChangeSpec := { name := "unpickMany", fn := fun _ => fun
  | [d] => { results := [.lit (.bool true)], args := [d] }
  | _ => none }
def unpickManyRow : OpenClaim := { program := "ytoehaijmkmdggaa", sum := "a2a4e6b816002ad4d1ac14ea0dcc0a59500e5047b088e4c0c20a5cc58f7efc05", func := "emissary/emissarylaw23.UnpickMany", spec := "unpickMany", inPlace := ["internal/reflectlite.TypeOf"], unfollowed := true, recurses := true, apart := false }
def UnpickManySaid : Prop := unpickManyRow.holds Try.pinned (OpenSpec.ofChange unpickManySpec)

/-- ITS FALSE NEIGHBOUR: 'it returns false'. Refute it at one input. -/
def unpickManyWrong : ChangeSpec := { name := "unpickMany", fn := fun _ => fun
  | [d] => { results := [.lit (.bool false)], args := [d] }
  | _ => none }
def UnpickManyWrongFalsely : Prop := unpickManyRow.holds Try.pinned (OpenSpec.ofChange unpickManyWrong)

/-- 'emissarylaw22.PickKnown': WHATEVER THE INPUT: true; the input reads as it did. -/
def pickKnownSpec : ChangeSpec := { name := "pickKnown", fn := fun _ => fun
  | [d] => { results := [.lit (.bool true)], args := [d] }
  | _ => none }
def pickKnownRow : OpenClaim := { program := "ytoehaijmkmdggaa", sum := "a2a4e6b816002ad4d1ac14ea0dcc0a59500e5047b088e4c0c20a5cc58f7efc05", func := "emissary/emissarylaw22.PickKnown", spec := "pickKnown", unfollowed := true, recurses := true, apart := false }
def PickKnownSaid : Prop := pickKnownRow.holds Try.pinned (OpenSpec.ofChange pickKnownSpec)

/-- ITS FALSE NEIGHBOUR: 'it returns false'. Refute it at one input. -/
def pickKnownWrong : ChangeSpec := { name := "pickKnown", fn := fun _ => fun
  | [d] => { results := [.lit (.bool false)], args := [d] }
  | _ => none }
def PickKnownWrongFalsely : Prop := pickKnownRow.holds Try.pinned (OpenSpec.ofChange pickKnownWrong)

/-- 'emissarylaw22.PickGraphs': WHATEVER THE INPUT: true; the input reads as it did. -/
def pickGraphsSpec : ChangeSpec := { name := "pickGraphs", fn := fun _ => fun
  | [d1, d2] => { results := [.lit (.bool true)], args := [d1, d2] }
  | _ => none }
def pickGraphsRow : OpenClaim := { program := "ytoehaijmkmdggaa", sum := "a2a4e6b816002ad4d1ac14ea0dcc0a59500e5047b088e4c0c20a5cc58f7efc05", func := "emissary/emissarylaw22.PickGraphs", spec := "pickGraphs", unfollowed := true, recurses := true, loops := true, apart := false }
def PickGraphsSaid : Prop := pickGraphsRow.holds Try.pinned (OpenSpec.ofChange pickGraphsSpec)

/-- ITS FALSE NEIGHBOUR: 'it returns false'. Refute it at one input. -/
def pickGraphsWrong : ChangeSpec := { name := "pickGraphs", fn := fun _ => fun
  | [d1, d2] => { results := [.lit (.bool false)], args := [d1, d2] }
  | _ => none }
def PickGraphsWrongFalsely : Prop := pickGraphsRow.holds Try.pinned (OpenSpec.ofChange pickGraphsWrong)

/- THE SECOND FORM. 'bulk': how many values and letters a reading holds, each counted each time it is reached (what is shared counts as often as it is met; a slice's spare places count too). A statement '..UptoSaid' is the law's where the arguments, and the package variables that the reading takes, are together of bulk at most 1048576: NARROWER than '..Said'. Prove '..Said' where nothing that the law and all that it calls make is longer than what came in: it says more and counts as full. Else prove '..UptoSaid'. A law counts once. -/
mutual
def uptoBulk {H : Type} : DataW H → Nat
  | .lit (.string bytes) => bytes.length + 1
  | .lit _ => 1
  | .nil => 1
  | .ptr d => uptoBulk d + 1
  | .slice elems spare => uptoBulkAll elems + uptoBulkAll spare + 1
  | .agg parts => uptoBulkAll parts + 1
  | .iface _ d => uptoBulk d + 1
  | .map entries => uptoBulkEntries entries + 1
  | .held _ => 1
def uptoBulkAll {H : Type} : List (DataW H) → Nat
  | [] => 0
  | d :: r => uptoBulk d + uptoBulkAll r
def uptoBulkEntries {H : Type} : List (Lit × DataW H) → Nat
  | [] => 0
  | x :: r => uptoBulkEntry x + uptoBulkEntries r
def uptoBulkEntry {H : Type} : Lit × DataW H → Nat
  | (.string bytes, d) => bytes.length + uptoBulk d + 1
  | (_, d) => uptoBulk d + 1
 end
def uptoSmall : (H : Type) → List (DataW H) → Bool := fun _ ds => decide (uptoBulkAll ds ≤ 1048576)
def OpenSpec.upto (s : _root_.Go.ChangeSpec) : _root_.Go.OpenSpec := { _root_.Go.OpenSpec.ofChange s with cond := some uptoSmall }

/-- 'emissarylaw22.PickSame', WHERE WHAT IT READS IS OF BULK AT MOST 1048576: true; the input reads as it did. -/
def pickSameUptoRow : OpenClaim := { program := "ytoehaijmkmdggaa", sum := "a2a4e6b816002ad4d1ac14ea0dcc0a59500e5047b088e4c0c20a5cc58f7efc05", func := "emissary/emissarylaw22.PickSame", spec := "pickSame", unfollowed := true, recurses := true, loops := true, apart := false, narrowed := true }
def PickSameUptoSaid : Prop := pickSameUptoRow.holds Try.pinned (OpenSpec.upto pickSameSpec)

/-- 'emissarylaw22.PickKinds', WHERE WHAT IT READS IS OF BULK AT MOST 1048576: true; the input reads as it did. -/
def pickKindsUptoRow : OpenClaim := { program := "ytoehaijmkmdggaa", sum := "a2a4e6b816002ad4d1ac14ea0dcc0a59500e5047b088e4c0c20a5cc58f7efc05", func := "emissary/emissarylaw22.PickKinds", spec := "pickKinds", unfollowed := true, recurses := true, loops := true, apart := false, narrowed := true }
def PickKindsUptoSaid : Prop := pickKindsUptoRow.holds Try.pinned (OpenSpec.upto pickKindsSpec)

/-- 'emissarylaw23.UnpickGraphs', WHERE WHAT IT READS IS OF BULK AT MOST 1048576: true; the input reads as it did. -/
def unpickGraphsUptoRow : OpenClaim := { program := "ytoehaijmkmdggaa", sum := "a2a4e6b816002ad4d1ac14ea0dcc0a59500e5047b088e4c0c20a5cc58f7efc05", func := "emissary/emissarylaw23.UnpickGraphs", spec := "unpickGraphs", inPlace := ["internal/reflectlite.TypeOf"], unfollowed := true, recurses := true, loops := true, apart := false, narrowed := true }
def UnpickGraphsUptoSaid : Prop := unpickGraphsUptoRow.holds Try.pinned (OpenSpec.upto unpickGraphsSpec)

/-- 'emissarylaw23.UnpickBack', WHERE WHAT IT READS IS OF BULK AT MOST 1048576: true; the input reads as it did. -/
def unpickBackUptoRow : OpenClaim := { program := "ytoehaijmkmdggaa", sum := "a2a4e6b816002ad4d1ac14ea0dcc0a59500e5047b088e4c0c20a5cc58f7efc05", func := "emissary/emissarylaw23.UnpickBack", spec := "unpickBack", inPlace := ["internal/reflectlite.TypeOf"], unfollowed := true, recurses := true, loops := true, apart := false, narrowed := true }
def UnpickBackUptoSaid : Prop := unpickBackUptoRow.holds Try.pinned (OpenSpec.upto unpickBackSpec)

/-- 'emissarylaw23.UnpickTurned', WHERE WHAT IT READS IS OF BULK AT MOST 1048576: true; the input reads as it did. -/
def unpickTurnedUptoRow : OpenClaim := { program := "ytoehaijmkmdggaa", sum := "a2a4e6b816002ad4d1ac14ea0dcc0a59500e5047b088e4c0c20a5cc58f7efc05", func := "emissary/emissarylaw23.UnpickTurned", spec := "unpickTurned", inPlace := ["internal/reflectlite.TypeOf"], unfollowed := true, recurses := true, loops := true, apart := false, narrowed := true }
def UnpickTurnedUptoSaid : Prop := unpickTurnedUptoRow.holds Try.pinned (OpenSpec.upto unpickTurnedSpec)

/-- 'emissarylaw23.UnpickOdd', WHERE WHAT IT READS IS OF BULK AT MOST 1048576: true; the input reads as it did. -/
def unpickOddUptoRow : OpenClaim := { program := "ytoehaijmkmdggaa", sum := "a2a4e6b816002ad4d1ac14ea0dcc0a59500e5047b088e4c0c20a5cc58f7efc05", func := "emissary/emissarylaw23.UnpickOdd", spec := "unpickOdd", inPlace := ["internal/reflectlite.TypeOf"], unfollowed := true, recurses := true, apart := false, narrowed := true }
def UnpickOddUptoSaid : Prop := unpickOddUptoRow.holds Try.pinned (OpenSpec.upto unpickOddSpec)

/-- 'emissarylaw23.UnpickMany', WHERE WHAT IT READS IS OF BULK AT MOST 1048576: true; the input reads as it did. -/
def unpickManyUptoRow : OpenClaim := { program := "ytoehaijmkmdggaa", sum := "a2a4e6b816002ad4d1ac14ea0dcc0a59500e5047b088e4c0c20a5cc58f7efc05", func := "emissary/emissarylaw23.UnpickMany", spec := "unpickMany", inPlace := ["internal/reflectlite.TypeOf"], unfollowed := true, recurses := true, apart := false, narrowed := true }
def UnpickManyUptoSaid : Prop := unpickManyUptoRow.holds Try.pinned (OpenSpec.upto unpickManySpec)

/-- 'emissarylaw22.PickKnown', WHERE WHAT IT READS IS OF BULK AT MOST 1048576: true; the input reads as it did. -/
def pickKnownUptoRow : OpenClaim := { program := "ytoehaijmkmdggaa", sum := "a2a4e6b816002ad4d1ac14ea0dcc0a59500e5047b088e4c0c20a5cc58f7efc05", func := "emissary/emissarylaw22.PickKnown", spec := "pickKnown", unfollowed := true, recurses := true, apart := false, narrowed := true }
def PickKnownUptoSaid : Prop := pickKnownUptoRow.holds Try.pinned (OpenSpec.upto pickKnownSpec)

/-- 'emissarylaw22.PickGraphs', WHERE WHAT IT READS IS OF BULK AT MOST 1048576: true; the input reads as it did. -/
def pickGraphsUptoRow : OpenClaim := { program := "ytoehaijmkmdggaa", sum := "a2a4e6b816002ad4d1ac14ea0dcc0a59500e5047b088e4c0c20a5cc58f7efc05", func := "emissary/emissarylaw22.PickGraphs", spec := "pickGraphs", unfollowed := true, recurses := true, loops := true, apart := false, narrowed := true }
def PickGraphsUptoSaid : Prop := pickGraphsUptoRow.holds Try.pinned (OpenSpec.upto pickGraphsSpec)

end Rows
end Go.Proofs.Ytoehaijmkmdggaa
