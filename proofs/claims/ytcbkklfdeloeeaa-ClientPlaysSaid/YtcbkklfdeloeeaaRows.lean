/-
  NARROWER THAN 'FOR EVERY INPUT', by the rows' own cells (each row's printed sentence says how): MarkSame: loops · MarkBytes: loops.
  DERIVED. THE GIVEN ROWS OF THIS SEAT. 12 by the template 'for every input the law returns true; each argument reads behind the call as it read before'; 0 by the template 'total and deterministic' (their statements: YtcbkklfdeloeeaaTotals.lean).
  GIVEN WITH THE SEED: the statements are not yours to turn. If you find one false, say at which input.
  Laid BY PROGRAM, IN A SANDBOX (cutbox-rows.mjs): the forced cells as the released guide's own fill.sh prints them over the translation da36f4a503a71565… (all of the seat's roots in one cut). By AI agents, Wed Nov 11 2026. No macro, syntax, notation, axiom, sorry.
-/
import Derived.Test.YtcbkklfdeloeeaaChecked
import GoSem.Claim
import GoSem.ClaimJoined
import GoSem.ClaimMapViews
import Derived.JoinedTies
import Derived.KernelRfl
namespace Go.Proofs.Ytcbkklfdeloeeaa
/- THE CELL 'sum', in the pinned program and in every row, IS THE sha256 OF THE DUMP (.gsa) THAT YtcbkklfdeloeeaaProg.lean LOADS. Nothing in Lean hashes anything: it is a label: what it is worth is what the hold of that sum in a sandbox is worth. -/
noncomputable def Try.pinned : Pinned := { name := "ytcbkklfdeloeeaa", sum := "da36f4a503a7156530bc883d23ce9fe8fa2a53f10f2405498da135e3b05cd33f", checked := Try.checked }
namespace Rows
def none {H : Type} : Left H := { results := [], args := [] }

/-- 'emissarylaw13.CodeHas': WHATEVER THE INPUT: true; the input reads as it did. -/
def codeHasSpec : ChangeSpec := { name := "codeHas", fn := fun _ => fun
  | [d] => { results := [.lit (.bool true)], args := [d] }
  | _ => none }
def codeHasRow : OpenClaim := { program := "ytcbkklfdeloeeaa", sum := "da36f4a503a7156530bc883d23ce9fe8fa2a53f10f2405498da135e3b05cd33f", func := "emissary/emissarylaw13.CodeHas", spec := "codeHas", unfollowed := true, recurses := true, apart := false }
def CodeHasSaid : Prop := codeHasRow.holds Try.pinned (OpenSpec.ofChange codeHasSpec)

/-- ITS FALSE NEIGHBOUR: 'it returns false'. Refute it at one input. -/
def codeHasWrong : ChangeSpec := { name := "codeHas", fn := fun _ => fun
  | [d] => { results := [.lit (.bool false)], args := [d] }
  | _ => none }
def CodeHasWrongFalsely : Prop := codeHasRow.holds Try.pinned (OpenSpec.ofChange codeHasWrong)

/-- 'emissarylaw12.MarkSame': WHATEVER THE INPUT: true; the input reads as it did. -/
def markSameSpec : ChangeSpec := { name := "markSame", fn := fun _ => fun
  | [d1, d2] => { results := [.lit (.bool true)], args := [d1, d2] }
  | _ => none }
def markSameRow : OpenClaim := { program := "ytcbkklfdeloeeaa", sum := "da36f4a503a7156530bc883d23ce9fe8fa2a53f10f2405498da135e3b05cd33f", func := "emissary/emissarylaw12.MarkSame", spec := "markSame", unfollowed := true, recurses := true, loops := true, apart := false }
def MarkSameSaid : Prop := markSameRow.holds Try.pinned (OpenSpec.ofChange markSameSpec)

/-- ITS FALSE NEIGHBOUR: 'it returns false'. Refute it at one input. -/
def markSameWrong : ChangeSpec := { name := "markSame", fn := fun _ => fun
  | [d1, d2] => { results := [.lit (.bool false)], args := [d1, d2] }
  | _ => none }
def MarkSameWrongFalsely : Prop := markSameRow.holds Try.pinned (OpenSpec.ofChange markSameWrong)

/-- 'emissarylaw13.CodeReads': WHATEVER THE INPUT: true; the input reads as it did. -/
def codeReadsSpec : ChangeSpec := { name := "codeReads", fn := fun _ => fun
  | [d] => { results := [.lit (.bool true)], args := [d] }
  | _ => none }
def codeReadsRow : OpenClaim := { program := "ytcbkklfdeloeeaa", sum := "da36f4a503a7156530bc883d23ce9fe8fa2a53f10f2405498da135e3b05cd33f", func := "emissary/emissarylaw13.CodeReads", spec := "codeReads", unfollowed := true, recurses := true, apart := false }
def CodeReadsSaid : Prop := codeReadsRow.holds Try.pinned (OpenSpec.ofChange codeReadsSpec)

/-- ITS FALSE NEIGHBOUR: 'it returns false'. Refute it at one input. -/
def codeReadsWrong : ChangeSpec := { name := "codeReads", fn := fun _ => fun
  | [d] => { results := [.lit (.bool false)], args := [d] }
  | _ => none }
def CodeReadsWrongFalsely : Prop := codeReadsRow.holds Try.pinned (OpenSpec.ofChange codeReadsWrong)

/-- 'emissarylaw13.CodeTurned': WHATEVER THE INPUT: true; the input reads as it did. -/
def codeTurnedSpec : ChangeSpec := { name := "codeTurned", fn := fun _ => fun
  | [d1, d2, d3, d4] => { results := [.lit (.bool true)], args := [d1, d2, d3, d4] }
  | _ => none }
def codeTurnedRow : OpenClaim := { program := "ytcbkklfdeloeeaa", sum := "da36f4a503a7156530bc883d23ce9fe8fa2a53f10f2405498da135e3b05cd33f", func := "emissary/emissarylaw13.CodeTurned", spec := "codeTurned", unfollowed := true, recurses := true, apart := false }
def CodeTurnedSaid : Prop := codeTurnedRow.holds Try.pinned (OpenSpec.ofChange codeTurnedSpec)

/-- ITS FALSE NEIGHBOUR: 'it returns false'. Refute it at one input. -/
def codeTurnedWrong : ChangeSpec := { name := "codeTurned", fn := fun _ => fun
  | [d1, d2, d3, d4] => { results := [.lit (.bool false)], args := [d1, d2, d3, d4] }
  | _ => none }
def CodeTurnedWrongFalsely : Prop := codeTurnedRow.holds Try.pinned (OpenSpec.ofChange codeTurnedWrong)

/-- 'emissarylaw13.CodeBytes': WHATEVER THE INPUT: true; the input reads as it did. -/
def codeBytesSpec : ChangeSpec := { name := "codeBytes", fn := fun _ => fun
  | [d] => { results := [.lit (.bool true)], args := [d] }
  | _ => none }
def codeBytesRow : OpenClaim := { program := "ytcbkklfdeloeeaa", sum := "da36f4a503a7156530bc883d23ce9fe8fa2a53f10f2405498da135e3b05cd33f", func := "emissary/emissarylaw13.CodeBytes", spec := "codeBytes", unfollowed := true, recurses := true, apart := false }
def CodeBytesSaid : Prop := codeBytesRow.holds Try.pinned (OpenSpec.ofChange codeBytesSpec)

/-- ITS FALSE NEIGHBOUR: 'it returns false'. Refute it at one input. -/
def codeBytesWrong : ChangeSpec := { name := "codeBytes", fn := fun _ => fun
  | [d] => { results := [.lit (.bool false)], args := [d] }
  | _ => none }
def CodeBytesWrongFalsely : Prop := codeBytesRow.holds Try.pinned (OpenSpec.ofChange codeBytesWrong)

/-- 'emissarylaw26.ClientAgain': WHATEVER THE INPUT: true; the input reads as it did. -/
def clientAgainSpec : ChangeSpec := { name := "clientAgain", fn := fun _ => fun
  | [d1, d2] => { results := [.lit (.bool true)], args := [d1, d2] }
  | _ => none }
def clientAgainRow : OpenClaim := { program := "ytcbkklfdeloeeaa", sum := "da36f4a503a7156530bc883d23ce9fe8fa2a53f10f2405498da135e3b05cd33f", func := "emissary/emissarylaw26.ClientAgain", spec := "clientAgain", unfollowed := true, recurses := true, apart := false }
def ClientAgainSaid : Prop := clientAgainRow.holds Try.pinned (OpenSpec.ofChange clientAgainSpec)

/-- ITS FALSE NEIGHBOUR: 'it returns false'. Refute it at one input. -/
def clientAgainWrong : ChangeSpec := { name := "clientAgain", fn := fun _ => fun
  | [d1, d2] => { results := [.lit (.bool false)], args := [d1, d2] }
  | _ => none }
def ClientAgainWrongFalsely : Prop := clientAgainRow.holds Try.pinned (OpenSpec.ofChange clientAgainWrong)

/-- 'emissarylaw26.ClientLate': WHATEVER THE INPUT: true; the input reads as it did. -/
def clientLateSpec : ChangeSpec := { name := "clientLate", fn := fun _ => fun
  | [d1, d2, d3] => { results := [.lit (.bool true)], args := [d1, d2, d3] }
  | _ => none }
def clientLateRow : OpenClaim := { program := "ytcbkklfdeloeeaa", sum := "da36f4a503a7156530bc883d23ce9fe8fa2a53f10f2405498da135e3b05cd33f", func := "emissary/emissarylaw26.ClientLate", spec := "clientLate", unfollowed := true, recurses := true, apart := false }
def ClientLateSaid : Prop := clientLateRow.holds Try.pinned (OpenSpec.ofChange clientLateSpec)

/-- ITS FALSE NEIGHBOUR: 'it returns false'. Refute it at one input. -/
def clientLateWrong : ChangeSpec := { name := "clientLate", fn := fun _ => fun
  | [d1, d2, d3] => { results := [.lit (.bool false)], args := [d1, d2, d3] }
  | _ => none }
def ClientLateWrongFalsely : Prop := clientLateRow.holds Try.pinned (OpenSpec.ofChange clientLateWrong)

/-- 'emissarylaw26.ClientPlays': WHATEVER THE INPUT: true; the input reads as it did. -/
def clientPlaysSpec : ChangeSpec := { name := "clientPlays", fn := fun _ => fun
  | [d1, d2] => { results := [.lit (.bool true)], args := [d1, d2] }
  | _ => none }
def clientPlaysRow : OpenClaim := { program := "ytcbkklfdeloeeaa", sum := "da36f4a503a7156530bc883d23ce9fe8fa2a53f10f2405498da135e3b05cd33f", func := "emissary/emissarylaw26.ClientPlays", spec := "clientPlays", unfollowed := true, recurses := true, apart := false }
def ClientPlaysSaid : Prop := clientPlaysRow.holds Try.pinned (OpenSpec.ofChange clientPlaysSpec)

/-- ITS FALSE NEIGHBOUR: 'it returns false'. Refute it at one input. -/
def clientPlaysWrong : ChangeSpec := { name := "clientPlays", fn := fun _ => fun
  | [d1, d2] => { results := [.lit (.bool false)], args := [d1, d2] }
  | _ => none }
def ClientPlaysWrongFalsely : Prop := clientPlaysRow.holds Try.pinned (OpenSpec.ofChange clientPlaysWrong)

/-- 'emissarylaw26.ClientCalls': WHATEVER THE INPUT: true; the input reads as it did. -/
def clientCallsSpec : ChangeSpec := { name := "clientCalls", fn := fun _ => fun
  | [d] => { results := [.lit (.bool true)], args := [d] }
  | _ => none }
def clientCallsRow : OpenClaim := { program := "ytcbkklfdeloeeaa", sum := "da36f4a503a7156530bc883d23ce9fe8fa2a53f10f2405498da135e3b05cd33f", func := "emissary/emissarylaw26.ClientCalls", spec := "clientCalls", unfollowed := true, recurses := true, apart := false }
def ClientCallsSaid : Prop := clientCallsRow.holds Try.pinned (OpenSpec.ofChange clientCallsSpec)

/-- ITS FALSE NEIGHBOUR: 'it returns false'. Refute it at one input. -/
def clientCallsWrong : ChangeSpec := { name := "clientCalls", fn := fun _ => fun
  | [d] => { results := [.lit (.bool false)], args := [d] }
  | _ => none }
def ClientCallsWrongFalsely : Prop := clientCallsRow.holds Try.pinned (OpenSpec.ofChange clientCallsWrong)

/-- 'emissarylaw12.MarkBytes': WHATEVER THE INPUT: true; the input reads as it did. -/
def markBytesSpec : ChangeSpec := { name := "markBytes", fn := fun _ => fun
  | [d] => { results := [.lit (.bool true)], args := [d] }
  | _ => none }
def markBytesRow : OpenClaim := { program := "ytcbkklfdeloeeaa", sum := "da36f4a503a7156530bc883d23ce9fe8fa2a53f10f2405498da135e3b05cd33f", func := "emissary/emissarylaw12.MarkBytes", spec := "markBytes", unfollowed := true, recurses := true, loops := true, apart := false }
def MarkBytesSaid : Prop := markBytesRow.holds Try.pinned (OpenSpec.ofChange markBytesSpec)

/-- ITS FALSE NEIGHBOUR: 'it returns false'. Refute it at one input. -/
def markBytesWrong : ChangeSpec := { name := "markBytes", fn := fun _ => fun
  | [d] => { results := [.lit (.bool false)], args := [d] }
  | _ => none }
def MarkBytesWrongFalsely : Prop := markBytesRow.holds Try.pinned (OpenSpec.ofChange markBytesWrong)

/-- 'emissarylaw12.MarkReads': WHATEVER THE INPUT: true; the input reads as it did. -/
def markReadsSpec : ChangeSpec := { name := "markReads", fn := fun _ => fun
  | [d] => { results := [.lit (.bool true)], args := [d] }
  | _ => none }
def markReadsRow : OpenClaim := { program := "ytcbkklfdeloeeaa", sum := "da36f4a503a7156530bc883d23ce9fe8fa2a53f10f2405498da135e3b05cd33f", func := "emissary/emissarylaw12.MarkReads", spec := "markReads", unfollowed := true, recurses := true, apart := false }
def MarkReadsSaid : Prop := markReadsRow.holds Try.pinned (OpenSpec.ofChange markReadsSpec)

/-- ITS FALSE NEIGHBOUR: 'it returns false'. Refute it at one input. -/
def markReadsWrong : ChangeSpec := { name := "markReads", fn := fun _ => fun
  | [d] => { results := [.lit (.bool false)], args := [d] }
  | _ => none }
def MarkReadsWrongFalsely : Prop := markReadsRow.holds Try.pinned (OpenSpec.ofChange markReadsWrong)

/-- 'emissarylaw12.MarkOdd': WHATEVER THE INPUT: true; the input reads as it did. -/
def markOddSpec : ChangeSpec := { name := "markOdd", fn := fun _ => fun
  | [d] => { results := [.lit (.bool true)], args := [d] }
  | _ => none }
def markOddRow : OpenClaim := { program := "ytcbkklfdeloeeaa", sum := "da36f4a503a7156530bc883d23ce9fe8fa2a53f10f2405498da135e3b05cd33f", func := "emissary/emissarylaw12.MarkOdd", spec := "markOdd", unfollowed := true, recurses := true, apart := false }
def MarkOddSaid : Prop := markOddRow.holds Try.pinned (OpenSpec.ofChange markOddSpec)

/-- ITS FALSE NEIGHBOUR: 'it returns false'. Refute it at one input. -/
def markOddWrong : ChangeSpec := { name := "markOdd", fn := fun _ => fun
  | [d] => { results := [.lit (.bool false)], args := [d] }
  | _ => none }
def MarkOddWrongFalsely : Prop := markOddRow.holds Try.pinned (OpenSpec.ofChange markOddWrong)

/- THE SECOND FORM. 'bulk': how many values and letters a reading holds, each counted each time it is reached (what is shared counts as often as it is met; a slice's spare places count too). A statement '..UptoSaid' is the law's where the arguments, and the package variables that the reading takes, are together of bulk at most 1048576: NARROWER than '..Said'. Prove '..Said' where nothing that the law and all that it calls make is longer than what came in: it says more and counts as full. Else prove '..UptoSaid'. A law counts once. -/
mutual
def uptoBulk {H : Type} : DataW H → Nat
  | .lit (.string bytes) => bytes.length + 1
  | .lit _ => 1
  | .nil => 1
  | .ptr d => uptoBulk d + 1
  | .slice elems spare => uptoBulkAll elems + uptoBulkAll spare + 1
  | .agg parts => uptoBulkAll parts + 1
  | .iface _ d => uptoBulk d + 1
  | .map entries => uptoBulkEntries entries + 1
  | .held _ => 1
def uptoBulkAll {H : Type} : List (DataW H) → Nat
  | [] => 0
  | d :: r => uptoBulk d + uptoBulkAll r
def uptoBulkEntries {H : Type} : List (Lit × DataW H) → Nat
  | [] => 0
  | x :: r => uptoBulkEntry x + uptoBulkEntries r
def uptoBulkEntry {H : Type} : Lit × DataW H → Nat
  | (.string bytes, d) => bytes.length + uptoBulk d + 1
  | (_, d) => uptoBulk d + 1
 end
def uptoSmall : (H : Type) → List (DataW H) → Bool := fun _ ds => decide (uptoBulkAll ds ≤ 1048576)
def OpenSpec.upto (s : _root_.Go.ChangeSpec) : _root_.Go.OpenSpec := { _root_.Go.OpenSpec.ofChange s with cond := some uptoSmall }

/-- 'emissarylaw13.CodeHas', WHERE WHAT IT READS IS OF BULK AT MOST 1048576: true; the input reads as it did. -/
def codeHasUptoRow : OpenClaim := { program := "ytcbkklfdeloeeaa", sum := "da36f4a503a7156530bc883d23ce9fe8fa2a53f10f2405498da135e3b05cd33f", func := "emissary/emissarylaw13.CodeHas", spec := "codeHas", unfollowed := true, recurses := true, apart := false, narrowed := true }
def CodeHasUptoSaid : Prop := codeHasUptoRow.holds Try.pinned (OpenSpec.upto codeHasSpec)

/-- 'emissarylaw12.MarkSame', WHERE WHAT IT READS IS OF BULK AT MOST 1048576: true; the input reads as it did. -/
def markSameUptoRow : OpenClaim := { program := "ytcbkklfdeloeeaa", sum := "da36f4a503a7156530bc883d23ce9fe8fa2a53f10f2405498da135e3b05cd33f", func := "emissary/emissarylaw12.MarkSame", spec := "markSame", unfollowed := true, recurses := true, loops := true, apart := false, narrowed := true }
def MarkSameUptoSaid : Prop := markSameUptoRow.holds Try.pinned (OpenSpec.upto markSameSpec)

/-- 'emissarylaw13.CodeReads', WHERE WHAT IT READS IS OF BULK AT MOST 1048576: true; the input reads as it did. -/
def codeReadsUptoRow : OpenClaim := { program := "ytcbkklfdeloeeaa", sum := "da36f4a503a7156530bc883d23ce9fe8fa2a53f10f2405498da135e3b05cd33f", func := "emissary/emissarylaw13.CodeReads", spec := "codeReads", unfollowed := true, recurses := true, apart := false, narrowed := true }
def CodeReadsUptoSaid : Prop := codeReadsUptoRow.holds Try.pinned (OpenSpec.upto codeReadsSpec)

/-- 'emissarylaw13.CodeTurned', WHERE WHAT IT READS IS OF BULK AT MOST 1048576: true; the input reads as it did. -/
def codeTurnedUptoRow : OpenClaim := { program := "ytcbkklfdeloeeaa", sum := "da36f4a503a7156530bc883d23ce9fe8fa2a53f10f2405498da135e3b05cd33f", func := "emissary/emissarylaw13.CodeTurned", spec := "codeTurned", unfollowed := true, recurses := true, apart := false, narrowed := true }
def CodeTurnedUptoSaid : Prop := codeTurnedUptoRow.holds Try.pinned (OpenSpec.upto codeTurnedSpec)

/-- 'emissarylaw13.CodeBytes', WHERE WHAT IT READS IS OF BULK AT MOST 1048576: true; the input reads as it did. -/
def codeBytesUptoRow : OpenClaim := { program := "ytcbkklfdeloeeaa", sum := "da36f4a503a7156530bc883d23ce9fe8fa2a53f10f2405498da135e3b05cd33f", func := "emissary/emissarylaw13.CodeBytes", spec := "codeBytes", unfollowed := true, recurses := true, apart := false, narrowed := true }
def CodeBytesUptoSaid : Prop := codeBytesUptoRow.holds Try.pinned (OpenSpec.upto codeBytesSpec)

/-- 'emissarylaw26.ClientAgain', WHERE WHAT IT READS IS OF BULK AT MOST 1048576: true; the input reads as it did. -/
def clientAgainUptoRow : OpenClaim := { program := "ytcbkklfdeloeeaa", sum := "da36f4a503a7156530bc883d23ce9fe8fa2a53f10f2405498da135e3b05cd33f", func := "emissary/emissarylaw26.ClientAgain", spec := "clientAgain", unfollowed := true, recurses := true, apart := false, narrowed := true }
def ClientAgainUptoSaid : Prop := clientAgainUptoRow.holds Try.pinned (OpenSpec.upto clientAgainSpec)

/-- 'emissarylaw26.ClientLate', WHERE WHAT IT READS IS OF BULK AT MOST 1048576: true; the input reads as it did. -/
def clientLateUptoRow : OpenClaim := { program := "ytcbkklfdeloeeaa", sum := "da36f4a503a7156530bc883d23ce9fe8fa2a53f10f2405498da135e3b05cd33f", func := "emissary/emissarylaw26.ClientLate", spec := "clientLate", unfollowed := true, recurses := true, apart := false, narrowed := true }
def ClientLateUptoSaid : Prop := clientLateUptoRow.holds Try.pinned (OpenSpec.upto clientLateSpec)

/-- 'emissarylaw26.ClientPlays', WHERE WHAT IT READS IS OF BULK AT MOST 1048576: true; the input reads as it did. -/
def clientPlaysUptoRow : OpenClaim := { program := "ytcbkklfdeloeeaa", sum := "da36f4a503a7156530bc883d23ce9fe8fa2a53f10f2405498da135e3b05cd33f", func := "emissary/emissarylaw26.ClientPlays", spec := "clientPlays", unfollowed := true, recurses := true, apart := false, narrowed := true }
def ClientPlaysUptoSaid : Prop := clientPlaysUptoRow.holds Try.pinned (OpenSpec.upto clientPlaysSpec)

/-- 'emissarylaw26.ClientCalls', WHERE WHAT IT READS IS OF BULK AT MOST 1048576: true; the input reads as it did. -/
def clientCallsUptoRow : OpenClaim := { program := "ytcbkklfdeloeeaa", sum := "da36f4a503a7156530bc883d23ce9fe8fa2a53f10f2405498da135e3b05cd33f", func := "emissary/emissarylaw26.ClientCalls", spec := "clientCalls", unfollowed := true, recurses := true, apart := false, narrowed := true }
def ClientCallsUptoSaid : Prop := clientCallsUptoRow.holds Try.pinned (OpenSpec.upto clientCallsSpec)

/-- 'emissarylaw12.MarkBytes', WHERE WHAT IT READS IS OF BULK AT MOST 1048576: true; the input reads as it did. -/
def markBytesUptoRow : OpenClaim := { program := "ytcbkklfdeloeeaa", sum := "da36f4a503a7156530bc883d23ce9fe8fa2a53f10f2405498da135e3b05cd33f", func := "emissary/emissarylaw12.MarkBytes", spec := "markBytes", unfollowed := true, recurses := true, loops := true, apart := false, narrowed := true }
def MarkBytesUptoSaid : Prop := markBytesUptoRow.holds Try.pinned (OpenSpec.upto markBytesSpec)

/-- 'emissarylaw12.MarkReads', WHERE WHAT IT READS IS OF BULK AT MOST 1048576: true; the input reads as it did. -/
def markReadsUptoRow : OpenClaim := { program := "ytcbkklfdeloeeaa", sum := "da36f4a503a7156530bc883d23ce9fe8fa2a53f10f2405498da135e3b05cd33f", func := "emissary/emissarylaw12.MarkReads", spec := "markReads", unfollowed := true, recurses := true, apart := false, narrowed := true }
def MarkReadsUptoSaid : Prop := markReadsUptoRow.holds Try.pinned (OpenSpec.upto markReadsSpec)

/-- 'emissarylaw12.MarkOdd', WHERE WHAT IT READS IS OF BULK AT MOST 1048576: true; the input reads as it did. -/
def markOddUptoRow : OpenClaim := { program := "ytcbkklfdeloeeaa", sum := "da36f4a503a7156530bc883d23ce9fe8fa2a53f10f2405498da135e3b05cd33f", func := "emissary/emissarylaw12.MarkOdd", spec := "markOdd", unfollowed := true, recurses := true, apart := false, narrowed := true }
def MarkOddUptoSaid : Prop := markOddUptoRow.holds Try.pinned (OpenSpec.upto markOddSpec)

end Rows
end Go.Proofs.Ytcbkklfdeloeeaa
