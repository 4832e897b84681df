/- What a client's request and a reply are, in plain Lean. -/
import Derived.Test.YtcbkklfdeloeeaaFramePure
namespace Go.Proofs.Ytcbkklfdeloeeaa
set_option linter.unusedVariables false
namespace Em
/-- May a call be? -/
def isC (e s : Int) : Bool := decide (0 ≤ e) && (decide (e ≤ 2147483647) && (decide (0 ≤ s) && decide (s ≤ 2147483647)))
def be8 (m : Nat) : List UInt8 := [UInt8.ofNat (m / 72057594037927936), UInt8.ofNat (m / 281474976710656), UInt8.ofNat (m / 1099511627776), UInt8.ofNat (m / 4294967296), UInt8.ofNat (m / 16777216), UInt8.ofNat (m / 65536), UInt8.ofNat (m / 256), UInt8.ofNat m]
theorem be8_len (m : Nat) : (be8 m).length = 8 := rfl
/-- A request's body. -/
def reqB (e s m : Nat) (l : List UInt8) : List UInt8 := putN e ++ putN s ++ be8 m ++ l
/-- A request. -/
def req (e s : Int) (m : Nat) (l : List UInt8) : Option (List UInt8) := if isC e s = true ∧ (reqB e.toNat s.toNat m l).length ≤ 4000 then some (frame 1 (reqB e.toNat s.toNat m l)) else none
/-- A number below 2^31 that comes next, and what is left. -/
def num31 (l : List UInt8) : Option (Nat × List UInt8) := match getN l with
  | some (v, n) => if v < 2147483648 then some (v, l.drop n) else none
  | none => none
/-- A whole frame of a kind: its body. -/
def whole (k : UInt8) (l : List UInt8) : Option (List UInt8) := match getF l with
  | some (k', b, n) => if k' = k ∧ n = l.length then some b else none
  | none => none
/-- A call that comes next, and what is left. -/
def callR (l : List UInt8) : Option ((Nat × Nat) × List UInt8) := (num31 l).bind fun x => (num31 x.2).bind fun y => some ((x.1, y.1), y.2)
/-- A reply. -/
def ansB (l : List UInt8) : Option ((Nat × Nat) × Nat × List UInt8) := (callR l).bind fun x => (num31 x.2).bind fun y => if y.1 ≤ 12 ∧ (y.1 = 0 ∨ y.2 = []) then some (x.1, y.1, y.2) else none
def ans (l : List UInt8) : Option ((Nat × Nat) × Nat × List UInt8) := (whole 2 l).bind ansB
end Em
end Go.Proofs.Ytcbkklfdeloeeaa
