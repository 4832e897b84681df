/- Plain: a bad network as rows of messages. -/
import Derived.Test.YtjhndioapcneoaaLib
namespace Go.Proofs.Ytjhndioapcneoaa
/-- f, but x at j. -/
def up {α : Type} (f : Nat → α) (j : Nat) (x : α) : Nat → α := fun i => if i = j then x else f i
theorem up_at {α : Type} (f : Nat → α) (j : Nat) (x : α) : up f j x j = x := if_pos rfl
theorem up_ne {α : Type} (f : Nat → α) (j : Nat) (x : α) {i : Nat} (h : i ≠ j) : up f j x i = f i := if_neg h
namespace Em
/-- A message: bytes, was it spoiled? -/
abbrev Msg := List UInt8 × Bool
abbrev Nt := Nat → List Msg
def way (w : Int) : Bool := decide (w = 0 ∨ w = 1)
def Nt.row (n : Nt) (w : Int) : List Msg := n w.toNat
def Nt.has (n : Nt) (w i : Int) : Bool := decide ((w = 0 ∨ w = 1) ∧ 0 ≤ i ∧ i < ((n.row w).length : Int))
def Nt.room (n : Nt) (w : Int) : Bool := decide ((w = 0 ∨ w = 1) ∧ (n.row w).length < 64)
def Nt.len (n : Nt) (w : Int) : Nat := if w = 0 ∨ w = 1 then (n.row w).length else 0
def Nt.put (n : Nt) (w : Int) (l : List Msg) : Nt := up n w.toNat l
def Nt.at (n : Nt) (w i : Int) : Msg := (n.row w).getD i.toNat ([], false)
def Nt.send (n : Nt) (w : Int) (m : List UInt8) : Nt := if n.room w then n.put w (n.row w ++ [(m, false)]) else n
def Nt.take (n : Nt) (w i : Int) : Nt := if n.has w i then n.put w ((n.row w).eraseIdx i.toNat) else n
def Nt.got (n : Nt) (w i : Int) : List UInt8 := if n.has w i then (n.at w i).1 else []
def Nt.twice (n : Nt) (w i : Int) : Nt := if n.has w i && n.room w then n.put w (n.row w ++ [n.at w i]) else n
/-- One byte turned. -/
def turn (m : List UInt8) (at_ : Int) (by_ : UInt8) : List UInt8 := m.set (at_ % (m.length : Int)).toNat (m.getD (at_ % (m.length : Int)).toNat 0 ^^^ by_)
def Nt.spoils (n : Nt) (w i : Int) : Bool := n.has w i && (!(n.at w i).2 && decide (0 < (n.at w i).1.length))
def Nt.spoil (n : Nt) (w i at_ : Int) (by_ : UInt8) : Nt := if n.spoils w i then n.put w ((n.row w).set i.toNat (turn (n.at w i).1 at_ by_, true)) else n
end Em
end Go.Proofs.Ytjhndioapcneoaa
