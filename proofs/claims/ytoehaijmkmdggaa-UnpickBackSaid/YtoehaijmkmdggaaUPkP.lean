/- Plain: a value of a type as bytes. -/
import Derived.Test.YtoehaijmkmdggaaURdP
set_option linter.unusedSimpArgs false
set_option linter.unusedVariables false
namespace Go.Proofs.Ytoehaijmkmdggaa
set_option linter.unusedVariables false
namespace Em
/-- The bytes so far, the words of the blocks that came, their types. -/
structure Pk where
  b : List UInt8
  ws : List Int
  ty : List Ty
inductive PkO where
  | ok (s : Pk)
  | err (c : Int)
def Pk.put (s : Pk) (n : Nat) : Pk := ⟨s.b ++ putN n, s.ws, s.ty⟩
/-- A number of so many values; below 0: any. -/
def numK (many w : Int) (s : Pk) : PkO := if ¬ w % 2 = 1 ∨ (0 ≤ many ∧ (w / 2 < 0 ∨ many ≤ w / 2)) then .err 1
  else if many = -1 then .ok (s.put (zig (w / 2))) else if many = 2 then .ok (s.put (w / 2).toNat) else .ok s
def manyOf (o : List UInt8) : Int := if o = wInt then -1 else if o = wBool then 2 else 1
/-- Where a word stands. -/
def posK : List Int → Int → Option Nat
  | [], _ => none
  | a :: t, n => if a = n then some 0 else (posK t n).map (· + 1)
def kidsK (r : Int → Ty → Pk → PkO) (H : Hp) (w : Int) : Nat → List Ty → Pk → PkO
  | _, [], s => .ok s
  | i, t :: ts, s => match r ((field H w (i : Int)).getD 0) t s with
    | .err c => .err c
    | .ok s' => kidsK r H w (i + 1) ts s'
def Pk.come (s : Pk) (w : Int) (t : Ty) (first : Nat) : Pk := ⟨s.b ++ putN first, s.ws ++ [w], s.ty ++ [t]⟩
def blkK (r : Int → Ty → Pk → PkO) (H : Hp) (w : Int) (t : Ty) (first : Nat) (s : Pk) : PkO :=
  if ¬ (blk H w).1 = tagT t.op then .err 1
  else if t.op = wString then (match textH H w with
    | none => .err 1
    | some x => if s.ws.length = 2000 then .err 7 else .ok ⟨(s.come w t first).b ++ putN x.length ++ x, s.ws ++ [w], s.ty ++ [t]⟩)
  else if ¬ (blk H w).2.length = (kidsT t).length then .err 1
  else if s.ws.length = 2000 then .err 7
  else kidsK r H w 0 (kidsT t) (s.come w t first)
def firstOf (o : List UInt8) : Nat := if o = wList then 1 else 0
def valK (H : Hp) : Nat → Int → Ty → Pk → PkO
  | 0, _, _, _ => .err 1
  | f + 1, w, t, s => if isPl t.op then numK (manyOf t.op) w s
    else if t.op = wList ∧ w = 1 then .ok (s.put 0)
    else match posK s.ws w with
      | some i => (match s.ty[i]? with
        | none => .err 1
        | some t' => if eqT t' t = true then .ok (s.put (i + firstOf t.op + 1)) else .err 1)
      | none => blkK (valK H f) H w t (firstOf t.op) s
/-- What Bytes answers. -/
def bytesK (H : Hp) (w : Int) (t : Ty) : List UInt8 × Int :=
  if (isT t && sentT t) = true then (match valK H 2001 w t ⟨[], [], []⟩ with
    | .err c => ([], c)
    | .ok s => if 4000 < s.b.length then ([], 7) else (s.b, 0))
  else ([], 6)
theorem posK_lt {n : Int} : ∀ {l : List Int} {i : Nat}, posK l n = some i → i < l.length ∧ l[i]? = some n
  | [], i, h => by cases h
  | a :: t, i, h => by
    rw [posK] at h
    split at h
    · next e =>
      injection h with h
      subst h
      exact ⟨by simp, by rw [e]; rfl⟩
    · obtain ⟨j, h1, rfl⟩ := Option.map_eq_some_iff.1 h
      obtain ⟨h2, h3⟩ := posK_lt h1
      exact ⟨by simp; omega, by simpa using h3⟩
theorem posK_snoc {n : Int} : ∀ {l : List Int}, posK l n = none → ∀ m, posK (l ++ [n]) m = if m = n then some l.length else posK l m
  | [], h, m => by
    simp only [List.nil_append, posK, List.length_nil]
    by_cases e : n = m
    · rw [if_pos e, if_pos e.symm]
    · rw [if_neg e, if_neg fun h => e h.symm]
      rfl
  | a :: t, h, m => by
    rw [posK] at h
    split at h
    · cases h
    · next e =>
      have h9 := posK_snoc (Option.map_eq_none_iff.1 h) m
      rw [List.cons_append, posK, h9, posK]
      by_cases e2 : a = m
      · rw [if_pos e2, if_pos e2, if_neg fun h => e (by rw [e2, h])]
      · rw [if_neg e2, if_neg e2]
        split <;> simp
/-- How much a value adds at most. -/
def Room (s s' : Pk) : Prop := s.ws.length ≤ s'.ws.length ∧ s'.b.length + 40040 * s.ws.length ≤ s.b.length + 20020 + 40040 * s'.ws.length
end Em
end Go.Proofs.Ytoehaijmkmdggaa
