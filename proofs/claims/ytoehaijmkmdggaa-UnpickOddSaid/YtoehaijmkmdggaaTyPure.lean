/- Plain: types as trees. -/
namespace Go.Proofs.Ytoehaijmkmdggaa.Em
/-- A type: Op, number, kids. -/
inductive Ty where
  | mk (op : List UInt8) (n : Int) (kids : List Ty)
namespace Ty
def op : Ty → List UInt8 | mk o _ _ => o
def n : Ty → Int | mk _ n _ => n
def kids : Ty → List Ty | mk _ _ k => k
end Ty
theorem Ty.eta (t : Ty) : Ty.mk t.op t.n t.kids = t := by cases t; rfl
/-- The words. -/
def wInt : List UInt8 := [105, 110, 116]
def wBool : List UInt8 := [98, 111, 111, 108]
def wUnit : List UInt8 := [117, 110, 105, 116]
def wString : List UInt8 := [115, 116, 114, 105, 110, 103]
def wCell : List UInt8 := [99, 101, 108, 108]
def wVar : List UInt8 := [118, 97, 114]
def wList : List UInt8 := [108, 105, 115, 116]
def wRef : List UInt8 := [114, 101, 102]
def wPair : List UInt8 := [112, 97, 105, 114]
def wFun : List UInt8 := [102, 117, 110]
/-- How many kids an Op has; below 0: there is no such. -/
def kidsOf (o : List UInt8) : Int :=
  if o = wInt ∨ o = wBool ∨ o = wUnit ∨ o = wString ∨ o = wCell ∨ o = wVar then 0
  else if o = wList ∨ o = wRef then 1
  else if o = wPair ∨ o = wFun then 2
  else -1
mutual
/-- How many nodes, but no more than so many. -/
def sz (most : Int) : Ty → Int
  | .mk _ _ ks => szL most 1 ks
def szL (most : Int) (m : Int) : List Ty → Int
  | [] => m
  | k :: ks => if m ≥ most then m else szL most (m + sz (most - m) k) ks
end
mutual
/-- Is each node what its Op says? -/
def okT : Ty → Bool
  | .mk o n ks => !(decide ((ks.length : Int) ≠ kidsOf o) || decide (n < 0) || (decide (o ≠ wVar) && decide (n ≠ 0))) && okL ks
def okL : List Ty → Bool
  | [] => true
  | k :: ks => okT k && okL ks
end
/-- Is it a type? -/
def isT (t : Ty) : Bool := decide (sz 2001 t ≤ 2000) && okT t
mutual
/-- Are two types one? -/
def eqT : Ty → Ty → Bool
  | .mk o n ks, .mk o' n' ks' => decide (o = o') && decide (n = n') && eqL ks ks'
def eqL : List Ty → List Ty → Bool
  | [], [] => true
  | k :: ks, k' :: ks' => eqT k k' && eqL ks ks'
  | _, _ => false
end
mutual
/-- Has it no var and no fun? -/
def sentT : Ty → Bool
  | .mk o _ ks => decide (o ≠ wVar) && decide (o ≠ wFun) && sentL ks
def sentL : List Ty → Bool
  | [] => true
  | k :: ks => sentT k && sentL ks
end
mutual
/-- All vars, behind those that were. -/
def varsT (l : List Int) : Ty → List Int
  | .mk o n ks => varsL (if o = wVar ∧ n ∉ l then l ++ [n] else l) ks
def varsL (l : List Int) : List Ty → List Int
  | [] => l
  | k :: ks => varsL (varsT l k) ks
end
/-- The place of a number in a row; below 0: it is not there. -/
def place (l : List Int) (n : Int) : Int := match l.idxOf? n with
  | some i => (i : Int)
  | none => -1
mutual
/-- A type whose vars are their places in a row. -/
def renT (l : List Int) : Ty → Ty
  | .mk o n ks => if o = wVar then .mk wVar (place l n) [] else .mk o n (renL l ks)
def renL (l : List Int) : List Ty → List Ty
  | [] => []
  | k :: ks => renT l k :: renL l ks
end
def normT (t : Ty) : Ty := renT (varsT [] t) t
theorem szL_ge (most m : Int) (ks : List Ty) (h : m ≥ most) : szL most m ks = m := by
  cases ks with
  | nil => rfl
  | cons k ks => simp [szL, h]
theorem szL_cons (most m : Int) (k : Ty) (ks : List Ty) (h : m < most) : szL most m (k :: ks) = szL most (m + sz (most - m) k) ks := by
  rw [szL, if_neg (by omega)]
mutual
theorem sz_le (most : Int) (t : Ty) (h : 1 ≤ most) : 1 ≤ sz most t ∧ sz most t ≤ most := by
  cases t with
  | mk o n ks =>
    rw [sz]
    exact ⟨szL_lo most 1 ks, szL_le most 1 ks h⟩
theorem szL_le (most m : Int) (ks : List Ty) (h : m ≤ most) : szL most m ks ≤ most := by
  cases ks with
  | nil => simpa [szL] using h
  | cons k ks =>
    rw [szL]
    split
    · exact h
    · have := sz_le (most - m) k (by omega)
      exact szL_le most _ ks (by omega)
theorem szL_lo (most m : Int) (ks : List Ty) : m ≤ szL most m ks := by
  cases ks with
  | nil => simp [szL]
  | cons k ks =>
    rw [szL]
    split
    · exact Int.le_refl _
    · have := sz_le (most - m) k (by omega)
      have := szL_lo most (m + sz (most - m) k) ks
      omega
end
theorem eqT_refl (t : Ty) : eqT t t = true := by
  refine Ty.rec (motive_1 := fun t => eqT t t = true) (motive_2 := fun ks => eqL ks ks = true) ?_ ?_ ?_ t
  · intro o n ks h; simp [eqT, h]
  · rfl
  · intro k ks h1 h2; simp [eqL, h1, h2]
mutual
theorem eqT_eq (a b : Ty) (h : eqT a b = true) : a = b := by
  cases a with
  | mk o n ks =>
    cases b with
    | mk o' n' ks' =>
      simp only [eqT, Bool.and_eq_true, decide_eq_true_eq] at h
      obtain ⟨⟨rfl, rfl⟩, h⟩ := h
      rw [eqL_eq ks ks' h]
theorem eqL_eq (a b : List Ty) (h : eqL a b = true) : a = b := by
  cases a with
  | nil =>
    cases b with
    | nil => rfl
    | cons k ks => simp [eqL] at h
  | cons k ks =>
    cases b with
    | nil => simp [eqL] at h
    | cons k' ks' =>
      simp only [eqL, Bool.and_eq_true] at h
      rw [eqT_eq k k' h.1, eqL_eq ks ks' h.2]
end
theorem eqT_iff (a b : Ty) : eqT a b = true ↔ a = b := ⟨eqT_eq a b, fun h => by rw [h]; exact eqT_refl b⟩
/-- What a node alone owes. -/
def oddN (o : List UInt8) (n : Int) (m : Nat) : Bool := decide ((m : Int) ≠ kidsOf o) || decide (n < 0) || (decide (o ≠ wVar) && decide (n ≠ 0))
theorem okL_all (ks : List Ty) : okL ks = !(ks.any fun k => !okT k) := by
  induction ks with
  | nil => rfl
  | cons k ks ih => simp only [okL, ih, List.any_cons, Bool.not_or, Bool.not_not]
theorem okT_of (t : Ty) : okT t = (!oddN t.op t.n t.kids.length && !(t.kids.any fun k => !okT k)) := by
  cases t with
  | mk o n ks =>
    rw [okT, okL_all]
    rfl
theorem sentL_all (ks : List Ty) : sentL ks = !(ks.any fun k => !sentT k) := by
  induction ks with
  | nil => rfl
  | cons k ks ih => simp only [sentL, ih, List.any_cons, Bool.not_or, Bool.not_not]
theorem sentT_of (t : Ty) : sentT t = (decide (t.op ≠ wVar) && decide (t.op ≠ wFun) && !(t.kids.any fun k => !sentT k)) := by
  cases t with
  | mk o n ks => rw [sentT, sentL_all]; rfl
theorem eqT_of (a b : Ty) : eqT a b = (decide (a.op = b.op) && decide (a.n = b.n) && eqL a.kids b.kids) := by
  cases a; cases b; rfl
theorem eqL_len (a b : List Ty) (h : a.length ≠ b.length) : eqL a b = false := by
  cases hh : eqL a b with
  | false => rfl
  | true => rw [eqL_eq a b hh] at h; exact (h rfl).elim
theorem eqL_drop {a b : List Ty} {j : Nat} (h1 : j < a.length) (h2 : j < b.length) : eqL (a.drop j) (b.drop j) = (eqT a[j] b[j] && eqL (a.drop (j + 1)) (b.drop (j + 1))) := by
  rw [List.drop_eq_getElem_cons h1, List.drop_eq_getElem_cons h2]
  rfl
end Go.Proofs.Ytoehaijmkmdggaa.Em
