/- Rows of structs of the call's own. -/
import Derived.Test.YtoippbbodhchkaaDoorTyB
import Derived.Test.YtoippbbodhchkaaDoorLibR
namespace Go.Proofs.YtoippbbodhchkaaDoor
open Go.RowKit
open Em (Ty)
set_option linter.unusedVariables false
mutual
/-- How many nodes. -/
def nodes : Ty → Nat
  | .mk _ _ ks => 1 + nodesL ks
def nodesL : List Ty → Nat
  | [] => 0
  | k :: ks => nodes k + nodesL ks
end
mutual
theorem sz_nodes (most : Int) (t : Ty) (h : Em.sz most t < most) : Em.sz most t = nodes t := by
  cases t with
  | mk o n ks =>
    rw [Em.sz] at h ⊢
    rw [szL_nodes most 1 ks h, nodes]
    omega
theorem szL_nodes (most m : Int) (ks : List Ty) (h : Em.szL most m ks < most) : Em.szL most m ks = m + nodesL ks := by
  cases ks with
  | nil => simp [Em.szL, nodesL]
  | cons k ks =>
    by_cases hm : m ≥ most
    · rw [Em.szL_ge _ _ _ hm] at h; omega
    · rw [Em.szL_cons _ _ _ _ (by omega)] at h ⊢
      have h1 := Em.szL_lo most (m + Em.sz (most - m) k) ks
      have h2 := sz_nodes (most - m) k (by omega)
      rw [szL_nodes most _ ks h, h2, nodesL]
      omega
end
mutual
theorem vars_nodes (l : List Int) (t : Ty) : (Em.varsT l t).length ≤ l.length + nodes t := by
  cases t with
  | mk o n ks =>
    rw [Em.varsT, nodes]
    split
    · have := varsL_nodes (l ++ [n]) ks
      simp only [List.length_append, List.length_cons, List.length_nil] at this
      omega
    · have := varsL_nodes l ks
      omega
theorem varsL_nodes (l : List Int) (ks : List Ty) : (Em.varsL l ks).length ≤ l.length + nodesL ks := by
  cases ks with
  | nil => exact Nat.le_refl _
  | cons k ks =>
    rw [Em.varsL, nodesL]
    have h1 := vars_nodes l k
    have h2 := varsL_nodes (Em.varsT l k) ks
    omega
end
theorem isT_nodes (t : Ty) (h : Em.isT t = true) : nodes t ≤ 2000 := by
  simp only [Em.isT, Bool.and_eq_true, decide_eq_true_eq] at h
  have := sz_nodes 2001 t (by omega)
  omega
theorem nodesL_len (ks : List Ty) : ks.length ≤ nodesL ks := by
  induction ks with
  | nil => exact Nat.le_refl _
  | cons k ks ih =>
    have : 1 ≤ nodes k := by cases k; rw [nodes]; omega
    rw [nodesL, List.length_cons]
    omega
end Go.Proofs.YtoippbbodhchkaaDoor
