/- Walks: a type with its vars renamed (package typ): a var alone. -/
import Derived.Test.YtoippbbodhchkaaDoorTyN
namespace Go.Proofs.YtoippbbodhchkaaDoor
open Go.RowKit
open Em (Ty)
set_option linter.unusedVariables false
set_option maxRecDepth 100000
theorem place_bound (L : List Int) (n : Int) : -1 ≤ Em.place L n ∧ Em.place L n < L.length ∨ Em.place L n = -1 := by
  unfold Em.place
  cases h : L.idxOf? n with
  | none => exact .inr rfl
  | some i =>
    have : i < L.length := by
      rw [List.idxOf?, List.findIdx?_eq_some_iff_getElem] at h
      exact h.1
    exact .inl ⟨by simp only; omega, by simpa using this⟩
set_option maxHeartbeats 2000000 in
theorem renamedVar (d : Nat) (t : Ty) (w : World) (cs : List Value) (L : List Int) (v : Value) (h : TyK (d + 1) w cs t) (hI : Is w v L) (ho : t.op = Em.wVar) : Calls Tryd.prog 42 #[.agg cs.toArray, v] w fun e w' => e = .returned (.agg #[.string (str Em.wVar), .int .i64 (Em.place L t.n), .slice none 0 0]) ∧ Keep w w' := by
  obtain ⟨kv, rfl, hn, A, c, rfl, _⟩ := h
  have h1c : (str t.op).toList = [118, 97, 114] := by rw [str_list, ho]; rfl
  clear ho
  have HC := hide (fun W (k : Keep w W) => tyIndex L t.n W v (hI.keep k))
  obtain ⟨vA, vc, rfl, _⟩ := hI
  simp only [List.length_map] at HC ⊢
  generalize t.op = o at *
  generalize t.n = n at *
  generalize t.kids = ks at *
  generalize Em.place L n = p at *
  go_enter Tryd.func42, Tryd.ntmps42
  go_wp2_with fail
  refine (HC.out _ (by repeat (first | exact Keep.rf _ | assumption | apply Keep.al | apply Keep.dr | apply Keep.dn))).mono ?_
  rintro e w' ⟨rfl, rfl⟩
  go_wp2
  refine bodyPost_ret_by (results_cell_row rfl _ _ (w.heap.size + 1) 24 _ (0, 0) _ rfl (by simpa using heap_alloc_new (w.alloc _) _) Tryd.underlying24 rfl ?_) rfl ⟨?_, ?_⟩
  · kernel_rfl
  · rfl
  · exact (by repeat (first | exact Keep.rf _ | assumption | apply Keep.al | apply Keep.dr | apply Keep.dn))
end Go.Proofs.YtoippbbodhchkaaDoor
