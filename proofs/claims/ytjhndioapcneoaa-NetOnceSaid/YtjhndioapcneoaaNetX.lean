/- Walks: a message more (package net, and the reference): what is pushed. -/
import Derived.Test.YtjhndioapcneoaaNetW
namespace Go.Proofs.Ytjhndioapcneoaa
open Go.RowKit
set_option linter.unusedVariables false
set_option maxRecDepth 100000
theorem infoM : (Try.prog.info? 70).map (fun i => (i.zero, i.size, i.bytes)) = some (some (.agg #[.slice none 0 0, .bool false]), 2, 32) := by kernel_rfl
theorem infoM24 : (Try.prog.info? 73).map (fun i => (i.zero, i.size, i.bytes)) = some (some (.agg #[.slice none 0 0, .bool false]), 2, 32) := by kernel_rfl
/-- A message pushed onto a row, which is not put back yet. -/
def MPush (te tb : TypeId) (w : World) (row : Value) (ms : List (Value × Bool)) (l : List UInt8) (f : Bool) (u : Value) (W : World) (v : Value) : Prop :=
  ∃ Wb, Keep w Wb ∧ Frm (fun k => row.ownBlock = some k) Wb W ∧ (v.ownBlock = row.ownBlock ∨ v.ownBlock = some Wb.heap.size) ∧ W.ownsRow 0 te 2 v (ms ++ [(u, f)]).length ((ms ++ [(u, f)]).map encM).flatten ∧
    Wb.ownsRow 0 tb 1 u l.length (l.map bv) ∧ ∀ k, u.ownBlock = some k → w.heap.size ≤ k
theorem MPush.keep {te tb : TypeId} {w : World} {row : Value} {ms : List (Value × Bool)} {l : List UInt8} {f : Bool} {u v : Value} {W W' : World} (h : MPush te tb w row ms l f u W v) (k : Keep W W') : MPush te tb w row ms l f u W' v := by
  obtain ⟨Wb, h1, h2, h3, h4, h5, h6⟩ := h
  exact ⟨Wb, h1, h2.tr (k.frm _), h3, own_keep h4 k, h5, h6⟩
theorem MPush.mk {te tb : TypeId} {w : World} {row : Value} {ms : List (Value × Bool)} {l : List UInt8} {f : Bool} {u v : Value} {Wb W : World} (k : Keep w Wb) (ho : Wb.ownsRow w.heap.size tb 1 u l.length (l.map bv))
    (h : App Wb 0 te 2 row (ms.length + 1) ((ms.map encM).flatten ++ [u, .bool f]) v W) : MPush te tb w row ms l f u W v := by
  obtain ⟨h1, h2, h3⟩ := h
  refine ⟨Wb, k, Frm.of_grown h2 fun _ e => e, h3, by simpa using h1, own_lower ho (Nat.zero_le _), fun q hq => (World.ownsRow.lt ho q hq).1⟩
/-- What is left when the row is put back. -/
theorem MPush.after {tn te tb : TypeId} {w : World} {p : Nat} {S : Nat → Prop} {vs : Nat → Value} {ms : Nat → List (Value × Bool)} {R : Em.Nt} (h : NRaw tn te tb w p vs ms R) (hS : ∀ x k, atP p vs ms x = some k → S k) (hl : ∀ k, S k → k < w.heap.size) {j : Nat} (hj : j < 2) {l : List UInt8} {f : Bool} {u v : Value} {W : World}
    (hp : MPush te tb w (vs j) (ms j) l f u W v) : After tn te tb w p S (up R j (R j ++ [(l, f)])) (W.setCell ⟨p, j, none⟩ v) := by
  obtain ⟨Wb, k, hF, hv, ho, hu, hn⟩ := hp
  have hb := h.frm (k.frm fun _ => False) fun _ _ _ h => h
  have hpush := hb.push hj hF ho hv hu fun x q hq e => by
    have := hl q (hS x q e)
    have := hn q hq
    omega
  refine hpush.after hl ?_ fun x q hq => ?_
  · exact Frm.st ((k.frm S).tr (hF.mono fun i _ e => hS (.row j) i e)) (.inl (hS .top p rfl)) v
  · cases x with
    | top => exact .inl (hS .top q hq)
    | row i =>
      by_cases e : i = j
      · subst e
        have hq : (up vs i v i).ownBlock = some q := hq
        rw [up_at] at hq
        rcases hv with hv | hv
        · exact .inl (hS (.row i) q (by rw [← hq, hv]; rfl))
        · rw [hv] at hq
          injection hq with hq
          exact .inr (by rw [← hq]; exact k.size)
      · have hq : (up vs j v i).ownBlock = some q := hq
        rw [up_ne _ _ _ e] at hq
        exact .inl (hS (.row i) q hq)
    | msg i m =>
      by_cases e : i = j
      · subst e
        have hq : blk (up ms i (ms i ++ [(u, f)]) i)[m]? = some q := hq
        rw [up_at] at hq
        obtain ⟨x, hx, hq⟩ := blk_some hq
        rcases Nat.lt_or_ge m (ms i).length with hm | hm
        · rw [List.getElem?_append_left hm] at hx
          exact .inl (hS (.msg i m) q (by show blk _ = _; rw [hx]; exact hq))
        · rw [List.getElem?_append_right hm] at hx
          have := List.mem_of_getElem? hx
          simp at this
          subst this
          exact .inr (hn q hq)
      · have hq : blk (up ms j (ms j ++ [(u, f)]) i)[m]? = some q := hq
        rw [up_ne _ _ _ e] at hq
        exact .inl (hS (.msg i m) q hq)
/-- The top is where it was, when a row was pushed. -/
theorem MPush.top {tn te tb : TypeId} {w : World} {p : Nat} {vs : Nat → Value} {ms : Nat → List (Value × Bool)} {R : Em.Nt} (h : NRaw tn te tb w p vs ms R) {j : Nat} {l : List UInt8} {f : Bool} {u v : Value} {W : World} (hp : MPush te tb w (vs j) (ms j) l f u W v) : W.heap[p]? = some (.cells #[vs 0, vs 1] tn) := by
  obtain ⟨Wb, k, hF, _⟩ := hp
  exact hF.heap (fun e => by
    have := h.inj .top (.row j) p rfl e
    cases this) ((k.frm fun _ => False).heap (fun h => h) h.top)
theorem one_pair (u : Value) (f : Bool) (hu : ∃ A n c, u = .slice A n c) : ∀ x ∈ [u, .bool f], x.oneCell' = true := by
  obtain ⟨A, n, c, rfl⟩ := hu
  intro x hx
  simp only [List.mem_cons, List.not_mem_nil, or_false] at hx
  rcases hx with rfl | rfl <;> rfl
theorem src_pair {W : World} {g : Nat} {u : Value} {f : Bool} {t : TypeId} (h : W.heap[g]? = some (.cells #[u, .bool f] t)) : Src W 2 (.slice (some ⟨g, 0, none⟩) 1 1) 1 [u, .bool f] :=
  ⟨rfl, _, _, rfl, fun _ => ⟨_, rfl, fun j x hx => by
    rw [add_pl, top_cells h, List.getElem?_toArray]
    exact hx⟩⟩
end Go.Proofs.Ytjhndioapcneoaa
