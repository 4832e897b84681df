/- Types in memory, with the blocks where their rows lie. -/
import Derived.Test.YtoippbbodhchkaaDoorTyO
import Derived.Test.YtoippbbodhchkaaDoorLibR
namespace Go.Proofs.YtoippbbodhchkaaDoor
open Go.RowKit
open Em (Ty)
set_option linter.unusedVariables false
set_option maxRecDepth 100000
/-- A type's cells, so deep at most, whose rows lie in S. -/
def TyF (S : Nat → Prop) : Nat → World → List Value → Ty → Prop
  | 0, _, _, _ => False
  | d + 1, w, cs, t => ∃ v, cs = [.string (str t.op), .int .i64 t.n, v] ∧ (Lit.int .i64 t.n).wf = true ∧ (∀ k, v.ownBlock = some k → S k) ∧ Sl 3 (TyF S d) w v t.kids
theorem TyF.ty : ∀ {S : Nat → Prop} {d : Nat} {w : World} {cs : List Value} {t : Ty}, TyF S d w cs t → TyK d w cs t
  | _, 0, _, _, _, h => h
  | S, d + 1, w, cs, t, ⟨v, h1, h2, _, h3⟩ => ⟨v, h1, h2, h3.mono fun _ _ h => TyF.ty h⟩
theorem TyF.mono : ∀ {S S' : Nat → Prop} {d : Nat} {w : World} {cs : List Value} {t : Ty}, TyF S d w cs t → (∀ k, S k → S' k) → TyF S' d w cs t
  | _, _, 0, _, _, _, h, _ => h
  | S, S', d + 1, w, cs, t, ⟨v, h1, h2, h4, h3⟩, hs => ⟨v, h1, h2, fun k hk => hs k (h4 k hk), h3.mono fun _ _ h => TyF.mono h hs⟩
theorem TyF.frm : ∀ {S T : Nat → Prop} {d : Nat} {w w' : World} {cs : List Value} {t : Ty}, TyF S d w cs t → Frm T w w' → (∀ k, S k → ¬ T k) → TyF S d w' cs t
  | _, _, 0, _, _, _, _, h, _, _ => h
  | S, T, d + 1, w, w', cs, t, ⟨v, h1, h2, h4, A, c, e, g1, g2, g3⟩, k, hs =>
    ⟨v, h1, h2, h4, A, c, e, g1, g2, fun hp => (g3 hp).imp fun ad ⟨ea, hc⟩ => ⟨ea, fun j hj => (hc j hj).imp fun cs ⟨hl, hcell, hk⟩ => ⟨hl, fun i u hu => k.cell (fun ht => hs ad.block (h4 ad.block (by rw [e, ea]; rfl)) (by
      have : (ad.add (j * 3 + i)).block = ad.block := by unfold Addr.add; split <;> rfl
      rwa [this] at ht)) (hcell i u hu), TyF.frm hk k hs⟩⟩⟩
theorem TyF.succ : ∀ {S : Nat → Prop} {d : Nat} {w : World} {cs : List Value} {t : Ty}, TyF S d w cs t → TyF S (d + 1) w cs t
  | _, 0, _, _, _, h => h.elim
  | S, d + 1, w, cs, t, ⟨v, h1, h2, h4, h3⟩ => ⟨v, h1, h2, h4, h3.mono fun _ _ h => TyF.succ h⟩
theorem renL_map (L : List Int) : ∀ ks : List Ty, Em.renL L ks = ks.map (Em.renT L)
  | [] => rfl
  | k :: ks => by rw [Em.renL, renL_map L ks]; rfl
/-- A row of types of the call's own, whose kids lie elsewhere. -/
structure Row3 (w5 W : World) (v : Value) (css : List (List Value)) (d : Nat) (ts : List Ty) : Prop where
  own : W.ownsRow w5.heap.size 24 3 v css.length css.flatten
  len : css.length = ts.length
  three : ∀ cs ∈ css, cs.length = 3
  tys : ∀ (i : Nat) (h : i < css.length) (h' : i < ts.length), TyF (fun k => w5.heap.size ≤ k ∧ k < W.heap.size ∧ v.ownBlock ≠ some k) d W css[i] ts[i]
theorem Row3.nil (w5 W : World) (d : Nat) : Row3 w5 W (.slice none 0 0) [] d [] := ⟨⟨by simp, .inl ⟨rfl, rfl⟩⟩, rfl, by simp, fun i h => by simp at h⟩
theorem Row3.frm {w5 W W' : World} {v : Value} {css : List (List Value)} {d : Nat} {ts : List Ty} {T : Nat → Prop} (h : Row3 w5 W v css d ts) (k : Frm T W W') (hT : ∀ i, T i → i < w5.heap.size) : Row3 w5 W' v css d ts where
  own := k.own h.own fun q hq ht => by have := (World.ownsRow.lt h.own q hq).1; have := hT q ht; omega
  len := h.len
  three := h.three
  tys := fun i h1 h2 => ((h.tys i h1 h2).frm k fun q hq ht => by have := hT q ht; omega).mono fun q hq => ⟨hq.1, Nat.lt_of_lt_of_le hq.2.1 k.size, hq.2.2⟩
theorem Row3.keep {w5 W W' : World} {v : Value} {css : List (List Value)} {d : Nat} {ts : List Ty} (h : Row3 w5 W v css d ts) (k : Keep W W') : Row3 w5 W' v css d ts := h.frm (k.frm fun _ => False) fun _ h => h.elim
/-- One more, behind the others. -/
theorem Row3.push {w5 Wb W' : World} {v v' : Value} {css : List (List Value)} {d : Nat} {ts : List Ty} {cs : List Value} {t : Ty} {S : Nat → Prop} (h : Row3 w5 Wb v css d ts) (hc : cs.length = 3) (ht : TyF S d Wb cs t) (hS : ∀ k, S k → w5.heap.size ≤ k ∧ k < Wb.heap.size ∧ v.ownBlock ≠ some k)
    (ha : App Wb w5.heap.size 24 3 v (css.length + 1) (css.flatten ++ cs) v' W') : Row3 w5 W' v' (css ++ [cs]) d (ts ++ [t]) := by
  obtain ⟨a1, a2, a3⟩ := ha
  have hF : Frm (fun k => v.ownBlock = some k) Wb W' := Frm.of_grown a2 fun _ e => e
  have hv : ∀ k, k < Wb.heap.size → v.ownBlock ≠ some k → v'.ownBlock ≠ some k := fun k hk hn e => by
    rcases a3 with a3 | a3
    · exact hn (by rw [← a3, e])
    · rw [a3] at e
      injection e with e
      omega
  refine ⟨by simpa using a1, by simp [h.len], fun c hm => ?_, fun i h1 h2 => ?_⟩
  · rcases List.mem_append.1 hm with hm | hm
    · exact h.three c hm
    · rw [List.mem_singleton.1 hm]
      exact hc
  · rcases Nat.lt_or_ge i css.length with hi | hi
    · rw [List.getElem_append_left hi, List.getElem_append_left (by have := h.len; omega)]
      exact ((h.tys i hi (by have := h.len; omega)).frm hF fun k hk e => hk.2.2 e).mono fun k hk => ⟨hk.1, Nat.lt_of_lt_of_le hk.2.1 hF.size, hv k hk.2.1 hk.2.2⟩
    · have hi2 : i = css.length := by simp at h1; omega
      subst hi2
      have hl := h.len
      rw [List.getElem_append_right (Nat.le_refl _), List.getElem_append_right (by omega)]
      simp only [Nat.sub_self, show css.length - ts.length = 0 by omega, List.getElem_singleton]
      exact (ht.frm hF fun k hk e => (hS k hk).2.2 e).mono fun k hk => ⟨(hS k hk).1, Nat.lt_of_lt_of_le (hS k hk).2.1 hF.size, hv k (hS k hk).2.1 (hS k hk).2.2⟩
/-- The row, read as types. -/
theorem Row3.sl {w5 W : World} {v : Value} {css : List (List Value)} {d : Nat} {ts : List Ty} (h : Row3 w5 W v css d ts) : Sl 3 (TyF (fun k => w5.heap.size ≤ k ∧ k < W.heap.size) d) W v ts :=
  sl_of_own h.own h.len h.len h.three fun j h1 h2 => (h.tys j h1 h2).mono fun k hk => ⟨hk.1, hk.2.1⟩
end Go.Proofs.YtoippbbodhchkaaDoor
