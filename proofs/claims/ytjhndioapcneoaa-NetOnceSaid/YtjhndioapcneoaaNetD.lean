/- Walks: one element less (slices.Delete). -/
import Derived.Test.YtjhndioapcneoaaNetX
import Derived.Lib.SliceRun
import Derived.Deep.RegionLaw
import Derived.Deep.Upon
import Derived.Lib.Walk
namespace Go.Proofs.Ytjhndioapcneoaa
open Go.RowKit
set_option linter.unusedVariables false
set_option maxRecDepth 100000
theorem flat_take (sz : Nat) (css : List (List Value)) (h3 : ∀ cs ∈ css, cs.length = sz) (i : Nat) : (css.take i).flatten = css.flatten.take (i * sz) := by
  induction css generalizing i with
  | nil => simp
  | cons c cs ih =>
    have hc := h3 c (by simp)
    cases i with
    | zero => simp
    | succ i =>
      rw [List.take_succ_cons, List.flatten_cons, List.flatten_cons, ih (fun x hx => h3 x (by simp [hx])), Nat.succ_mul, List.take_append, hc, show c.take (i * sz + sz) = c from List.take_of_length_le (by rw [hc]; exact Nat.le_add_left _ _), Nat.add_sub_cancel]
theorem flat_drop (sz : Nat) (css : List (List Value)) (h3 : ∀ cs ∈ css, cs.length = sz) (i : Nat) : (css.drop i).flatten = css.flatten.drop (i * sz) := by
  induction css generalizing i with
  | nil => simp
  | cons c cs ih =>
    have hc := h3 c (by simp)
    cases i with
    | zero => simp
    | succ i =>
      rw [List.drop_succ_cons, List.flatten_cons, ih (fun x hx => h3 x (by simp [hx])), Nat.succ_mul, List.drop_append, hc, show c.drop (i * sz + sz) = [] from List.drop_of_length_le (by rw [hc]; exact Nat.le_add_left _ _), Nat.add_sub_cancel, List.nil_append]
/-- Some cells written over. -/
def layL (cs : List Value) (o : Nat) (vs : List Value) : List Value := cs.take o ++ vs ++ cs.drop (o + vs.length)
theorem layL_len (cs : List Value) (o : Nat) (vs : List Value) (h : o + vs.length ≤ cs.length) : (layL cs o vs).length = cs.length := by
  simp only [layL, List.length_append, List.length_take, List.length_drop]
  omega
theorem layL_cons (cs : List Value) (o : Nat) (v : Value) (r : List Value) (h : o + (r.length + 1) ≤ cs.length) : layL (cs.set o v) (o + 1) r = layL cs o (v :: r) := by
  have h1 : (cs.set o v).take (o + 1) = cs.take o ++ [v] := by
    rw [List.take_succ_eq_append_getElem (by rw [List.length_set]; omega), List.take_set, List.getElem_set_self]
    rw [List.set_eq_of_length_le (by rw [List.length_take]; omega)]
  have h2 : (cs.set o v).drop (o + 1 + r.length) = cs.drop (o + (r.length + 1)) := by
    rw [List.drop_set, if_pos (by omega), show o + 1 + r.length = o + (r.length + 1) by omega]
  rw [layL, h1, h2, layL, List.length_cons]
  simp
theorem heap_setCells {e : TypeId} (g : Nat) : ∀ (vs : List Value) (o : Nat) (w : World) (cur : Array Value), w.heap[g]? = some (.cells cur e) → o + vs.length ≤ cur.size → (w.setCells g o vs).heap[g]? = some (.cells (layL cur.toList o vs).toArray e)
  | [], o, w, cur, h, _ => by simpa [World.setCells, layL] using h
  | v :: r, o, w, cur, h, hl => by
    rw [World.setCells]
    simp only [List.length_cons] at hl
    rw [heap_setCells g r (o + 1) _ _ (heap_set1 h v) (by simpa using (by omega : o + 1 + r.length ≤ cur.size))]
    rw [Array.toList_setIfInBounds, layL_cons _ _ _ _ (by simpa using hl)]
theorem Frm.sts {S : Nat → Prop} {a w : World} (h : Frm S a w) {g : Nat} (hg : S g) : ∀ (vs : List Value) (o : Nat), Frm S a (w.setCells g o vs) := by
  intro vs
  induction vs generalizing w with
  | nil => intro o; exact h
  | cons v r ih =>
    intro o
    rw [World.setCells]
    exact ih (h.st (p := ⟨g, o, none⟩) (.inl hg) v) (o + 1)
theorem cell_in {w : World} {g : Nat} {cur : Array Value} {e : TypeId} (h : w.heap[g]? = some (.cells cur e)) {j : Nat} (hj : j < cur.size) : (w.cell? ⟨g, j, none⟩).isSome = true := by
  rw [top_cells h, Array.getElem?_eq_getElem hj]
  rfl
theorem run_clear2 {P : Program} (w : World) (t e ty : TypeId) (z : Value) (zs : List Value) (ht : P.underlying t = some (.slice e)) (hv : ∀ w, (zeroValue e).run P w = .ok z w) (hz : z.cells = zs.toArray) (h1 : ∀ u ∈ zs, u.oneCell' = true) (b o c : Nat)
    (hc : ∀ j, j < zs.length → (w.cell? ⟨b, o + j, none⟩).isSome = true) (hf : ∀ j, j < zs.length → w.frozen? ⟨b, o + j, none⟩ = false) :
    (Builtin.clear_ #[t] ty #[.slice (some ⟨b, o, none⟩) 1 c]).run P w = .ok (.tuple #[]) (w.setCells b o zs) := by
  have hzc : (Builtin.zeroCells z.cells 1).toList = zs := by
    rw [hz]
    simp [Builtin.zeroCells]
    apply List.ext_getElem
    · simp
    · intro i h1 h2
      simp only [List.getElem_map, List.getElem_range]
      rw [Nat.mod_eq_of_lt h2, List.getElem?_eq_getElem h2]
      rfl
  have hst := run_storeCells_cells (P := P) b o zs 0 w (by simpa using hc) (by simpa using hf) (by intro v hv'; exact h1 v hv')
  simp only [Nat.add_zero] at hst
  simp [Builtin.clear_, run_underlying ht, hv, hzc, hst]
theorem encM_two (ms : List (Value × Bool)) : ∀ cs ∈ ms.map encM, cs.length = 2 := by
  intro cs h
  obtain ⟨m, _, rfl⟩ := List.mem_map.1 h
  rfl
theorem erase_flat (ms : List (Value × Bool)) (i : Nat) : ((ms.eraseIdx i).map encM).flatten = (ms.map encM).flatten.take (i * 2) ++ (ms.map encM).flatten.drop ((i + 1) * 2) := by
  rw [List.eraseIdx_eq_take_drop_succ, List.map_append, List.flatten_append, List.map_take, List.map_drop, flat_take 2 _ (encM_two ms), flat_drop 2 _ (encM_two ms)]
/-- The cells of a row, one element less in place, and the last one cleared. -/
theorem layL_erase (cur flat zs : List Value) (n i : Nat) (hi : i < n) (hf : flat = cur.take (n * 2)) (hl : n * 2 ≤ cur.length) (hz : zs.length = 2) :
    (layL (layL cur (i * 2) (flat.drop ((i + 1) * 2))) ((n - 1) * 2) zs).take ((n - 1) * 2) = flat.take (i * 2) ++ flat.drop ((i + 1) * 2) := by
  have hfl : flat.length = n * 2 := by rw [hf, List.length_take]; omega
  have h1 : (layL cur (i * 2) (flat.drop ((i + 1) * 2))).length = cur.length := layL_len _ _ _ (by rw [List.length_drop]; omega)
  rw [layL, List.append_assoc, List.take_append_of_le_length (by rw [List.length_take, h1]; omega), List.take_take, Nat.min_self, layL, List.append_assoc, List.take_append, List.take_append]
  have h2 : (cur.take (i * 2)).length = i * 2 := by rw [List.length_take]; omega
  have h3 : (flat.drop ((i + 1) * 2)).length = (n - 1) * 2 - i * 2 := by rw [List.length_drop]; omega
  rw [h2, h3, show (List.take ((n - 1) * 2 - i * 2 - ((n - 1) * 2 - i * 2)) (cur.drop (i * 2 + ((n - 1) * 2 - i * 2)))) = [] by rw [Nat.sub_self, List.take_zero], List.append_nil, show (cur.take (i * 2)).take ((n - 1) * 2) = cur.take (i * 2) from List.take_of_length_le (by rw [h2]; omega), show (flat.drop ((i + 1) * 2)).take ((n - 1) * 2 - i * 2) = flat.drop ((i + 1) * 2) from List.take_of_length_le (by rw [h3]; omega)]
  congr 1
  rw [hf, List.take_take, Nat.min_eq_left (by omega)]
theorem msgZero (w : World) : (zeroValue 70).run Try.prog w = .ok (.agg #[.slice none 0 0, .bool false]) w := by kernel_rfl
set_option maxHeartbeats 4000000 in
theorem netDelete (w : World) (v : Value) (ms : List (Value × Bool)) (i : Nat) (h : w.ownsRow 0 70 2 v ms.length (ms.map encM).flatten) (h1 : ∀ m ∈ ms, m.1.oneCell' = true) (hi : i < ms.length) :
    Calls Try.prog 43 #[v, .int .i64 i, .int .i64 (i + 1)] w fun e w' => ∃ v', e = .returned v' ∧ w'.ownsRow 0 70 2 v' (ms.eraseIdx i).length ((ms.eraseIdx i).map encM).flatten ∧ v'.ownBlock = v.ownBlock ∧ Frm (fun k => v.ownBlock = some k) w w' := by
  have hfl : (ms.map encM).flatten.length = ms.length * 2 := by rw [flat_len 2 _ (encM_two ms), List.length_map]
  have hone : ∀ u ∈ (ms.map encM).flatten, u.oneCell' = true := by
    intro u hu
    obtain ⟨cs, hcs, hu⟩ := List.mem_flatten.1 hu
    obtain ⟨m, hm, rfl⟩ := List.mem_map.1 hcs
    simp only [encM, List.mem_cons, List.not_mem_nil, or_false] at hu
    rcases hu with rfl | rfl
    · exact h1 m hm
    · rfl
  have her := erase_flat ms i
  have hel : (ms.eraseIdx i).length = ms.length - 1 := by rw [List.length_eraseIdx, if_pos hi]
  obtain ⟨-, hr⟩ := h
  rcases hr with ⟨rfl, h0⟩ | ⟨g, cap, cur, rfl, hg, hh, h2, h3, h4, h5⟩
  · omega
  rw [her, hel]
  clear her hel h1
  generalize ms.length = n at *
  generalize (ms.map encM).flatten = flat at *
  obtain ⟨news, hnews⟩ : ∃ news, news = flat.drop ((i + 1) * 2) := ⟨_, rfl⟩
  have hnl : news.length = (n - (i + 1)) * 2 := by rw [hnews, List.length_drop]; omega
  have hcell : ∀ (j : Nat) (x : Value), flat[j]? = some x → w.drew.cell? ⟨g, j, none⟩ = some x := by
    intro j x hx
    have hj := (List.getElem?_eq_some_iff.1 hx).1
    show w.cell? _ = _
    rw [top_cells hh, ← Array.getElem?_toList, ← hx, ← h5, List.getElem?_take, if_pos (by omega)]
  have hfz : ∀ j, w.drew.frozen? ⟨g, j, none⟩ = false := fun j => top_free hh j
  have hic : i ≤ cap := by omega
  have hic2 : i + 1 ≤ cap := by omega
  go_enter Try.func43, Try.ntmps43
  obtain ⟨A, hA, hsrc⟩ : ∃ A : Addr, (if cap = i + 1 then (some ⟨g, 0, none⟩ : Option Addr) else some ⟨g, (i + 1) * 2, none⟩) = some A ∧ Hid (∀ t u, news[t]? = some u → w.drew.cell? (A.add t) = some u) := by
    by_cases hc : cap = i + 1
    · refine ⟨⟨g, 0, none⟩, by simp [hc], fun t u hu => ?_⟩
      have : news = [] := List.eq_nil_of_length_eq_zero (by rw [hnl]; omega)
      rw [this] at hu
      simp at hu
    · refine ⟨⟨g, (i + 1) * 2, none⟩, by simp [hc], fun t u hu => ?_⟩
      rw [hnews, List.getElem?_drop] at hu
      have := hcell _ u hu
      by_cases h0 : t = 0
      · subst h0
        simpa [Addr.add] using this
      · simpa [Addr.add, h0] using this
  have s1 : Hid (news.length = (n - (i + 1)) * 2) := hnl
  have s2 : Hid (∀ u ∈ news, u.oneCell' = true) := fun u hu => hone u (by rw [hnews] at hu; exact List.mem_of_mem_drop hu)
  have s3 : Hid (∀ t, t < news.length → (w.drew.cell? ⟨g, 0 + i * 2 + t, none⟩).isSome = true ∧ w.drew.frozen? ⟨g, 0 + i * 2 + t, none⟩ = false) := fun t ht => ⟨cell_in (w := w.drew) hh (by omega), hfz _⟩
  obtain ⟨W1, hW1⟩ : ∃ W1, W1 = w.drew.setCells g (0 + i * 2) news := ⟨_, rfl⟩
  have hW : Hid (W1 = w.drew.setCells g (0 + i * 2) news) := hW1
  have hH1 : W1.heap[g]? = some (.cells (layL cur.toList (i * 2) news).toArray 70) := by
    have := heap_setCells g news (0 + i * 2) w.drew cur hh (by omega)
    rw [hW1, this, Nat.zero_add]
  have hF1 : Frm (· = g) w W1 := by
    rw [hW1]
    exact Frm.sts (Frm.dr (Frm.rf _ w)) (S := (· = g)) rfl _ _
  have hlay : (layL cur.toList (i * 2) news).length = cap * 2 := by rw [layL_len _ _ _ (by simp; omega)]; simpa using h4
  have hcl : ∀ ty c, (Builtin.clear_ #[64] ty #[.slice (some ⟨g, (n - 1) * 2, none⟩) 1 c]).run Try.prog W1 = .ok (.tuple #[]) (W1.setCells g ((n - 1) * 2) [.slice none 0 0, .bool false]) := fun ty c =>
    run_clear2 W1 _ _ ty _ _ Try.underlying64 msgZero rfl (by intro u hu; simp only [List.mem_cons, List.not_mem_nil, or_false] at hu; rcases hu with rfl | rfl <;> rfl) g ((n - 1) * 2) c
      (fun j hj => cell_in hH1 (by simp only [List.length_cons, List.length_nil] at hj; simp only [List.size_toArray, hlay]; omega)) (fun j hj => top_free hH1 _)
  have hH2 := heap_setCells g [.slice none 0 0, .bool false] ((n - 1) * 2) W1 _ hH1 (by simp only [List.size_toArray, hlay, List.length_cons, List.length_nil]; omega)
  have hF2 : Frm (· = g) w (W1.setCells g ((n - 1) * 2) [.slice none 0 0, .bool false]) := Frm.sts hF1 (S := (· = g)) rfl _ _
  have HH := hide hH2
  have HF := hide hF2
  have HLAY := hide (layL_erase cur.toList flat [.slice none 0 0, .bool false] n i hi h5.symm (by simp; omega) rfl)
  have HL2 := hide (show (layL (layL cur.toList (i * 2) (flat.drop ((i + 1) * 2))) ((n - 1) * 2) [.slice none 0 0, .bool false]).length = cap * 2 from by
    rw [← hnews, layL_len _ _ _ (by rw [hlay]; simp; omega), hlay])
  obtain ⟨i0, hi0, hzz⟩ := Option.map_eq_some_iff.1 infoM
  simp only [Prod.mk.injEq] at hzz
  obtain ⟨-, hz1, -⟩ := hzz
  clear hone hcell hfz hW1 hH1 hF1 hlay hH2 hF2
  have hb1 : (0 : Int) ≤ (i : Int) + 1 := by omega
  have hb2 : (i : Int) + 1 ≤ (n : Int) := by omega
  go_wp2_with fail
  go_region_law (refine step_append_room rfl (.tmp 22) (.tmp 25) 64 rfl 70 i0 2 Try.underlying64 hi0 hz1 g 0 i cap (by simp [Act.eval, Act.put]) A (n - (i + 1)) (cap - (i + 1)) news (by simp [Act.eval, Act.put]) s1.out hsrc.out s2.out (by omega) s3.out ?_; rw [← hW.out])
  rw [show i + (n - (i + 1)) = n - 1 from by omega]
  have hcn : ¬ cap = n - 1 := by omega
  have hb3 : ((n - 1 : Nat) : Int) ≤ (n : Int) := by omega
  have hb4 : n - (n - 1) = 1 := by omega
  have hb5 : (n : Int) ≤ (cap : Int) := by omega
  go_wp2_with fail
  go_ret
  refine ⟨_, rfl, ⟨?_, .inr ⟨g, cap, _, rfl, Nat.zero_le _, HH.out, by omega, h3, ?_, ?_⟩⟩, rfl, HF.out.mono fun k _ e => by rw [e]; rfl⟩
  · rw [List.length_append, List.length_take, List.length_drop, hfl]
    omega
  · rw [hnews]
    simpa using HL2.out
  · rw [hnews]
    simpa using HLAY.out
end Go.Proofs.Ytjhndioapcneoaa
