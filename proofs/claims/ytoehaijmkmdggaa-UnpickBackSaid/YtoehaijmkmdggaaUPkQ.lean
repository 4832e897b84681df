/- Plain: how many bytes a value adds at most. -/
import Derived.Test.YtoehaijmkmdggaaUPkP
set_option linter.unusedSimpArgs false
set_option linter.unusedVariables false
namespace Go.Proofs.Ytoehaijmkmdggaa
open Em (Ty)
set_option linter.unusedVariables false
namespace Em
/-- A heap's words are numbers of 64 bits, its blocks are not too great. -/
def SmallH (H : Hp) : Prop := ∀ k, (blk H k).2.length ≤ 20000 ∧ ∀ x ∈ (blk H k).2, -9223372036854775808 ≤ x ∧ x ≤ 9223372036854775807
def InW (n : Int) : Prop := -9223372036854775808 ≤ n ∧ n ≤ 9223372036854775807
theorem field_in {H : Hp} (h : SmallH H) (w i : Int) : InW ((field H w i).getD 0) := by
  unfold field
  split
  · exact ⟨by decide, by decide⟩
  · cases hx : (blk H w).2[i.toNat]? with
    | none => exact ⟨by decide, by decide⟩
    | some x => exact (h w).2 x (List.mem_of_getElem? hx)
theorem text_len {H : Hp} (h : SmallH H) {n : Int} {x : List UInt8} (e : textH H n = some x) : x.length ≤ 20000 := by
  unfold textH at e
  split at e
  · unfold textB at e
    split at e
    · injection e with e
      rw [← e, List.length_map]
      exact (h n).1
    · cases e
  · cases e
theorem room_put {s : Pk} {v : Nat} (h : v < 18446744073709551616) : Room s (s.put v) := by
  have := putN_len10 h
  refine ⟨Nat.le_refl _, ?_⟩
  simp only [Pk.put, List.length_append]
  omega
theorem kidsT_len2 {t : Ty} (h : okS t = true) : (kidsT t).length ≤ 2 := by
  have ho := okS_op h
  unfold kidsT
  split
  · simp
  · split
    · simp
    · split
      · next c =>
        have c' : t.op = wPair ∨ t.op = wRef := c
        rcases ho with e | e | e | e | e | ⟨e, h2⟩ | ⟨e, h2⟩ | ⟨e, h2⟩ <;> first | omega | (exfalso; rw [e] at c'; revert c'; decide)
      · simp
theorem kidsK_room {H : Hp} (hH : SmallH H) {f : Nat} {w : Int} (hr : ∀ n t s s', InW n → s.ws.length ≤ 2000 → okS t = true → valK H f n t s = .ok s' → s'.ws.length ≤ 2000 ∧ Room s s') : ∀ (ts : List Ty) (i : Nat) (s s' : Pk), (∀ t ∈ ts, okS t = true) → s.ws.length ≤ 2000 → kidsK (valK H f) H w i ts s = .ok s' → s'.ws.length ≤ 2000 ∧ s.ws.length ≤ s'.ws.length ∧ s'.b.length + 40040 * s.ws.length ≤ s.b.length + 20020 * ts.length + 40040 * s'.ws.length
  | [], i, s, s', ho, hs, h => by
    injection h with h
    subst h
    exact ⟨hs, Nat.le_refl _, by simp⟩
  | t :: ts, i, s, s', ho, hs, h => by
    rw [kidsK] at h
    split at h
    · cases h
    · next s1 e =>
      obtain ⟨g1, g2, g3⟩ := hr _ _ _ _ (field_in hH _ _) hs (ho t List.mem_cons_self) e
      obtain ⟨k1, k2, k3⟩ := kidsK_room hH hr ts (i + 1) s1 s' (fun t ht => ho t (List.mem_cons_of_mem _ ht)) g1 h
      refine ⟨k1, by omega, ?_⟩
      rw [List.length_cons]
      omega
theorem valK_room {H : Hp} (hH : SmallH H) : ∀ (f : Nat) (n : Int) (t : Ty) (s s' : Pk), InW n → s.ws.length ≤ 2000 → okS t = true → valK H f n t s = .ok s' → s'.ws.length ≤ 2000 ∧ Room s s'
  | 0, n, t, s, s', hn, hs, ho, h => by cases h
  | f + 1, n, t, s, s', hn, hs, ho, h => by
    have hn1 := hn.1
    have hn2 := hn.2
    rw [valK] at h
    split at h
    · unfold numK at h
      split at h
      · cases h
      · next hc =>
        split at h
        · injection h with h
          subst h
          exact ⟨hs, room_put (zig_lt (by omega) (by omega))⟩
        · split at h
          · injection h with h
            subst h
            exact ⟨hs, room_put (by omega)⟩
          · injection h with h
            subst h
            exact ⟨hs, Nat.le_refl _, by omega⟩
    · split at h
      · injection h with h
        subst h
        exact ⟨hs, room_put (by omega)⟩
      · split at h
        · next i hi =>
          have hil := (posK_lt hi).1
          have hf : firstOf t.op ≤ 1 := by unfold firstOf; split <;> omega
          split at h
          · cases h
          · split at h
            · injection h with h
              subst h
              exact ⟨hs, room_put (by omega)⟩
            · cases h
        · have hf : firstOf t.op < 18446744073709551616 := by unfold firstOf; split <;> omega
          have hpf := putN_len10 hf
          have hcl : (s.come n t (firstOf t.op)).b.length = s.b.length + (putN (firstOf t.op)).length ∧ (s.come n t (firstOf t.op)).ws.length = s.ws.length + 1 := by simp [Pk.come]
          unfold blkK at h
          split at h
          · cases h
          · split at h
            · split at h
              · cases h
              · next x e =>
                split at h
                · cases h
                · injection h with h
                  subst h
                  have hx := text_len hH e
                  have hp2 := putN_len10 (v := x.length) (by omega)
                  refine ⟨by simp; omega, by simp, ?_⟩
                  simp only [List.length_append, hcl.1, List.length_cons, List.length_nil]
                  omega
            · split at h
              · cases h
              · split at h
                · cases h
                · have hk := kidsT_len2 ho
                  obtain ⟨k1, k2, k3⟩ := kidsK_room hH (valK_room hH f) _ _ _ _ (okS_kidsT ho) (by omega) h
                  refine ⟨k1, by omega, ?_⟩
                  omega
end Em
end Go.Proofs.Ytoehaijmkmdggaa
