/- Plain: frames as bytes, and back. -/
import Derived.Test.YtcbkklfdeloeeaaSumPure
import Derived.Test.YtcbkklfdeloeeaaVarPure
namespace Go.Proofs.Ytcbkklfdeloeeaa.Em
def be4 (s : Nat) : List UInt8 := [UInt8.ofNat (s / 16777216), UInt8.ofNat (s / 65536), UInt8.ofNat (s / 256), UInt8.ofNat s]
def fpre (k : UInt8) (body : List UInt8) : List UInt8 := [k] ++ putN body.length ++ body
def frame (k : UInt8) (body : List UInt8) : List UInt8 := fpre k body ++ be4 (adler (fpre k body))
theorem be4_len (s : Nat) : (be4 s).length = 4 := rfl
theorem fpre_len (k : UInt8) (b : List UInt8) : (fpre k b).length = 1 + (putN b.length).length + b.length := by simp [fpre]; omega
theorem frame_len (k : UInt8) (b : List UInt8) : (frame k b).length = 5 + (putN b.length).length + b.length := by simp [frame, fpre_len, be4_len]; omega
theorem frame_cons (k : UInt8) (b : List UInt8) : frame k b = k :: (putN b.length ++ (b ++ be4 (adler (fpre k b)))) := by simp [frame, fpre]
def getF : List UInt8 → Option (UInt8 × List UInt8 × Nat)
  | [] => none
  | k :: t => match getN t with
    | none => none
    | some (v, n) => if 4000 < v ∨ (k :: t).length < n + v + 5 then none else
        if frame k ((t.drop n).take v) <+: k :: t then some (k, (t.drop n).take v, (frame k ((t.drop n).take v)).length) else none
theorem getF_put (k : UInt8) (b more : List UInt8) (h : b.length ≤ 4000) : getF (frame k b ++ more) = some (k, b, (frame k b).length) := by
  have hl := frame_len k b
  rw [frame_cons, List.cons_append, List.append_assoc, getF, get_put (by omega)]
  simp only
  have e : ((putN b.length ++ (b ++ be4 (adler (fpre k b)) ++ more)).drop (putN b.length).length).take b.length = b := by
    rw [List.drop_left, List.append_assoc, List.take_left]
  rw [if_neg (by simp [be4_len]; omega), e, if_pos]
  · rw [frame_cons]
  · rw [frame_cons]
    exact ⟨more, by simp⟩
theorem getF_some {l : List UInt8} {k : UInt8} {b : List UInt8} {n : Nat} (h : getF l = some (k, b, n)) : frame k b <+: l ∧ n = (frame k b).length ∧ b.length ≤ 4000 := by
  cases l with
  | nil => simp [getF] at h
  | cons c t =>
    rw [getF] at h
    cases hg : getN t with
    | none => rw [hg] at h; simp at h
    | some r =>
      obtain ⟨v, m⟩ := r
      rw [hg] at h
      simp only at h
      split at h
      · simp at h
      · split at h
        · simp only [Option.some.injEq, Prod.mk.injEq] at h
          obtain ⟨rfl, rfl, rfl⟩ := h
          refine ⟨by assumption, rfl, ?_⟩
          rename_i hh _
          have := List.length_take_le v (t.drop m)
          omega
        · simp at h
theorem putN_mono {a b : Nat} (h : a ≤ b) : (putN a).length ≤ (putN b).length := by
  induction b using Nat.strongRecOn generalizing a with
  | _ b ih =>
    rcases Nat.lt_or_ge a 128 with h1 | h1
    · rw [putN_small h1]
      exact putN_pos b
    · have hb : 128 ≤ b := Nat.le_trans h1 h
      rw [putN_big h1, putN_big hb, List.length_cons, List.length_cons]
      have := ih (b / 128) (by omega) (a := a / 128) (Nat.div_le_div_right h)
      omega
theorem frame_len_inj {k k' : UInt8} {b b' : List UInt8} (h : (frame k b).length = (frame k' b').length) : b.length = b'.length := by
  rw [frame_len, frame_len] at h
  rcases Nat.lt_trichotomy b.length b'.length with h1 | h1 | h1
  · have := putN_mono (Nat.le_of_lt h1); omega
  · exact h1
  · have := putN_mono (Nat.le_of_lt h1); omega
theorem be4_inj {s t : Nat} (hs : s < 4294967296) (ht : t < 4294967296) (h : be4 s = be4 t) : s = t := by
  simp only [be4, List.cons.injEq, and_true] at h
  obtain ⟨h1, h2, h3, h4⟩ := h
  have f : ∀ a b : Nat, UInt8.ofNat a = UInt8.ofNat b → a % 256 = b % 256 := by
    intro a b h
    have := congrArg UInt8.toNat h
    simpa [UInt8.toNat_ofNat'] using this
  have := f _ _ h1
  have := f _ _ h2
  have := f _ _ h3
  have := f _ _ h4
  omega
/-- A frame with one byte turned is not the whole of one. -/
theorem frame_turn (k : UInt8) (b : List UInt8) (i : Nat) (hi : i < (frame k b).length) (c : UInt8) (hc : c ≠ (frame k b)[i]) (k' : UInt8) (b' : List UInt8) (n : Nat) (h : getF ((frame k b).set i c) = some (k', b', n)) : n ≠ (frame k b).length := by
  intro hn
  obtain ⟨⟨more, hm⟩, h2, _⟩ := getF_some h
  have hlen : (frame k b).length = (frame k' b').length := by omega
  have h0 : more = [] := by
    have := congrArg List.length hm
    simp only [List.length_append, List.length_set] at this
    exact List.eq_nil_of_length_eq_zero (by omega)
  subst h0
  rw [List.append_nil] at hm
  have hb := frame_len_inj hlen
  have hp : (fpre k b).length = (fpre k' b').length := by rw [fpre_len, fpre_len, hb]
  have hA := adler_lt (fpre k b)
  have hB := adler_lt (fpre k' b')
  rcases Nat.lt_or_ge i (fpre k b).length with h1 | h1
  · unfold frame at hm
    rw [List.set_append_left _ _ h1] at hm
    obtain ⟨e1, e2⟩ := List.append_inj hm (by simp [hp])
    have e3 := be4_inj hB hA e2
    have hx : (fpre k b)[i] ≠ c := by
      intro e
      apply hc
      rw [← e]
      simp only [frame]
      rw [List.getElem_append_left h1]
    have ex : fpre k b = (fpre k b).take i ++ (fpre k b)[i] :: (fpre k b).drop (i + 1) := by
      rw [← List.drop_eq_getElem_cons h1, List.take_append_drop]
    have ey : (fpre k b).set i c = (fpre k b).take i ++ c :: (fpre k b).drop (i + 1) := by
      rw [List.set_eq_take_append_cons_drop, if_pos h1]
    refine adler_turn ((fpre k b).take i) ((fpre k b).drop (i + 1)) _ c hx ?_
    rw [← ey, ← e1, ← ex]
    exact e3.symm
  · unfold frame at hm
    rw [List.set_append_right _ _ h1] at hm
    obtain ⟨e1, e2⟩ := List.append_inj hm (by omega)
    rw [e1] at e2
    have hj : i - (fpre k b).length < (be4 (adler (fpre k b))).length := by
      have : (frame k b).length = (fpre k b).length + (be4 (adler (fpre k b))).length := by simp [frame]
      omega
    apply hc
    have e3 := congrArg (fun l : List UInt8 => l[i - (fpre k b).length]?) e2
    rw [List.getElem?_set_self hj, List.getElem?_eq_getElem hj] at e3
    injection e3 with e3
    simp only [frame]
    rw [List.getElem_append_right h1, e3]
theorem getF_nil : getF [] = none := rfl
/-! frames, one behind the other -/
theorem putN_known : (putN 0).length = 1 := by rw [putN_small (by omega)]; rfl
end Go.Proofs.Ytcbkklfdeloeeaa.Em
