/- Plain: two types have one text just if they are one: a text is read back. -/
import Derived.Test.YtoippbbodhchkaaDoorTyShow
namespace Go.Proofs.YtoippbbodhchkaaDoor
open Em (Ty)
set_option linter.unusedVariables false
set_option maxRecDepth 100000
namespace Em
/-- Suffixes: ' list', ' ref'. -/
def sufP (t : Ty) (l : List UInt8) : Ty × List UInt8 :=
  if h : [32, 108, 105, 115, 116] <+: l then sufP (.mk wList 0 [t]) (l.drop 5)
  else if h : [32, 114, 101, 102] <+: l then sufP (.mk wRef 0 [t]) (l.drop 4)
  else (t, l)
termination_by l.length
decreasing_by
  all_goals
    have := h.length_le
    simp at this ⊢
    omega
/-- Digits. -/
def dP : Nat → List UInt8 → Nat × List UInt8
  | n, [] => (n, [])
  | n, c :: l => if 48 ≤ c.toNat ∧ c.toNat ≤ 57 then dP (n * 10 + (c.toNat - 48)) l else (n, c :: l)
/-- A type out of a text. -/
def pT : Nat → List UInt8 → Option (Ty × List UInt8)
  | 0, _ => none
  | f + 1, l =>
    if [40] <+: l then (pT f (l.drop 1)).bind fun x =>
      if [32, 42, 32] <+: x.2 then (pT f (x.2.drop 3)).bind fun y => if [41] <+: y.2 then some (sufP (.mk wPair 0 [x.1, y.1]) (y.2.drop 1)) else none
      else if [32, 45, 62, 32] <+: x.2 then (pT f (x.2.drop 4)).bind fun y => if [41] <+: y.2 then some (sufP (.mk wFun 0 [x.1, y.1]) (y.2.drop 1)) else none
      else none
    else if [39] <+: l then some (sufP (.mk wVar ((dP 0 (l.drop 1)).1 : Int) []) (dP 0 (l.drop 1)).2)
    else if wInt <+: l then some (sufP (.mk wInt 0 []) (l.drop 3))
    else if wBool <+: l then some (sufP (.mk wBool 0 []) (l.drop 4))
    else if wUnit <+: l then some (sufP (.mk wUnit 0 []) (l.drop 4))
    else if wString <+: l then some (sufP (.mk wString 0 []) (l.drop 6))
    else if wCell <+: l then some (sufP (.mk wCell 0 []) (l.drop 4))
    else none
/-- What may stand behind a type: nothing, a space, a bracket. -/
def sp (r : List UInt8) : Prop := r = [] ∨ ∃ c s, r = c :: s ∧ (c = 32 ∨ c = 41)
/-- What stands behind a whole one. -/
def stop (r : List UInt8) : Prop := r = [] ∨ ∃ s, r = 41 :: s ∨ r = 32 :: 42 :: s ∨ r = 32 :: 45 :: s
theorem stop.sp {r : List UInt8} (h : stop r) : sp r := by
  rcases h with rfl | ⟨s, rfl | rfl | rfl⟩
  · exact .inl rfl
  · exact .inr ⟨_, _, rfl, .inr rfl⟩
  · exact .inr ⟨_, _, rfl, .inl rfl⟩
  · exact .inr ⟨_, _, rfl, .inl rfl⟩
theorem sufP_stop {t : Ty} {r : List UInt8} (h : stop r) : sufP t r = (t, r) := by
  rw [sufP, dif_neg, dif_neg]
  · rcases h with rfl | ⟨s, rfl | rfl | rfl⟩ <;> simp
  · rcases h with rfl | ⟨s, rfl | rfl | rfl⟩ <;> simp
theorem sufP_list (t : Ty) (r : List UInt8) : sufP t ([32, 108, 105, 115, 116] ++ r) = sufP (.mk wList 0 [t]) r := by
  rw [sufP, dif_pos (List.prefix_append _ _)]
  rfl
theorem sufP_ref (t : Ty) (r : List UInt8) : sufP t ([32, 114, 101, 102] ++ r) = sufP (.mk wRef 0 [t]) r := by
  rw [sufP, dif_neg (by simp), dif_pos (List.prefix_append _ _)]
  rfl
theorem dP_dig (n : Nat) : ∀ r, dP 0 (digN n ++ r) = dP n r := by
  induction n using Nat.strongRecOn with
  | _ n ih =>
    intro r
    rw [digN]
    have hd : (UInt8.ofNat (48 + n % 10)).toNat = 48 + n % 10 := by
      rw [UInt8.toNat_ofNat', Nat.mod_eq_of_lt (by omega)]
    by_cases h : n < 10
    · rw [if_pos h, List.cons_append, List.nil_append, dP, if_pos (by omega), hd]
      congr 1
      omega
    · rw [if_neg h, List.append_assoc, ih (n / 10) (by omega), List.cons_append, List.nil_append, dP, if_pos (by omega), hd]
      congr 1
      omega
theorem dP_stop (n : Nat) {r : List UInt8} (h : sp r) : dP n r = (n, r) := by
  rcases h with rfl | ⟨c, s, rfl, rfl | rfl⟩
  · rfl
  · rw [dP, if_neg (by decide)]
  · rw [dP, if_neg (by decide)]
end Em
theorem dr1 (a : UInt8) (s : List UInt8) : List.drop 1 ([a] ++ s) = s := rfl
theorem dr3 (a b c : UInt8) (s : List UInt8) : List.drop 3 ([a, b, c] ++ s) = s := rfl
theorem dr4 (a b c d : UInt8) (s : List UInt8) : List.drop 4 ([a, b, c, d] ++ s) = s := rfl
theorem ok_zero {o : List UInt8} {n : Int} {ks : List Ty} (h : Em.okT (.mk o n ks) = true) (ho : o ≠ Em.wVar) : n = 0 := by
  rw [Em.okT, Bool.and_eq_true] at h
  have h1 := h.1
  simp only [Bool.not_eq_true', Bool.or_eq_false_iff, Bool.and_eq_false_iff, decide_eq_false_iff_not, Classical.not_not, ne_eq] at h1
  rcases h1.2 with h2 | h2
  · exact (ho h2).elim
  · exact h2
theorem kids_none {o : List UInt8} {n : Int} {ks : List Ty} (h : Em.okT (.mk o n ks) = true) (ho : Em.kidsOf o = 0) : ks = [] := by
  have h1 := (okT_parts h).1
  rw [ho] at h1
  exact List.eq_nil_of_length_eq_zero (by omega)
theorem kids_one {o : List UInt8} {n : Int} {ks : List Ty} (h : Em.okT (.mk o n ks) = true) (ho : Em.kidsOf o = 1) : ∃ k, ks = [k] := by
  have h1 := (okT_parts h).1
  rw [ho] at h1
  exact List.length_eq_one_iff.1 (by omega)
theorem kids_two {o : List UInt8} {n : Int} {ks : List Ty} (h : Em.okT (.mk o n ks) = true) (ho : Em.kidsOf o = 2) : ∃ k l, ks = [k, l] := by
  have h1 := (okT_parts h).1
  rw [ho] at h1
  match ks, h1 with
  | [k, l], _ => exact ⟨k, l, rfl⟩
theorem word_read (f : Nat) (o : List UInt8) (r : List UInt8) (ho : o = Em.wInt ∨ o = Em.wBool ∨ o = Em.wUnit ∨ o = Em.wString ∨ o = Em.wCell) : Em.pT (f + 1) (o ++ r) = some (Em.sufP (.mk o 0 []) r) := by
  rw [Em.pT]
  rcases ho with rfl | rfl | rfl | rfl | rfl
  · rw [if_neg (by simp [Em.wInt]), if_neg (by simp [Em.wInt]), if_pos (List.prefix_append _ _)]; rfl
  · rw [if_neg (by simp [Em.wBool]), if_neg (by simp [Em.wBool]), if_neg (by simp [Em.wInt, Em.wBool]), if_pos (List.prefix_append _ _)]; rfl
  · rw [if_neg (by simp [Em.wUnit]), if_neg (by simp [Em.wUnit]), if_neg (by simp [Em.wInt, Em.wUnit]), if_neg (by simp [Em.wBool, Em.wUnit]), if_pos (List.prefix_append _ _)]; rfl
  · rw [if_neg (by simp [Em.wString]), if_neg (by simp [Em.wString]), if_neg (by simp [Em.wInt, Em.wString]), if_neg (by simp [Em.wBool, Em.wString]), if_neg (by simp [Em.wUnit, Em.wString]), if_pos (List.prefix_append _ _)]; rfl
  · rw [if_neg (by simp [Em.wCell]), if_neg (by simp [Em.wCell]), if_neg (by simp [Em.wInt, Em.wCell]), if_neg (by simp [Em.wBool, Em.wCell]), if_neg (by simp [Em.wUnit, Em.wCell]), if_neg (by simp [Em.wString, Em.wCell]), if_pos (List.prefix_append _ _)]; rfl
theorem pT_show (f : Nat) : ∀ (a : Ty) (r : List UInt8), Em.okT a = true → nodes a ≤ f → Em.sp r → Em.pT f (Em.showT a ++ r) = some (Em.sufP a r) := by
  induction f with
  | zero =>
    intro a r ha hn
    obtain ⟨o, n, ks⟩ := a
    rw [nodes] at hn
    omega
  | succ f ih =>
    intro a
    generalize hm : nodes a = m
    induction m using Nat.strongRecOn generalizing a with
    | _ m ihm =>
      subst hm
      intro r hok hn hr
      obtain ⟨o, n, ks⟩ := a
      have hkk := (okT_parts hok).2.2
      rcases opCases o with rfl | rfl | rfl | rfl | rfl | rfl | rfl | rfl | rfl | rfl | ⟨j0, j1, j2, j3, j4, j5, j6, j7, j8, j9⟩
      · obtain rfl := kids_none hok rfl
        obtain rfl := ok_zero hok (by decide)
        rw [show Em.showT (.mk [105, 110, 116] 0 []) = [105, 110, 116] from by rw [showT_0]; rfl]
        exact word_read f _ r (.inl rfl)
      · obtain rfl := kids_none hok rfl
        obtain rfl := ok_zero hok (by decide)
        rw [show Em.showT (.mk [98, 111, 111, 108] 0 []) = [98, 111, 111, 108] from by rw [showT_0]; rfl]
        exact word_read f _ r (.inr (.inl rfl))
      · obtain rfl := kids_none hok rfl
        obtain rfl := ok_zero hok (by decide)
        rw [show Em.showT (.mk [117, 110, 105, 116] 0 []) = [117, 110, 105, 116] from by rw [showT_0]; rfl]
        exact word_read f _ r (.inr (.inr (.inl rfl)))
      · obtain rfl := kids_none hok rfl
        obtain rfl := ok_zero hok (by decide)
        rw [show Em.showT (.mk [115, 116, 114, 105, 110, 103] 0 []) = [115, 116, 114, 105, 110, 103] from by rw [showT_0]; rfl]
        exact word_read f _ r (.inr (.inr (.inr (.inl rfl))))
      · obtain rfl := kids_none hok rfl
        obtain rfl := ok_zero hok (by decide)
        rw [show Em.showT (.mk [99, 101, 108, 108] 0 []) = [99, 101, 108, 108] from by rw [showT_0]; rfl]
        exact word_read f _ r (.inr (.inr (.inr (.inr rfl))))
      · obtain rfl := kids_none hok rfl
        obtain ⟨n, rfl⟩ := Int.eq_ofNat_of_zero_le (okT_parts hok).2.1
        rw [show Em.showT (.mk [118, 97, 114] (n : Int) []) = [39] ++ Em.digN n from by rw [showT_0]; rfl]
        rw [List.append_assoc, Em.pT, if_neg (by simp), if_pos (List.prefix_append _ _)]
        rw [dr1, Em.dP_dig, Em.dP_stop n hr]
        rfl
      · obtain ⟨k, rfl⟩ := kids_one hok rfl
        obtain rfl := ok_zero hok (by decide)
        rw [show Em.showT (.mk [108, 105, 115, 116] 0 [k]) = Em.showT k ++ [32] ++ [108, 105, 115, 116] from by rw [showT_1]; rfl]
        rw [List.append_assoc, List.append_assoc]
        have hn2 := hn
        rw [nodes, nodesL, nodesL] at hn2
        rw [ihm (nodes k) (by rw [nodes, nodesL, nodesL]; omega) k rfl ([32] ++ ([108, 105, 115, 116] ++ r)) (hkk k (by simp)) (by omega) (.inr ⟨_, _, rfl, .inl rfl⟩)]
        exact congrArg some (Em.sufP_list k r)
      · obtain ⟨k, rfl⟩ := kids_one hok rfl
        obtain rfl := ok_zero hok (by decide)
        rw [show Em.showT (.mk [114, 101, 102] 0 [k]) = Em.showT k ++ [32] ++ [114, 101, 102] from by rw [showT_1]; rfl]
        rw [List.append_assoc, List.append_assoc]
        have hn2 := hn
        rw [nodes, nodesL, nodesL] at hn2
        rw [ihm (nodes k) (by rw [nodes, nodesL, nodesL]; omega) k rfl ([32] ++ ([114, 101, 102] ++ r)) (hkk k (by simp)) (by omega) (.inr ⟨_, _, rfl, .inl rfl⟩)]
        exact congrArg some (Em.sufP_ref k r)
      · obtain ⟨k, l, rfl⟩ := kids_two hok rfl
        obtain rfl := ok_zero hok (by decide)
        rw [nodes, nodesL, nodesL, nodesL] at hn
        rw [show Em.showT (.mk [112, 97, 105, 114] 0 [k, l]) ++ r = [40] ++ (Em.showT k ++ ([32, 42, 32] ++ (Em.showT l ++ ([41] ++ r)))) from by rw [showT_2]; simp [Em.wPair, Em.wList, Em.wRef, Em.wVar]]
        rw [Em.pT, if_pos (List.prefix_append _ _)]
        rw [dr1]
        rw [ih k ([32, 42, 32] ++ (Em.showT l ++ ([41] ++ r))) (hkk k (by simp)) (by omega) (.inr ⟨_, _, rfl, .inl rfl⟩), Em.sufP_stop (r := [32, 42, 32] ++ (Em.showT l ++ ([41] ++ r))) (.inr ⟨_, .inr (.inl rfl)⟩), Option.bind_some]
        rw [if_pos (List.prefix_append _ _)]
        rw [dr3]
        rw [ih l ([41] ++ r) (hkk l (by simp)) (by omega) (.inr ⟨_, _, rfl, .inr rfl⟩), Em.sufP_stop (r := [41] ++ r) (.inr ⟨_, .inl rfl⟩), Option.bind_some]
        rw [if_pos (List.prefix_append _ _)]
        rfl
      · obtain ⟨k, l, rfl⟩ := kids_two hok rfl
        obtain rfl := ok_zero hok (by decide)
        rw [nodes, nodesL, nodesL, nodesL] at hn
        rw [show Em.showT (.mk [102, 117, 110] 0 [k, l]) ++ r = [40] ++ (Em.showT k ++ ([32, 45, 62, 32] ++ (Em.showT l ++ ([41] ++ r)))) from by rw [showT_2]; simp [Em.wPair, Em.wFun, Em.wList, Em.wRef, Em.wVar]]
        rw [Em.pT, if_pos (List.prefix_append _ _)]
        rw [dr1]
        rw [ih k ([32, 45, 62, 32] ++ (Em.showT l ++ ([41] ++ r))) (hkk k (by simp)) (by omega) (.inr ⟨_, _, rfl, .inl rfl⟩), Em.sufP_stop (r := [32, 45, 62, 32] ++ (Em.showT l ++ ([41] ++ r))) (.inr ⟨_, .inr (.inr rfl)⟩), Option.bind_some]
        rw [if_neg (by simp), if_pos (List.prefix_append _ _)]
        rw [dr4]
        rw [ih l ([41] ++ r) (hkk l (by simp)) (by omega) (.inr ⟨_, _, rfl, .inr rfl⟩), Em.sufP_stop (r := [41] ++ r) (.inr ⟨_, .inl rfl⟩), Option.bind_some]
        rw [if_pos (List.prefix_append _ _)]
        rfl
      · have h0 := (okT_parts hok).1
        exfalso
        have : Em.kidsOf o = -1 := by
          unfold Em.kidsOf
          rw [if_neg, if_neg, if_neg]
          · rintro (e | e)
            · exact j8 e
            · exact j9 e
          · rintro (e | e)
            · exact j6 e
            · exact j7 e
          · rintro (e | e | e | e | e | e)
            · exact j0 e
            · exact j1 e
            · exact j2 e
            · exact j3 e
            · exact j4 e
            · exact j5 e
        omega
theorem show_inj {a b : Ty} (ha : Em.okT a = true) (hb : Em.okT b = true) : decide (Em.showT a = Em.showT b) = Em.eqT a b := by
  cases h : Em.eqT a b with
  | true =>
    rw [Em.eqT_eq a b h]
    exact decide_eq_true rfl
  | false =>
    refine decide_eq_false fun e => ?_
    have h1 := pT_show (nodes a + nodes b) a [] ha (by omega) (.inl rfl)
    have h2 := pT_show (nodes a + nodes b) b [] hb (by omega) (.inl rfl)
    rw [Em.sufP_stop (.inl rfl)] at h1 h2
    rw [e, h2] at h1
    have h3 : b = a := congrArg Prod.fst (Option.some.inj h1)
    rw [h3, Em.eqT_refl] at h
    cases h
end Go.Proofs.YtoippbbodhchkaaDoor
