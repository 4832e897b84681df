/- Plain: a graph put into a heap. -/
import Derived.Test.YtoehaijmkmdggaaUBldP
import Derived.Test.YtoehaijmkmdggaaUShapeP
set_option linter.unusedSimpArgs false
set_option linter.unusedVariables false
namespace Go.Proofs.Ytoehaijmkmdggaa
set_option linter.unusedVariables false
def allocE (sz : Nat) (H : Em.Hp) (tag : Int) (fs : List Int) : Int × Bool × Em.Hp := match Em.alloc sz H tag fs with
  | none => (0, false, H)
  | some (n, H') => (n, true, H')
def putE (H : Em.Hp) (n k v : Int) : Bool × Em.Hp := match Em.put H n k v with
  | none => (false, H)
  | some H' => (true, H')
namespace Em
/-- A block's fields, when it is put. -/
def fields0 (b : Blk) : List Int := if b.tag = 1 then wordsOf b.str else List.replicate b.kids.length 0
def needN : List Blk → Nat
  | [] => 0
  | b :: t => (1 + (b.str.length + b.kids.length)) + needN t
def putsB (sz : Nat) : List Blk → List Int → Hp → List Int × Hp
  | [], l, H => (l, H)
  | b :: t, l, H => putsB sz t (l ++ [(allocE sz H b.tag (fields0 b)).1]) (allocE sz H b.tag (fields0 b)).2.2
/-- A value as a word, when blocks are where they are. -/
def wordG (l : List Int) (r : Bool × Int) : Int := if r.1 = true then intW r.2 else l.getD r.2.toNat 0
def setK (l : List Int) (n : Int) : Nat → List (Bool × Int) → Hp → Hp
  | _, [], H => H
  | k, r :: t, H => setK l n (k + 1) t (putE H n (k : Int) (wordG l r)).2
def setB (l : List Int) : Nat → List Blk → Hp → Hp
  | _, [], H => H
  | i, b :: t, H => setB l (i + 1) t (setK l (l.getD i 0) 0 b.kids H)
/-- What Build answers, and the heap then. -/
def buildG (sz : Nat) (H : Hp) (g : Gr) : Int × Int × Hp :=
  if isG g = true then
    if (sz : Int) - used H < (needN g.blocks : Int) then (0, 8, H)
    else (wordG (putsB sz g.blocks [] H).1 g.root, 0, setB (putsB sz g.blocks [] H).1 0 g.blocks (putsB sz g.blocks [] H).2)
  else (0, 1, H)
def addrs (s : Nat) : List Blk → List Int
  | [] => []
  | b :: t => 2 * (s : Int) :: addrs (s + (1 + (b.str.length + b.kids.length))) t
/-- A block's fields, at last. -/
def full (l : List Int) (b : Blk) : Int × List Int := (b.tag, wordsOf b.str ++ b.kids.map (wordG l))
theorem wordsOf_len (s : List UInt8) : (wordsOf s).length = s.length := by simp [wordsOf]
theorem fields0_len {b : Blk} (h : blkOk b = true) : (fields0 b).length = b.str.length + b.kids.length := by
  unfold fields0
  rcases blkOk_cases h with ⟨h1, h2⟩ | ⟨h1, h2⟩
  · rw [if_pos h1, wordsOf_len, h2]; rfl
  · rw [if_neg (by omega), h2]; simp
theorem puts_yes (sz : Nat) : ∀ (bs : List Blk) (l : List Int) (H : Hp), (∀ b ∈ bs, blkOk b = true) → used H + needN bs ≤ sz →
    putsB sz bs l H = (l ++ addrs (used H) bs, H ++ bs.map fun b => (b.tag, fields0 b)) := by
  intro bs
  induction bs with
  | nil => intro l H h1 h2; simp [putsB, addrs]
  | cons b t ih =>
    intro l H h1 h2
    have hb := h1 b List.mem_cons_self
    have hl := fields0_len hb
    have ha : alloc sz H b.tag (fields0 b) = some (2 * (used H : Int), H ++ [(b.tag, fields0 b)]) := by
      refine if_neg ?_
      rw [hl]
      simp only [needN] at h2
      rcases blkOk_cases hb with ⟨h, _⟩ | ⟨h, _⟩ <;> omega
    have hE : allocE sz H b.tag (fields0 b) = (2 * (used H : Int), true, H ++ [(b.tag, fields0 b)]) := by
      unfold allocE
      rw [ha]
    have hu : used (H ++ [(b.tag, fields0 b)]) = used H + (1 + (b.str.length + b.kids.length)) := by
      rw [used_append]
      simp only [used, hl]
      omega
    rw [putsB, hE, ih _ _ (fun c hc => h1 c (List.mem_cons_of_mem _ hc)) (by rw [hu]; simp only [needN] at h2; omega), hu]
    simp [addrs]
theorem idxF_mid {s : Nat} {H1 H2 : Hp} {b : Int × List Int} : idxF s (H1 ++ b :: H2) (2 * ((s + used H1 : Nat) : Int)) = some H1.length := by
  induction H1 generalizing s with
  | nil => simp [idxF, used]
  | cons c t ih =>
    simp only [List.cons_append, idxF, used, List.length_cons]
    rw [if_neg (by omega)]
    have := ih (s := s + (1 + c.2.length))
    rw [show s + (1 + c.2.length + used t) = s + (1 + c.2.length) + used t by omega, this]
    rfl
theorem idx_mid {H1 H2 : Hp} {b : Int × List Int} : idx (H1 ++ b :: H2) (2 * (used H1 : Int)) = some H1.length := by
  have := idxF_mid (s := 0) (H1 := H1) (H2 := H2) (b := b)
  rwa [Nat.zero_add] at this
theorem blk_mid {H1 H2 : Hp} {b : Int × List Int} : blk (H1 ++ b :: H2) (2 * (used H1 : Int)) = b := by
  unfold blk
  rw [idx_mid]
  simp
theorem modify_mid {α : Type} (l1 : List α) (a : α) (l2 : List α) (f : α → α) : (l1 ++ a :: l2).modify l1.length f = l1 ++ f a :: l2 := by
  induction l1 with
  | nil => rfl
  | cons c t ih => rw [List.cons_append, List.length_cons, List.modify_succ_cons, ih]; rfl
theorem setF_mid {H1 H2 : Hp} {t : Int} {fs : List Int} (k : Nat) (v : Int) : setF (H1 ++ (t, fs) :: H2) H1.length k v = H1 ++ (t, fs.set k v) :: H2 := by
  unfold setF
  rw [modify_mid]
theorem put_mid {H1 H2 : Hp} {t : Int} {fs : List Int} {k : Nat} (hk : k < fs.length) (v : Int) : putE (H1 ++ (t, fs) :: H2) (2 * (used H1 : Int)) (k : Int) v = (true, H1 ++ (t, fs.set k v) :: H2) := by
  unfold putE put
  rw [idx_mid, blk_mid]
  simp only
  rw [if_neg (by omega), Int.toNat_natCast, setF_mid]
theorem setK_mid (l : List Int) (H1 H2 : Hp) (t : Int) : ∀ (ks : List (Bool × Int)) (k : Nat) (fs : List Int), fs.length = k + ks.length → setK l (2 * (used H1 : Int)) k ks (H1 ++ (t, fs) :: H2) = H1 ++ (t, fs.take k ++ ks.map (wordG l)) :: H2 := by
  intro ks
  induction ks with
  | nil =>
    intro k fs h
    rw [setK, List.take_of_length_le (by simp at h; omega)]
    simp
  | cons x u ih =>
    intro k fs h
    rw [List.length_cons] at h
    rw [setK, put_mid (by omega), ih (k + 1) _ (by rw [List.length_set]; omega)]
    have : (fs.set k (wordG l x)).take (k + 1) = fs.take k ++ [wordG l x] := by
      rw [List.take_succ_eq_append_getElem (by rw [List.length_set]; omega), List.getElem_set_self, List.take_set_of_le (Nat.le_refl _)]
    rw [this]
    simp
theorem setB_all (l : List Int) : ∀ (bs : List Blk) (i : Nat) (H1 : Hp), (∀ b ∈ bs, blkOk b = true) → l.drop i = addrs (used H1) bs → setB l i bs (H1 ++ bs.map fun b => (b.tag, fields0 b)) = H1 ++ bs.map (full l) := by
  intro bs
  induction bs with
  | nil => intro i H1 h1 h2; rfl
  | cons b t ih =>
    intro i H1 h1 h2
    have hb := h1 b List.mem_cons_self
    rw [addrs] at h2
    have hi : l.getD i 0 = 2 * (used H1 : Int) := by
      have := congrArg (fun x => x[0]?) h2
      simp only [List.getElem?_drop, Nat.add_zero, List.getElem?_cons_zero] at this
      rw [List.getD_eq_getElem?_getD, this]
      rfl
    have hd : l.drop (i + 1) = addrs (used H1 + (1 + (b.str.length + b.kids.length))) t := by
      have := congrArg List.tail h2
      simpa using this
    rw [setB, hi, List.map_cons]
    have hf : setK l (2 * (used H1 : Int)) 0 b.kids (H1 ++ (b.tag, fields0 b) :: t.map fun b => (b.tag, fields0 b)) = H1 ++ full l b :: t.map fun b => (b.tag, fields0 b) := by
      rcases blkOk_cases hb with ⟨h3, h4⟩ | ⟨h3, h4⟩
      · rw [h4, setK]
        unfold full fields0
        rw [if_pos h3, h4]
        simp
      · rw [setK_mid l H1 _ _ b.kids 0 _ (by rw [fields0_len hb, h4]; simp)]
        unfold full
        rw [h4]
        simp [wordsOf]
    rw [hf]
    have hu : used (H1 ++ [full l b]) = used H1 + (1 + (b.str.length + b.kids.length)) := by
      rw [used_append]
      simp [used, full, wordsOf_len]
    have := ih (i + 1) (H1 ++ [full l b]) (fun c hc => h1 c (List.mem_cons_of_mem _ hc)) (by rw [hu]; exact hd)
    simpa using this
/-- What Build does where there are words enough. -/
theorem build_yes {sz : Nat} {H : Hp} {g : Gr} (hg : isG g = true) (hn : used H + needN g.blocks ≤ sz) :
    buildG sz H g = (wordG (addrs (used H) g.blocks) g.root, 0, H ++ g.blocks.map (full (addrs (used H) g.blocks))) := by
  have hall := isG_all hg
  have hp := puts_yes sz g.blocks [] H (fun b hb => (hall.1 b hb).1) hn
  rw [List.nil_append] at hp
  unfold buildG
  rw [if_pos hg, if_neg (by omega), hp, setB_all _ _ 0 H (fun b hb => (hall.1 b hb).1) rfl]
theorem addrs_len (s : Nat) (bs : List Blk) : (addrs s bs).length = bs.length := by
  induction bs generalizing s with
  | nil => rfl
  | cons b t ih => simp [addrs, ih]
theorem addrs_ge (s : Nat) (bs : List Blk) : ∀ x ∈ addrs s bs, 2 * (s : Int) ≤ x ∧ x % 2 = 0 := by
  induction bs generalizing s with
  | nil => intro x h; cases h
  | cons b t ih =>
    intro x h
    rw [addrs] at h
    rcases List.mem_cons.1 h with rfl | h
    · omega
    · have := ih _ x h
      omega
theorem addrs_nodup (s : Nat) (bs : List Blk) : (addrs s bs).Nodup := by
  induction bs generalizing s with
  | nil => exact List.nodup_nil
  | cons b t ih =>
    rw [addrs, List.nodup_cons]
    refine ⟨fun h => ?_, ih _⟩
    have := addrs_ge _ _ _ h
    omega
end Em
end Go.Proofs.Ytoehaijmkmdggaa
