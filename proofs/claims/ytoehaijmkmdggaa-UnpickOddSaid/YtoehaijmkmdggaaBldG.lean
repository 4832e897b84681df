/- Plain: a graph put into a heap, and drawn again. Walks: what a block needs; a value as a word (package shape, and its reference). Walks: a block is put (closures of Build, package shape; Put of the reference). A graph in memory that lies away from some blocks. -/
import Derived.Test.YtoehaijmkmdggaaBldI
import Derived.Test.YtoehaijmkmdggaaDrawO
import Derived.Test.YtoehaijmkmdggaaHeapB
import Derived.Test.YtoehaijmkmdggaaBldK
namespace Go.Proofs.Ytoehaijmkmdggaa
set_option linter.unusedVariables false
namespace Em
/-- A block's fields, when it is put. -/
def fields0 (b : Blk) : List Int := if b.tag = 1 then wordsOf b.str else List.replicate b.kids.length 0
def needN : List Blk → Nat
  | [] => 0
  | b :: t => (1 + (b.str.length + b.kids.length)) + needN t
def putsB (sz : Nat) : List Blk → List Int → Hp → List Int × Hp
  | [], l, H => (l, H)
  | b :: t, l, H => putsB sz t (l ++ [(allocE sz H b.tag (fields0 b)).1]) (allocE sz H b.tag (fields0 b)).2.2
/-- A value as a word, when blocks are where they are. -/
def wordG (l : List Int) (r : Bool × Int) : Int := if r.1 = true then intW r.2 else l.getD r.2.toNat 0
def setK (l : List Int) (n : Int) : Nat → List (Bool × Int) → Hp → Hp
  | _, [], H => H
  | k, r :: t, H => setK l n (k + 1) t (putE H n (k : Int) (wordG l r)).2
def setB (l : List Int) : Nat → List Blk → Hp → Hp
  | _, [], H => H
  | i, b :: t, H => setB l (i + 1) t (setK l (l.getD i 0) 0 b.kids H)
/-- What Build answers, and the heap then. -/
def buildG (sz : Nat) (H : Hp) (g : Gr) : Int × Int × Hp :=
  if isG g = true then
    if (sz : Int) - used H < (needN g.blocks : Int) then (0, 8, H)
    else (wordG (putsB sz g.blocks [] H).1 g.root, 0, setB (putsB sz g.blocks [] H).1 0 g.blocks (putsB sz g.blocks [] H).2)
  else (0, 1, H)
def addrs (s : Nat) : List Blk → List Int
  | [] => []
  | b :: t => 2 * (s : Int) :: addrs (s + (1 + (b.str.length + b.kids.length))) t
/-- A block's fields, at last. -/
def full (l : List Int) (b : Blk) : Int × List Int := (b.tag, wordsOf b.str ++ b.kids.map (wordG l))
theorem wordsOf_len (s : List UInt8) : (wordsOf s).length = s.length := by simp [wordsOf]
theorem fields0_len {b : Blk} (h : blkOk b = true) : (fields0 b).length = b.str.length + b.kids.length := by
  unfold fields0
  rcases blkOk_cases h with ⟨h1, h2⟩ | ⟨h1, h2⟩
  · rw [if_pos h1, wordsOf_len, h2]; rfl
  · rw [if_neg (by omega), h2]; simp
theorem puts_yes (sz : Nat) : ∀ (bs : List Blk) (l : List Int) (H : Hp), (∀ b ∈ bs, blkOk b = true) → used H + needN bs ≤ sz →
    putsB sz bs l H = (l ++ addrs (used H) bs, H ++ bs.map fun b => (b.tag, fields0 b)) := by
  intro bs
  induction bs with
  | nil => intro l H h1 h2; simp [putsB, addrs]
  | cons b t ih =>
    intro l H h1 h2
    have hb := h1 b List.mem_cons_self
    have hl := fields0_len hb
    have ha : alloc sz H b.tag (fields0 b) = some (2 * (used H : Int), H ++ [(b.tag, fields0 b)]) := by
      refine if_neg ?_
      rw [hl]
      simp only [needN] at h2
      rcases blkOk_cases hb with ⟨h, _⟩ | ⟨h, _⟩ <;> omega
    have hE : allocE sz H b.tag (fields0 b) = (2 * (used H : Int), true, H ++ [(b.tag, fields0 b)]) := by
      unfold allocE
      rw [ha]
    have hu : used (H ++ [(b.tag, fields0 b)]) = used H + (1 + (b.str.length + b.kids.length)) := by
      rw [used_append]
      simp only [used, hl]
      omega
    rw [putsB, hE, ih _ _ (fun c hc => h1 c (List.mem_cons_of_mem _ hc)) (by rw [hu]; simp only [needN] at h2; omega), hu]
    simp [addrs]
theorem idxF_mid {s : Nat} {H1 H2 : Hp} {b : Int × List Int} : idxF s (H1 ++ b :: H2) (2 * ((s + used H1 : Nat) : Int)) = some H1.length := by
  induction H1 generalizing s with
  | nil => simp [idxF, used]
  | cons c t ih =>
    simp only [List.cons_append, idxF, used, List.length_cons]
    rw [if_neg (by omega)]
    have := ih (s := s + (1 + c.2.length))
    rw [show s + (1 + c.2.length + used t) = s + (1 + c.2.length) + used t by omega, this]
    rfl
theorem idx_mid {H1 H2 : Hp} {b : Int × List Int} : idx (H1 ++ b :: H2) (2 * (used H1 : Int)) = some H1.length := by
  have := idxF_mid (s := 0) (H1 := H1) (H2 := H2) (b := b)
  rwa [Nat.zero_add] at this
theorem blk_mid {H1 H2 : Hp} {b : Int × List Int} : blk (H1 ++ b :: H2) (2 * (used H1 : Int)) = b := by
  unfold blk
  rw [idx_mid]
  simp
theorem modify_mid {α : Type} (l1 : List α) (a : α) (l2 : List α) (f : α → α) : (l1 ++ a :: l2).modify l1.length f = l1 ++ f a :: l2 := by
  induction l1 with
  | nil => rfl
  | cons c t ih => rw [List.cons_append, List.length_cons, List.modify_succ_cons, ih]; rfl
theorem setF_mid {H1 H2 : Hp} {t : Int} {fs : List Int} (k : Nat) (v : Int) : setF (H1 ++ (t, fs) :: H2) H1.length k v = H1 ++ (t, fs.set k v) :: H2 := by
  unfold setF
  rw [modify_mid]
theorem put_mid {H1 H2 : Hp} {t : Int} {fs : List Int} {k : Nat} (hk : k < fs.length) (v : Int) : putE (H1 ++ (t, fs) :: H2) (2 * (used H1 : Int)) (k : Int) v = (true, H1 ++ (t, fs.set k v) :: H2) := by
  unfold putE put
  rw [idx_mid, blk_mid]
  simp only
  rw [if_neg (by omega), Int.toNat_natCast, setF_mid]
theorem setK_mid (l : List Int) (H1 H2 : Hp) (t : Int) : ∀ (ks : List (Bool × Int)) (k : Nat) (fs : List Int), fs.length = k + ks.length → setK l (2 * (used H1 : Int)) k ks (H1 ++ (t, fs) :: H2) = H1 ++ (t, fs.take k ++ ks.map (wordG l)) :: H2 := by
  intro ks
  induction ks with
  | nil =>
    intro k fs h
    rw [setK, List.take_of_length_le (by simp at h; omega)]
    simp
  | cons x u ih =>
    intro k fs h
    rw [List.length_cons] at h
    rw [setK, put_mid (by omega), ih (k + 1) _ (by rw [List.length_set]; omega)]
    have : (fs.set k (wordG l x)).take (k + 1) = fs.take k ++ [wordG l x] := by
      rw [List.take_succ_eq_append_getElem (by rw [List.length_set]; omega), List.getElem_set_self, List.take_set_of_le (Nat.le_refl _)]
    rw [this]
    simp
theorem setB_all (l : List Int) : ∀ (bs : List Blk) (i : Nat) (H1 : Hp), (∀ b ∈ bs, blkOk b = true) → l.drop i = addrs (used H1) bs → setB l i bs (H1 ++ bs.map fun b => (b.tag, fields0 b)) = H1 ++ bs.map (full l) := by
  intro bs
  induction bs with
  | nil => intro i H1 h1 h2; rfl
  | cons b t ih =>
    intro i H1 h1 h2
    have hb := h1 b List.mem_cons_self
    rw [addrs] at h2
    have hi : l.getD i 0 = 2 * (used H1 : Int) := by
      have := congrArg (fun x => x[0]?) h2
      simp only [List.getElem?_drop, Nat.add_zero, List.getElem?_cons_zero] at this
      rw [List.getD_eq_getElem?_getD, this]
      rfl
    have hd : l.drop (i + 1) = addrs (used H1 + (1 + (b.str.length + b.kids.length))) t := by
      have := congrArg List.tail h2
      simpa using this
    rw [setB, hi, List.map_cons]
    have hf : setK l (2 * (used H1 : Int)) 0 b.kids (H1 ++ (b.tag, fields0 b) :: t.map fun b => (b.tag, fields0 b)) = H1 ++ full l b :: t.map fun b => (b.tag, fields0 b) := by
      rcases blkOk_cases hb with ⟨h3, h4⟩ | ⟨h3, h4⟩
      · rw [h4, setK]
        unfold full fields0
        rw [if_pos h3, h4]
        simp
      · rw [setK_mid l H1 _ _ b.kids 0 _ (by rw [fields0_len hb, h4]; simp)]
        unfold full
        rw [h4]
        simp [wordsOf]
    rw [hf]
    have hu : used (H1 ++ [full l b]) = used H1 + (1 + (b.str.length + b.kids.length)) := by
      rw [used_append]
      simp [used, full, wordsOf_len]
    have := ih (i + 1) (H1 ++ [full l b]) (fun c hc => h1 c (List.mem_cons_of_mem _ hc)) (by rw [hu]; exact hd)
    simpa using this
/-- What Build does where there are words enough. -/
theorem build_yes {sz : Nat} {H : Hp} {g : Gr} (hg : isG g = true) (hn : used H + needN g.blocks ≤ sz) :
    buildG sz H g = (wordG (addrs (used H) g.blocks) g.root, 0, H ++ g.blocks.map (full (addrs (used H) g.blocks))) := by
  have hall := isG_all hg
  have hp := puts_yes sz g.blocks [] H (fun b hb => (hall.1 b hb).1) hn
  rw [List.nil_append] at hp
  unfold buildG
  rw [if_pos hg, if_neg (by omega), hp, setB_all _ _ 0 H (fun b hb => (hall.1 b hb).1) rfl]
theorem addrs_len (s : Nat) (bs : List Blk) : (addrs s bs).length = bs.length := by
  induction bs generalizing s with
  | nil => rfl
  | cons b t ih => simp [addrs, ih]
theorem addrs_ge (s : Nat) (bs : List Blk) : ∀ x ∈ addrs s bs, 2 * (s : Int) ≤ x ∧ x % 2 = 0 := by
  induction bs generalizing s with
  | nil => intro x h; cases h
  | cons b t ih =>
    intro x h
    rw [addrs] at h
    rcases List.mem_cons.1 h with rfl | h
    · omega
    · have := ih _ x h
      omega
theorem addrs_nodup (s : Nat) (bs : List Blk) : (addrs s bs).Nodup := by
  induction bs generalizing s with
  | nil => exact List.nodup_nil
  | cons b t ih =>
    rw [addrs, List.nodup_cons]
    refine ⟨fun h => ?_, ih _⟩
    have := addrs_ge _ _ _ h
    omega
theorem addrs_blk (l : List Int) : ∀ (bs : List Blk) (H1 : Hp) (i : Nat) (a : Int) (b : Blk), (addrs (used H1) bs)[i]? = some a → bs[i]? = some b → blk (H1 ++ bs.map (full l)) a = full l b := by
  intro bs
  induction bs with
  | nil => intro H1 i a b h; cases h
  | cons c t ih =>
    intro H1 i a b h1 h2
    rw [addrs] at h1
    cases i with
    | zero =>
      cases h1
      cases h2
      exact blk_mid
    | succ i =>
      have hu : used (H1 ++ [full l c]) = used H1 + (1 + (c.str.length + c.kids.length)) := by
        rw [used_append]
        simp [used, full, wordsOf_len]
      rw [List.getElem?_cons_succ] at h1 h2
      rw [← hu] at h1
      have := ih (H1 ++ [full l c]) i a b h1 h2
      simpa using this
theorem pos_get {ws : List Int} (h : ws.Nodup) {i : Nat} (hi : i < ws.length) : pos ws ws[i] = some i := by
  induction ws generalizing i with
  | nil => simp at hi
  | cons a t ih =>
    rw [List.nodup_cons] at h
    cases i with
    | zero => simp [pos]
    | succ i =>
      have hi' : i < t.length := by simpa using hi
      rw [pos, List.getElem_cons_succ, if_neg (fun e => h.1 (by rw [e]; exact List.getElem_mem hi')), ih h.2 hi']
      rfl
theorem pos_take {ws : List Int} (h : ws.Nodup) {i n : Nat} (hi : i < ws.length) : pos (ws.take n) ws[i] = if i < n then some i else none := by
  by_cases c : i < n
  · rw [if_pos c]
    have h2 : i < (ws.take n).length := by rw [List.length_take]; omega
    have := pos_get (h.sublist (List.take_sublist n ws)) h2
    rwa [List.getElem_take] at this
  · rw [if_neg c, pos_none]
    intro hm
    obtain ⟨j, hj, e⟩ := List.mem_iff_getElem.1 hm
    rw [List.length_take] at hj
    rw [List.getElem_take] at e
    have hj' : j < ws.length := by omega
    have e1 := pos_get h hj'
    rw [e, pos_get h hi] at e1
    cases e1
    omega
/-- The blocks from n on, up to m. -/
def seg (bs : List Blk) (n m : Nat) : List Blk := (bs.take m).drop n
theorem seg_nil (bs : List Blk) (n : Nat) : seg bs n n = [] := by
  unfold seg
  rw [List.drop_eq_nil_iff, List.length_take]
  omega
theorem seg_app {bs : List Blk} {n m p : Nat} (h1 : n ≤ m) (h2 : m ≤ p) (h3 : m ≤ bs.length) : seg bs n m ++ seg bs m p = seg bs n p := by
  unfold seg
  have e : bs.take p = bs.take m ++ (bs.take p).drop m := by
    have := (List.take_append_drop m (bs.take p)).symm
    rwa [List.take_take, Nat.min_eq_left h2] at this
  conv => rhs; rw [e]
  rw [List.drop_append_of_le_length (by rw [List.length_take]; omega)]
theorem seg_one {bs : List Blk} {n : Nat} {b : Blk} (h : bs[n]? = some b) : seg bs n (n + 1) = [b] := by
  obtain ⟨hlt, rfl⟩ := List.getElem?_eq_some_iff.1 h
  unfold seg
  rw [List.take_succ_eq_append_getElem hlt, List.drop_append_of_le_length (by rw [List.length_take]; omega), List.drop_of_length_le (by rw [List.length_take]; omega)]
  rfl
theorem kids_draw {bs : List Blk} {ws : List Int} {r : Int → Dw → (Bool × Int) × Dw} {c : Bool × Int → Nat → Option Nat} {Z : Nat → Prop} (hZ : ∀ x n m, c x n = some m → n ≤ bs.length → n ≤ m ∧ m ≤ bs.length ∧ (Z n → Z m))
    (hr : ∀ x n m B, c x n = some m → n ≤ bs.length → Z n → wordG ws x = wordG ws x → B.length = n → r (wordG ws x) ⟨ws.take n, B, false⟩ = (x, ⟨ws.take m, B ++ seg bs n m, false⟩)) :
    ∀ (ks : List (Bool × Int)) (n m : Nat) (B : List Blk), kidsC c ks n = some m → n ≤ bs.length → Z n → B.length = n → kidsP r (ks.map (wordG ws)) ⟨ws.take n, B, false⟩ = (ks, ⟨ws.take m, B ++ seg bs n m, false⟩) := by
  intro ks
  induction ks with
  | nil =>
    intro n m B h hn hz hB
    cases h
    rw [seg_nil, List.append_nil]
    rfl
  | cons a t ih =>
    intro n m B h hn hz hB
    rw [kidsC] at h
    cases ha : c a n with
    | none => rw [ha] at h; cases h
    | some k =>
      rw [ha] at h
      obtain ⟨h1, h2, h3⟩ := hZ a n k ha hn
      have h4 : kidsC c t k = some m := h
      have hkm : k ≤ m ∧ m ≤ bs.length := by
        have := kidsC_all (r := c) (m0 := bs.length) (P := fun _ => True) (Q := fun _ _ => True) (fun _ _ _ _ _ => trivial) (fun x n m e1 e2 => ⟨(hZ x n m e1 e2).1, (hZ x n m e1 e2).2.1, fun _ _ _ => trivial, trivial⟩) t k m h4 h2
        exact ⟨this.1, this.2.1⟩
      have hBl : (B ++ seg bs n k).length = k := by
        rw [List.length_append, hB]
        unfold seg
        rw [List.length_drop, List.length_take]
        omega
      rw [List.map_cons, kidsP, hr a n k B ha hn hz rfl hB]
      simp only
      rw [ih k m _ h4 h2 (h3 hz) hBl, List.append_assoc, seg_app h1 hkm.1 h2]
/-- A graph that was put is drawn as it is. -/
theorem draw_put {H : Hp} {bs : List Blk} {ws : List Int} {U : List Int} (hws : ws = addrs (used H) bs) (hU : ∀ x ∈ ws, x ∈ U) : ∀ (f F : Nat) (x : Bool × Int) (n m : Nat) (B : List Blk), chkP bs f x n = some m → n ≤ bs.length → uns U (ws.take n) < F → B.length = n →
    refP F (H ++ bs.map (full ws)) (wordG ws x) ⟨ws.take n, B, false⟩ = (x, ⟨ws.take m, B ++ seg bs n m, false⟩) := by
  have hnd : ws.Nodup := hws ▸ addrs_nodup _ _
  have hlen : ws.length = bs.length := by rw [hws, addrs_len]
  have hev : ∀ x ∈ ws, x % 2 = 0 := fun x hx => (addrs_ge _ _ x (hws ▸ hx)).2
  intro f
  induction f with
  | zero => intro F x n m B h; cases h
  | succ f ih =>
    intro F x n m B h hn hF hB
    have hall := chkP_all bs (f + 1) x n m h hn
    obtain ⟨F, rfl⟩ : ∃ k, F = k + 1 := ⟨F - 1, by omega⟩
    obtain ⟨x1, x2⟩ := x
    rw [chkP] at h
    rw [refP]
    split at h
    · next c =>
      split at h
      · next c2 =>
        cases h
        simp only at c
        subst c
        have hf : -4611686018427387904 ≤ x2 ∧ x2 < 4611686018427387904 := by simpa [fitsN] using c2
        have e : wordG ws (true, x2) = intW x2 := rfl
        rw [e, if_pos (intW_odd x2), intW_back x2 hf.1 hf.2, seg_nil, List.append_nil]
      · cases h
    · next c =>
      have c' : x1 = false := by simpa using c
      subst c'
      have e : wordG ws (false, x2) = ws.getD x2.toNat 0 := rfl
      simp only at h
      split at h
      · next c1 =>
        split at h
        · next c2 =>
          cases h
          have hx : x2.toNat < ws.length := by omega
          have e2 : ws.getD x2.toNat 0 = ws[x2.toNat] := by simp [List.getD_eq_getElem?_getD, hx]
          rw [e, e2, if_neg (by have := hev _ (List.getElem_mem hx); omega), pos_take hnd hx, if_pos (by omega)]
          simp only
          rw [show ((x2.toNat : Nat) : Int) = x2 by omega, seg_nil, List.append_nil]
        · cases h
      · next c1 =>
        simp only [ne_eq, Decidable.not_not] at c1
        subst c1
        cases hb : bs[n]? with
        | none => rw [hb] at h; cases h
        | some b =>
          rw [hb] at h
          simp only at h
          have hlt : n < bs.length := (List.getElem?_eq_some_iff.1 hb).1
          split at h
          · next c3 =>
            have hx : n < ws.length := by omega
            have e2 : ws.getD n 0 = ws[n] := by simp [List.getD_eq_getElem?_getD, hx]
            have hblk : blk (H ++ bs.map (full ws)) ws[n] = full ws b := addrs_blk ws bs H n _ b (by rw [← hws]; exact List.getElem?_eq_getElem hx) hb
            rw [e, Int.toNat_natCast, e2, if_neg (by have := hev _ (List.getElem_mem hx); omega), pos_take hnd hx, if_neg (by omega)]
            simp only [Dw.come]
            rw [hB, ← List.take_succ_eq_append_getElem hx, hblk]
            obtain ⟨g1, g2, g3, g4⟩ := hall
            have hmod : ∀ (u : Blk → Blk) (X : List Blk), (B ++ [(⟨b.tag, [], []⟩ : Blk)] ++ X).modify n u = B ++ [u ⟨b.tag, [], []⟩] ++ X := by
              intro u X
              rw [List.append_assoc, ← hB]
              have := modify_mid B (⟨b.tag, [], []⟩ : Blk) X u
              simpa using this
            have hsg : ∀ m, n + 1 ≤ m → B ++ [b] ++ seg bs (n + 1) m = B ++ seg bs n m := by
              intro m hm
              rw [List.append_assoc, ← seg_one hb, seg_app (by omega) hm (by omega)]
            refine Prod.ext rfl ?_
            show fillP (refP F (H ++ bs.map (full ws))) (H ++ bs.map (full ws)) ws[n] n ⟨ws.take (n + 1), B ++ [⟨b.tag, [], []⟩], false⟩ = ⟨ws.take m, B ++ seg bs n m, false⟩
            have ht : (blk (H ++ bs.map (full ws)) ws[n]).1 = b.tag := by rw [hblk]; rfl
            have hfs : (blk (H ++ bs.map (full ws)) ws[n]).2 = wordsOf b.str ++ b.kids.map (wordG ws) := by rw [hblk]; rfl
            unfold fillP
            rw [ht, hfs]
            rcases blkOk_cases c3 with ⟨h3, h4⟩ | ⟨h3, h4⟩
            · rw [if_neg (show ¬ (b.tag = 0 ∨ b.tag = 8) by omega), if_pos h3]
              rw [h4, kidsC] at h
              cases h
              have htx : textH (H ++ bs.map (full ws)) ws[n] = some b.str := by
                unfold textH
                rw [hblk]
                simp only [full, h4, List.map_nil, List.append_nil]
                rw [if_pos h3, textB_words]
              rw [htx]
              have := hmod (fun c => c.str! b.str) []
              rw [List.append_nil, List.append_nil] at this
              simp only [Option.getD_some, Option.isSome_some, Bool.not_true, Bool.or_false]
              rw [this]
              have e3 : Blk.str! ⟨b.tag, [], []⟩ b.str = b := by
                obtain ⟨t, s, k⟩ := b
                simp only at h4
                subst h4
                rfl
              rw [e3, ← seg_one hb]
            · rw [if_neg (show ¬ (b.tag = 0 ∨ b.tag = 8) by omega), if_neg (show ¬ b.tag = 1 by omega), if_neg (show ¬ (b.tag = 6 ∨ b.tag = 7) by omega)]
              have hw0 : wordsOf b.str ++ b.kids.map (wordG ws) = b.kids.map (wordG ws) := by rw [h4]; rfl
              rw [hw0]
              have hm1 := kidsC_all (r := chkP bs f) (m0 := bs.length) (P := fun _ => True) (Q := fun _ _ => True) (fun _ _ _ _ _ => trivial) (fun x n m e1 e2 => ⟨(chkP_all bs f x n m e1 e2).1, (chkP_all bs f x n m e1 e2).2.1, fun _ _ _ => trivial, trivial⟩) b.kids (n + 1) m h (by omega)
              have hk := kids_draw (bs := bs) (ws := ws) (r := refP F (H ++ bs.map (full ws))) (c := chkP bs f) (Z := fun n => uns U (ws.take n) < F)
                (fun x n m e1 e2 => by
                  obtain ⟨a1, a2, _⟩ := chkP_all bs f x n m e1 e2
                  exact ⟨a1, a2, fun hz => Nat.lt_of_le_of_lt (uns_pre (List.take_prefix_take_left a1)) hz⟩)
                (fun x n m B e1 e2 e3 _ e5 => ih F x n m B e1 e2 e3 e5)
                b.kids (n + 1) m (B ++ [⟨b.tag, [], []⟩]) h (by omega)
                (by
                  have h5 : ws[n] ∉ ws.take n := by rw [← pos_none, pos_take hnd hx, if_neg (by omega)]
                  have := uns_snoc (hU _ (List.getElem_mem hx)) h5
                  rw [← List.take_succ_eq_append_getElem hx] at this
                  omega)
                (by simp [hB])
              rw [hk]
              simp only
              rw [hmod (fun c => c.kids! b.kids)]
              have e3 : Blk.kids! ⟨b.tag, [], []⟩ b.kids = b := by
                obtain ⟨t, s, k⟩ := b
                simp only at h4
                subst h4
                rfl
              rw [e3, hsg m hm1.1]
          · cases h
end Em
end Go.Proofs.Ytoehaijmkmdggaa
namespace Go.Proofs.Ytoehaijmkmdggaa
open Go.RowKit Go.Maps
set_option linter.unusedVariables false
set_option linter.unusedSimpArgs false
set_option maxRecDepth 100000
theorem shapeFields (w : World) (t : Int) (s : List UInt8) (A : Option Addr) (n c : Nat) (hs : s.length ≤ 100000) (hn : n ≤ 100000) : Calls Try.prog 37 #[.agg #[.int .i64 t, .string (str s), .slice A n c]] w fun e w' => e = .returned (.int .i64 ((s.length + n : Nat) : Int)) ∧ Keep w w' := by
  have hsz := str_size s
  go_enter Try.func37, Try.ntmps37
  go_wp2_with fail
  go_ret
  exact ⟨ret_int (by simp), (by repeat (first | exact Keep.rf _ | assumption | apply Keep.al | apply Keep.dr | apply Keep.dn))⟩
theorem is_cell {w : World} {A : Option Addr} {n c : Nat} {l : List Int} (h : Is w (.slice A n c) l) {k : Nat} (hk : k < l.length) : n = l.length ∧ ∃ ad, A = some ad ∧ w.cell? (ad.add k) = some (.int .i64 l[k]) := by
  obtain ⟨A', c', e, _, _, h3⟩ := h
  cases e
  simp only [List.length_map] at h3 ⊢
  obtain ⟨ad, rfl, h4⟩ := h3 (by simpa using (by omega : 0 < l.length))
  refine ⟨trivial, ad, rfl, ?_⟩
  have := h4 k (by simpa using hk)
  simpa using this
set_option maxHeartbeats 4000000 in
theorem refWord18 (w : World) (x : Bool × Int) (v : Value) (ws : List Int) (hv : Is w v ws) (hx : Em.refOk ws.length x) : Calls Try.prog 58 #[.agg #[.bool x.1, .int .i64 x.2], v] w fun e w' => e = .returned (.int .i64 (Em.wordG ws x)) ∧ Keep w w' := by
  obtain ⟨x1, x2⟩ := x
  obtain ⟨A, c, rfl, v1, v2, _⟩ := id hv
  simp only [List.length_map] at v1 ⊢
  cases x1 with
  | true =>
    have HX := hide (show Em.wordG ws (true, x2) = intW x2 from rfl)
    go_enter Try.func58, Try.ntmps58
    go_wp2_with fail
    refine (refInt x2 _).mono ?_
    rintro e w' ⟨rfl, rfl⟩
    generalize intW x2 = y at *
    go_wp2_with fail
    go_ret
    rw [HX.out]
    exact ⟨rfl, (by repeat (first | exact Keep.rf _ | assumption | apply Keep.al | apply Keep.dr | apply Keep.dn))⟩
  | false =>
    obtain ⟨k, rfl⟩ : ∃ k : Nat, x2 = (k : Int) := by
      rcases hx with ⟨h, _⟩ | ⟨_, h, _⟩
      · cases h
      · exact ⟨x2.toNat, by omega⟩
    have hk : k < ws.length := by
      rcases hx with ⟨h, _⟩ | ⟨_, _, h⟩
      · cases h
      · simpa using h
    have hki : (k : Int) < (ws.length : Int) := by omega
    simp only [List.length_map] at hv
    obtain ⟨_, ad, rfl, hc⟩ := is_cell hv hk
    have hc' := fun o => Keep.cell ((Keep.rf w).al o) hc
    have HX := hide (show Em.wordG ws (false, (k : Int)) = ws[k] from by simp [Em.wordG, List.getD_eq_getElem?_getD, hk])
    generalize ws[k] = y at *
    go_enter Try.func58, Try.ntmps58
    go_wp2_with fail
    go_ret
    rw [HX.out]
    exact ⟨rfl, (by repeat (first | exact Keep.rf _ | assumption | apply Keep.al | apply Keep.dr | apply Keep.dn))⟩
set_option maxHeartbeats 4000000 in
theorem wordClo (w : World) (x : Bool × Int) (b : Nat) (v : Value) (ws : List Int) (hb : w.cell? ⟨b, 0, none⟩ = some v) (hv : Is w v ws) (hx : Em.refOk ws.length x) : Calls Try.prog 42 #[.agg #[.bool x.1, .int .i64 x.2], .pointer (some ⟨b, 0, none⟩)] w fun e w' => e = .returned (.int .i64 (Em.wordG ws x)) ∧ Keep w w' := by
  obtain ⟨x1, x2⟩ := x
  obtain ⟨A, c, rfl, v1, v2, _⟩ := id hv
  simp only [List.length_map] at v1 hb ⊢
  have hb' := fun o => Keep.cell ((Keep.rf w).al o) hb
  cases x1 with
  | true =>
    have HX := hide (show Em.wordG ws (true, x2) = intW x2 from rfl)
    go_enter Try.func42, Try.ntmps42
    go_wp2_with fail
    refine (heapInt x2 _).mono ?_
    rintro e w' ⟨rfl, rfl⟩
    generalize intW x2 = y at *
    go_wp2_with fail
    go_ret
    rw [HX.out]
    exact ⟨rfl, (by repeat (first | exact Keep.rf _ | assumption | apply Keep.al | apply Keep.dr | apply Keep.dn))⟩
  | false =>
    obtain ⟨k, rfl⟩ : ∃ k : Nat, x2 = (k : Int) := by
      rcases hx with ⟨h, _⟩ | ⟨_, h, _⟩
      · cases h
      · exact ⟨x2.toNat, by omega⟩
    have hk : k < ws.length := by
      rcases hx with ⟨h, _⟩ | ⟨_, _, h⟩
      · cases h
      · simpa using h
    have hki : (k : Int) < (ws.length : Int) := by omega
    simp only [List.length_map] at hv
    obtain ⟨_, ad, rfl, hc⟩ := is_cell hv hk
    have hc' := fun o => Keep.cell ((Keep.rf w).al o) hc
    have HX := hide (show Em.wordG ws (false, (k : Int)) = ws[k] from by simp [Em.wordG, List.getD_eq_getElem?_getD, hk])
    generalize ws[k] = y at *
    go_enter Try.func42, Try.ntmps42
    go_wp2_with fail
    go_ret
    rw [HX.out]
    exact ⟨rfl, (by repeat (first | exact Keep.rf _ | assumption | apply Keep.al | apply Keep.dr | apply Keep.dn))⟩
theorem need_drop {bs : List Em.Blk} {j : Nat} (h : j < bs.length) : Em.needN (bs.drop j) = (1 + (bs[j].str.length + bs[j].kids.length)) + Em.needN (bs.drop (j + 1)) := by
  rw [List.drop_eq_getElem_cons h]
  rfl
theorem need_le {bs : List Em.Blk} {b : Em.Blk} (h : b ∈ bs) : 1 + (b.str.length + b.kids.length) ≤ Em.needN bs := by
  induction bs with
  | nil => cases h
  | cons c t ih =>
    rw [Em.needN]
    rcases List.mem_cons.1 h with rfl | h
    · omega
    · have := ih h
      omega
theorem need_len (bs : List Em.Blk) : bs.length ≤ Em.needN bs := by
  induction bs with
  | nil => simp
  | cons c t ih =>
    rw [Em.needN, List.length_cons]
    omega
set_option maxHeartbeats 8000000 in
theorem refWords18 (w : World) (gv : Value) (g : Em.Gr) (h : GrV w gv g) (hn : Em.needN g.blocks ≤ 100000) : Calls Try.prog 53 #[gv] w fun e w' => e = .returned (.int .i64 (Em.needN g.blocks : Int)) ∧ Keep w w' := by
  obtain ⟨u, rfl, hrw, hsl⟩ := h
  obtain ⟨uA, uc, rfl, hlc, hcm, hr⟩ := hsl
  obtain ⟨⟨g1, g2⟩, bs⟩ := g
  simp only at hrw hlc hr hn ⊢
  have hA := heap_alloc_new w (.cells #[.bool g1, .int .i64 g2, .slice uA bs.length uc] 31)
  have K1 : Keep w (w.alloc (.cells #[.bool g1, .int .i64 g2, .slice uA bs.length uc] 31)) := (by repeat (first | exact Keep.rf _ | assumption | apply Keep.al | apply Keep.dr | apply Keep.dn))
  have a2 := top_cells hA 2
  simp only [List.getElem?_toArray, List.getElem?_cons_succ, List.getElem?_cons_zero] at a2
  have HK1 := hide K1
  have hnl := need_len bs
  generalize hN : Em.needN bs = N at *
  have HN := hide hN
  clear K1 hA hN
  go_enter Try.func53, Try.ntmps53
  go_wp2_with fail
  generalize World.alloc w _ = w1 at *
  go_loopw [3, 4] (fun m i W => ∃ (j : Nat) (x : Nat), j ≤ bs.length ∧ i = .int .i64 (j : Int) ∧ m = .int .i64 (x : Int) ∧ x + Em.needN (bs.drop j) = N ∧ Keep w1 W) (fun _ i _ => bs.length - (intOf i).toNat)
  case atStart => exact ⟨0, 0, by omega, rfl, rfl, by rw [← HN.out]; simp, Keep.rf _⟩
  case round =>
    obtain ⟨j, x, hj, rfl, rfl, hx, hk⟩ := hrel
    have HX := hide hx
    have a2r := Keep.cell hk a2
    have HK := hide hk
    have HKW := hide (Keep.tr HK1.out hk)
    clear hx hk
    by_cases hlt : j < bs.length
    · have hlti : (j : Int) < (bs.length : Int) := by omega
      obtain ⟨ad, rfl, hcell⟩ := hr (by omega)
      obtain ⟨cs, hcs, hcl, hkt⟩ := hcell j hlt
      have hdr := need_drop hlt
      have hxx := HX.out
      rw [hdr] at hxx
      generalize bs[j] = b at *
      obtain ⟨kv, rfl, hbw, hks⟩ := hkt
      obtain ⟨kA, kc, rfl, kl, km, _⟩ := hks
      have q0 := Keep.cell HKW.out (hcl 0 _ rfl)
      rw [Nat.add_zero] at q0
      have q1 := cell_off (Keep.cell HKW.out (hcl 1 _ rfl))
      have q2 := cell_off (Keep.cell HKW.out (hcl 2 _ rfl))
      have hsz := str_size b.str
      have HR := hide hr
      have HXX := hide hxx
      have hb1 : x + 1 + b.str.length + b.kids.length ≤ 100000 := by omega
      clear hcell hcl hr hdr hcs hxx
      go_wp2_with fail
      apply region_all (by kernel_rfl) Keep Keep krg ktg krg ktg (fun _ _ h => h) [some 12, some 13, some 14, some 15, some 16, some 17, some 18, some 19, some 20, some 21, some 22, some 23, some 24, some 25, some 26, some 27, some 28, some 29, some 3] [eqG _ , eqG _ , eqG _ , eqG _ , eqG _ , eqG _ , eqG _ , eqG _ , eqG _ , eqG _ , eqG _ , eqG _ , eqG _ , eqG _ , eqG _ , eqG _ , eqG _ , eqG _ , eqG _ ] [⟨[], [18], true, false, false⟩, ⟨[0], [], true, false, false⟩, ⟨[], [], true, false, false⟩, ⟨[2], [], true, false, false⟩, ⟨[], [], true, false, false⟩, ⟨[3, 4], [], true, false, false⟩, ⟨[5], [], true, false, false⟩, ⟨[6], [], true, false, false⟩, ⟨[7], [], true, false, false⟩, ⟨[1, 8], [], true, false, false⟩, ⟨[], [], true, false, false⟩, ⟨[10], [], true, false, false⟩, ⟨[], [], true, false, false⟩, ⟨[11, 12], [], true, false, false⟩, ⟨[13], [], true, false, false⟩, ⟨[14], [], true, false, false⟩, ⟨[15], [], true, false, false⟩, ⟨[9, 16], [], true, false, false⟩, ⟨[17], [], true, false, false⟩] [18] (by kernel_rfl) (by kernel_rfl) 
      · refine ⟨?_, ?_, ?_, ?_, ?_, ?_, ?_, ?_, ?_, ?_, ?_, ?_, ?_, ?_, ?_, ?_, ?_, ?_, ?_, trivial⟩
        · (intro us W h9 hW hE hd hs K hK; obtain ⟨u0, u1, u2, u3, u4, u5, u6, u7, u8, u9, u10, u11, u12, u13, u14, u15, u16, u17, u18, rfl⟩ := rog 19 h9 rfl; clear h9; clear hd; simp only [SameG, usG, and_true, relG, eqG, eqG1, eqG2, eqG3, gdG, gdG1, gnG, gnG1, List.getD_cons_zero, List.getD_cons_succ, List.getElem?_cons_succ, List.getElem?_cons_zero, Option.map_some, Option.getD_some, valsG, List.map_cons, List.map_nil, List.length_cons, List.length_nil] at hs; have s18 := hs; clear hs; subst s18; simp only [fillG, List.set_cons_zero, List.set_cons_succ]; refine want_n rfl ?_; go_wp2_with (first | fail); simp only [DoneG, fillG, List.set_cons_zero, List.set_cons_succ, relG, eqG, eqG1, eqG2, eqG3, gdG, gdG1, gnG, gnG1, List.getD_cons_zero, List.getD_cons_succ, List.getElem?_cons_succ, List.getElem?_cons_zero, Option.map_some, Option.getD_some, valsG, List.map_cons, List.map_nil, List.length_cons, List.length_nil]; exact ⟨_, rfl, (by first | with_reducible assumption | exact krg _ | exact Keep.al (krg _) _), fun _ _ => rfl⟩)
        · (intro us W h9 hW hE hd hs K hK; obtain ⟨u0, u1, u2, u3, u4, u5, u6, u7, u8, u9, u10, u11, u12, u13, u14, u15, u16, u17, u18, rfl⟩ := rog 19 h9 rfl; clear h9; simp only [DepG, AtG, and_true, relG, eqG, eqG1, eqG2, eqG3, gdG, gdG1, gnG, gnG1, List.getD_cons_zero, List.getD_cons_succ, List.getElem?_cons_succ, List.getElem?_cons_zero, Option.map_some, Option.getD_some, valsG, List.map_cons, List.map_nil, List.length_cons, List.length_nil] at hd; have d0 := hd; clear hd; subst d0; clear hs; simp only [fillG, List.set_cons_zero, List.set_cons_succ]; refine want_n rfl ?_; go_wp2_with (first | fail); simp only [DoneG, fillG, List.set_cons_zero, List.set_cons_succ, relG, eqG, eqG1, eqG2, eqG3, gdG, gdG1, gnG, gnG1, List.getD_cons_zero, List.getD_cons_succ, List.getElem?_cons_succ, List.getElem?_cons_zero, Option.map_some, Option.getD_some, valsG, List.map_cons, List.map_nil, List.length_cons, List.length_nil]; exact ⟨_, rfl, (by first | with_reducible assumption | exact krg _ | exact Keep.al (krg _) _), fun _ _ => rfl⟩)
        · (intro us W h9 hW hE hd hs K hK; obtain ⟨u0, u1, u2, u3, u4, u5, u6, u7, u8, u9, u10, u11, u12, u13, u14, u15, u16, u17, u18, rfl⟩ := rog 19 h9 rfl; clear h9; clear hd; clear hs; simp only [fillG, List.set_cons_zero, List.set_cons_succ]; refine want_n rfl ?_; go_wp2_with (first | fail); simp only [DoneG, fillG, List.set_cons_zero, List.set_cons_succ, relG, eqG, eqG1, eqG2, eqG3, gdG, gdG1, gnG, gnG1, List.getD_cons_zero, List.getD_cons_succ, List.getElem?_cons_succ, List.getElem?_cons_zero, Option.map_some, Option.getD_some, valsG, List.map_cons, List.map_nil, List.length_cons, List.length_nil]; exact ⟨_, rfl, (by first | with_reducible assumption | exact krg _ | exact Keep.al (krg _) _), fun _ _ => rfl⟩)
        · (intro us W h9 hW hE hd hs K hK; obtain ⟨u0, u1, u2, u3, u4, u5, u6, u7, u8, u9, u10, u11, u12, u13, u14, u15, u16, u17, u18, rfl⟩ := rog 19 h9 rfl; clear h9; simp only [DepG, AtG, and_true, relG, eqG, eqG1, eqG2, eqG3, gdG, gdG1, gnG, gnG1, List.getD_cons_zero, List.getD_cons_succ, List.getElem?_cons_succ, List.getElem?_cons_zero, Option.map_some, Option.getD_some, valsG, List.map_cons, List.map_nil, List.length_cons, List.length_nil] at hd; have d2 := hd; clear hd; subst d2; clear hs; simp only [fillG, List.set_cons_zero, List.set_cons_succ]; have hKW := Keep.tr (Keep.dr (Keep.rf _)) (hE rfl); have a2r := Keep.cell hKW a2r; have q0 := Keep.cell hKW q0; have q1 := Keep.cell hKW q1; have q2 := Keep.cell hKW q2; refine want_n rfl ?_; go_wp2_with (first | fail); simp only [DoneG, fillG, List.set_cons_zero, List.set_cons_succ, relG, eqG, eqG1, eqG2, eqG3, gdG, gdG1, gnG, gnG1, List.getD_cons_zero, List.getD_cons_succ, List.getElem?_cons_succ, List.getElem?_cons_zero, Option.map_some, Option.getD_some, valsG, List.map_cons, List.map_nil, List.length_cons, List.length_nil]; exact ⟨_, rfl, (by first | with_reducible assumption | exact krg _ | exact Keep.al (krg _) _), fun _ _ => rfl⟩)
        · (intro us W h9 hW hE hd hs K hK; obtain ⟨u0, u1, u2, u3, u4, u5, u6, u7, u8, u9, u10, u11, u12, u13, u14, u15, u16, u17, u18, rfl⟩ := rog 19 h9 rfl; clear h9; clear hd; clear hs; simp only [fillG, List.set_cons_zero, List.set_cons_succ]; refine want_n rfl ?_; go_wp2_with (first | fail); simp only [DoneG, fillG, List.set_cons_zero, List.set_cons_succ, relG, eqG, eqG1, eqG2, eqG3, gdG, gdG1, gnG, gnG1, List.getD_cons_zero, List.getD_cons_succ, List.getElem?_cons_succ, List.getElem?_cons_zero, Option.map_some, Option.getD_some, valsG, List.map_cons, List.map_nil, List.length_cons, List.length_nil]; exact ⟨_, rfl, (by first | with_reducible assumption | exact krg _ | exact Keep.al (krg _) _), fun _ _ => rfl⟩)
        · (intro us W h9 hW hE hd hs K hK; obtain ⟨u0, u1, u2, u3, u4, u5, u6, u7, u8, u9, u10, u11, u12, u13, u14, u15, u16, u17, u18, rfl⟩ := rog 19 h9 rfl; clear h9; simp only [DepG, AtG, and_true, relG, eqG, eqG1, eqG2, eqG3, gdG, gdG1, gnG, gnG1, List.getD_cons_zero, List.getD_cons_succ, List.getElem?_cons_succ, List.getElem?_cons_zero, Option.map_some, Option.getD_some, valsG, List.map_cons, List.map_nil, List.length_cons, List.length_nil] at hd; obtain ⟨d3, d4⟩ := hd; subst d3; subst d4; clear hs; simp only [fillG, List.set_cons_zero, List.set_cons_succ]; refine want_n rfl ?_; go_wp2_with (first | fail); simp only [DoneG, fillG, List.set_cons_zero, List.set_cons_succ, relG, eqG, eqG1, eqG2, eqG3, gdG, gdG1, gnG, gnG1, List.getD_cons_zero, List.getD_cons_succ, List.getElem?_cons_succ, List.getElem?_cons_zero, Option.map_some, Option.getD_some, valsG, List.map_cons, List.map_nil, List.length_cons, List.length_nil]; exact ⟨_, rfl, (by first | with_reducible assumption | exact krg _ | exact Keep.al (krg _) _), fun _ _ => rfl⟩)
        · (intro us W h9 hW hE hd hs K hK; obtain ⟨u0, u1, u2, u3, u4, u5, u6, u7, u8, u9, u10, u11, u12, u13, u14, u15, u16, u17, u18, rfl⟩ := rog 19 h9 rfl; clear h9; simp only [DepG, AtG, and_true, relG, eqG, eqG1, eqG2, eqG3, gdG, gdG1, gnG, gnG1, List.getD_cons_zero, List.getD_cons_succ, List.getElem?_cons_succ, List.getElem?_cons_zero, Option.map_some, Option.getD_some, valsG, List.map_cons, List.map_nil, List.length_cons, List.length_nil] at hd; have d5 := hd; clear hd; subst d5; clear hs; simp only [fillG, List.set_cons_zero, List.set_cons_succ]; refine want_n rfl ?_; go_wp2_with (first | fail); simp only [DoneG, fillG, List.set_cons_zero, List.set_cons_succ, relG, eqG, eqG1, eqG2, eqG3, gdG, gdG1, gnG, gnG1, List.getD_cons_zero, List.getD_cons_succ, List.getElem?_cons_succ, List.getElem?_cons_zero, Option.map_some, Option.getD_some, valsG, List.map_cons, List.map_nil, List.length_cons, List.length_nil]; exact ⟨_, rfl, (by first | with_reducible assumption | exact krg _ | exact Keep.al (krg _) _), fun _ _ => rfl⟩)
        · (intro us W h9 hW hE hd hs K hK; obtain ⟨u0, u1, u2, u3, u4, u5, u6, u7, u8, u9, u10, u11, u12, u13, u14, u15, u16, u17, u18, rfl⟩ := rog 19 h9 rfl; clear h9; simp only [DepG, AtG, and_true, relG, eqG, eqG1, eqG2, eqG3, gdG, gdG1, gnG, gnG1, List.getD_cons_zero, List.getD_cons_succ, List.getElem?_cons_succ, List.getElem?_cons_zero, Option.map_some, Option.getD_some, valsG, List.map_cons, List.map_nil, List.length_cons, List.length_nil] at hd; have d6 := hd; clear hd; subst d6; clear hs; simp only [fillG, List.set_cons_zero, List.set_cons_succ]; have hKW := Keep.tr (Keep.dr (Keep.rf _)) (hE rfl); have a2r := Keep.cell hKW a2r; have q0 := Keep.cell hKW q0; have q1 := Keep.cell hKW q1; have q2 := Keep.cell hKW q2; refine want_n rfl ?_; go_wp2_with (first | fail); simp only [DoneG, fillG, List.set_cons_zero, List.set_cons_succ, relG, eqG, eqG1, eqG2, eqG3, gdG, gdG1, gnG, gnG1, List.getD_cons_zero, List.getD_cons_succ, List.getElem?_cons_succ, List.getElem?_cons_zero, Option.map_some, Option.getD_some, valsG, List.map_cons, List.map_nil, List.length_cons, List.length_nil]; exact ⟨_, rfl, (by first | with_reducible assumption | exact krg _ | exact Keep.al (krg _) _), fun _ _ => rfl⟩)
        · (intro us W h9 hW hE hd hs K hK; obtain ⟨u0, u1, u2, u3, u4, u5, u6, u7, u8, u9, u10, u11, u12, u13, u14, u15, u16, u17, u18, rfl⟩ := rog 19 h9 rfl; clear h9; simp only [DepG, AtG, and_true, relG, eqG, eqG1, eqG2, eqG3, gdG, gdG1, gnG, gnG1, List.getD_cons_zero, List.getD_cons_succ, List.getElem?_cons_succ, List.getElem?_cons_zero, Option.map_some, Option.getD_some, valsG, List.map_cons, List.map_nil, List.length_cons, List.length_nil] at hd; have d7 := hd; clear hd; subst d7; clear hs; simp only [fillG, List.set_cons_zero, List.set_cons_succ]; have hKW := Keep.tr (Keep.dr (Keep.rf _)) (hE rfl); have a2r := Keep.cell hKW a2r; have q0 := Keep.cell hKW q0; have q1 := Keep.cell hKW q1; have q2 := Keep.cell hKW q2; refine want_n rfl ?_; go_wp2_with (first | fail); simp only [DoneG, fillG, List.set_cons_zero, List.set_cons_succ, relG, eqG, eqG1, eqG2, eqG3, gdG, gdG1, gnG, gnG1, List.getD_cons_zero, List.getD_cons_succ, List.getElem?_cons_succ, List.getElem?_cons_zero, Option.map_some, Option.getD_some, valsG, List.map_cons, List.map_nil, List.length_cons, List.length_nil]; exact ⟨_, rfl, (by first | with_reducible assumption | exact krg _ | exact Keep.al (krg _) _), fun _ _ => rfl⟩)
        · (intro us W h9 hW hE hd hs K hK; obtain ⟨u0, u1, u2, u3, u4, u5, u6, u7, u8, u9, u10, u11, u12, u13, u14, u15, u16, u17, u18, rfl⟩ := rog 19 h9 rfl; clear h9; simp only [DepG, AtG, and_true, relG, eqG, eqG1, eqG2, eqG3, gdG, gdG1, gnG, gnG1, List.getD_cons_zero, List.getD_cons_succ, List.getElem?_cons_succ, List.getElem?_cons_zero, Option.map_some, Option.getD_some, valsG, List.map_cons, List.map_nil, List.length_cons, List.length_nil] at hd; obtain ⟨d1, d8⟩ := hd; subst d1; subst d8; clear hs; simp only [fillG, List.set_cons_zero, List.set_cons_succ]; refine want_n rfl ?_; go_wp2_with (first | fail); simp only [DoneG, fillG, List.set_cons_zero, List.set_cons_succ, relG, eqG, eqG1, eqG2, eqG3, gdG, gdG1, gnG, gnG1, List.getD_cons_zero, List.getD_cons_succ, List.getElem?_cons_succ, List.getElem?_cons_zero, Option.map_some, Option.getD_some, valsG, List.map_cons, List.map_nil, List.length_cons, List.length_nil]; exact ⟨_, rfl, (by first | with_reducible assumption | exact krg _ | exact Keep.al (krg _) _), fun _ _ => rfl⟩)
        · (intro us W h9 hW hE hd hs K hK; obtain ⟨u0, u1, u2, u3, u4, u5, u6, u7, u8, u9, u10, u11, u12, u13, u14, u15, u16, u17, u18, rfl⟩ := rog 19 h9 rfl; clear h9; clear hd; clear hs; simp only [fillG, List.set_cons_zero, List.set_cons_succ]; refine want_n rfl ?_; go_wp2_with (first | fail); simp only [DoneG, fillG, List.set_cons_zero, List.set_cons_succ, relG, eqG, eqG1, eqG2, eqG3, gdG, gdG1, gnG, gnG1, List.getD_cons_zero, List.getD_cons_succ, List.getElem?_cons_succ, List.getElem?_cons_zero, Option.map_some, Option.getD_some, valsG, List.map_cons, List.map_nil, List.length_cons, List.length_nil]; exact ⟨_, rfl, (by first | with_reducible assumption | exact krg _ | exact Keep.al (krg _) _), fun _ _ => rfl⟩)
        · (intro us W h9 hW hE hd hs K hK; obtain ⟨u0, u1, u2, u3, u4, u5, u6, u7, u8, u9, u10, u11, u12, u13, u14, u15, u16, u17, u18, rfl⟩ := rog 19 h9 rfl; clear h9; simp only [DepG, AtG, and_true, relG, eqG, eqG1, eqG2, eqG3, gdG, gdG1, gnG, gnG1, List.getD_cons_zero, List.getD_cons_succ, List.getElem?_cons_succ, List.getElem?_cons_zero, Option.map_some, Option.getD_some, valsG, List.map_cons, List.map_nil, List.length_cons, List.length_nil] at hd; have d10 := hd; clear hd; subst d10; clear hs; simp only [fillG, List.set_cons_zero, List.set_cons_succ]; have hKW := Keep.tr (Keep.dr (Keep.rf _)) (hE rfl); have a2r := Keep.cell hKW a2r; have q0 := Keep.cell hKW q0; have q1 := Keep.cell hKW q1; have q2 := Keep.cell hKW q2; refine want_n rfl ?_; go_wp2_with (first | fail); simp only [DoneG, fillG, List.set_cons_zero, List.set_cons_succ, relG, eqG, eqG1, eqG2, eqG3, gdG, gdG1, gnG, gnG1, List.getD_cons_zero, List.getD_cons_succ, List.getElem?_cons_succ, List.getElem?_cons_zero, Option.map_some, Option.getD_some, valsG, List.map_cons, List.map_nil, List.length_cons, List.length_nil]; exact ⟨_, rfl, (by first | with_reducible assumption | exact krg _ | exact Keep.al (krg _) _), fun _ _ => rfl⟩)
        · (intro us W h9 hW hE hd hs K hK; obtain ⟨u0, u1, u2, u3, u4, u5, u6, u7, u8, u9, u10, u11, u12, u13, u14, u15, u16, u17, u18, rfl⟩ := rog 19 h9 rfl; clear h9; clear hd; clear hs; simp only [fillG, List.set_cons_zero, List.set_cons_succ]; refine want_n rfl ?_; go_wp2_with (first | fail); simp only [DoneG, fillG, List.set_cons_zero, List.set_cons_succ, relG, eqG, eqG1, eqG2, eqG3, gdG, gdG1, gnG, gnG1, List.getD_cons_zero, List.getD_cons_succ, List.getElem?_cons_succ, List.getElem?_cons_zero, Option.map_some, Option.getD_some, valsG, List.map_cons, List.map_nil, List.length_cons, List.length_nil]; exact ⟨_, rfl, (by first | with_reducible assumption | exact krg _ | exact Keep.al (krg _) _), fun _ _ => rfl⟩)
        · (intro us W h9 hW hE hd hs K hK; obtain ⟨u0, u1, u2, u3, u4, u5, u6, u7, u8, u9, u10, u11, u12, u13, u14, u15, u16, u17, u18, rfl⟩ := rog 19 h9 rfl; clear h9; simp only [DepG, AtG, and_true, relG, eqG, eqG1, eqG2, eqG3, gdG, gdG1, gnG, gnG1, List.getD_cons_zero, List.getD_cons_succ, List.getElem?_cons_succ, List.getElem?_cons_zero, Option.map_some, Option.getD_some, valsG, List.map_cons, List.map_nil, List.length_cons, List.length_nil] at hd; obtain ⟨d11, d12⟩ := hd; subst d11; subst d12; clear hs; simp only [fillG, List.set_cons_zero, List.set_cons_succ]; refine want_n rfl ?_; go_wp2_with (first | fail); simp only [DoneG, fillG, List.set_cons_zero, List.set_cons_succ, relG, eqG, eqG1, eqG2, eqG3, gdG, gdG1, gnG, gnG1, List.getD_cons_zero, List.getD_cons_succ, List.getElem?_cons_succ, List.getElem?_cons_zero, Option.map_some, Option.getD_some, valsG, List.map_cons, List.map_nil, List.length_cons, List.length_nil]; exact ⟨_, rfl, (by first | with_reducible assumption | exact krg _ | exact Keep.al (krg _) _), fun _ _ => rfl⟩)
        · (intro us W h9 hW hE hd hs K hK; obtain ⟨u0, u1, u2, u3, u4, u5, u6, u7, u8, u9, u10, u11, u12, u13, u14, u15, u16, u17, u18, rfl⟩ := rog 19 h9 rfl; clear h9; simp only [DepG, AtG, and_true, relG, eqG, eqG1, eqG2, eqG3, gdG, gdG1, gnG, gnG1, List.getD_cons_zero, List.getD_cons_succ, List.getElem?_cons_succ, List.getElem?_cons_zero, Option.map_some, Option.getD_some, valsG, List.map_cons, List.map_nil, List.length_cons, List.length_nil] at hd; have d13 := hd; clear hd; subst d13; clear hs; simp only [fillG, List.set_cons_zero, List.set_cons_succ]; refine want_n rfl ?_; go_wp2_with (first | fail); simp only [DoneG, fillG, List.set_cons_zero, List.set_cons_succ, relG, eqG, eqG1, eqG2, eqG3, gdG, gdG1, gnG, gnG1, List.getD_cons_zero, List.getD_cons_succ, List.getElem?_cons_succ, List.getElem?_cons_zero, Option.map_some, Option.getD_some, valsG, List.map_cons, List.map_nil, List.length_cons, List.length_nil]; exact ⟨_, rfl, (by first | with_reducible assumption | exact krg _ | exact Keep.al (krg _) _), fun _ _ => rfl⟩)
        · (intro us W h9 hW hE hd hs K hK; obtain ⟨u0, u1, u2, u3, u4, u5, u6, u7, u8, u9, u10, u11, u12, u13, u14, u15, u16, u17, u18, rfl⟩ := rog 19 h9 rfl; clear h9; simp only [DepG, AtG, and_true, relG, eqG, eqG1, eqG2, eqG3, gdG, gdG1, gnG, gnG1, List.getD_cons_zero, List.getD_cons_succ, List.getElem?_cons_succ, List.getElem?_cons_zero, Option.map_some, Option.getD_some, valsG, List.map_cons, List.map_nil, List.length_cons, List.length_nil] at hd; have d14 := hd; clear hd; subst d14; clear hs; simp only [fillG, List.set_cons_zero, List.set_cons_succ]; have hKW := Keep.tr (Keep.dr (Keep.rf _)) (hE rfl); have a2r := Keep.cell hKW a2r; have q0 := Keep.cell hKW q0; have q1 := Keep.cell hKW q1; have q2 := Keep.cell hKW q2; refine want_n rfl ?_; go_wp2_with (first | fail); simp only [DoneG, fillG, List.set_cons_zero, List.set_cons_succ, relG, eqG, eqG1, eqG2, eqG3, gdG, gdG1, gnG, gnG1, List.getD_cons_zero, List.getD_cons_succ, List.getElem?_cons_succ, List.getElem?_cons_zero, Option.map_some, Option.getD_some, valsG, List.map_cons, List.map_nil, List.length_cons, List.length_nil]; exact ⟨_, rfl, (by first | with_reducible assumption | exact krg _ | exact Keep.al (krg _) _), fun _ _ => rfl⟩)
        · (intro us W h9 hW hE hd hs K hK; obtain ⟨u0, u1, u2, u3, u4, u5, u6, u7, u8, u9, u10, u11, u12, u13, u14, u15, u16, u17, u18, rfl⟩ := rog 19 h9 rfl; clear h9; simp only [DepG, AtG, and_true, relG, eqG, eqG1, eqG2, eqG3, gdG, gdG1, gnG, gnG1, List.getD_cons_zero, List.getD_cons_succ, List.getElem?_cons_succ, List.getElem?_cons_zero, Option.map_some, Option.getD_some, valsG, List.map_cons, List.map_nil, List.length_cons, List.length_nil] at hd; have d15 := hd; clear hd; subst d15; clear hs; simp only [fillG, List.set_cons_zero, List.set_cons_succ]; have hKW := Keep.tr (Keep.dr (Keep.rf _)) (hE rfl); have a2r := Keep.cell hKW a2r; have q0 := Keep.cell hKW q0; have q1 := Keep.cell hKW q1; have q2 := Keep.cell hKW q2; refine want_n rfl ?_; go_wp2_with (first | fail); simp only [DoneG, fillG, List.set_cons_zero, List.set_cons_succ, relG, eqG, eqG1, eqG2, eqG3, gdG, gdG1, gnG, gnG1, List.getD_cons_zero, List.getD_cons_succ, List.getElem?_cons_succ, List.getElem?_cons_zero, Option.map_some, Option.getD_some, valsG, List.map_cons, List.map_nil, List.length_cons, List.length_nil]; exact ⟨_, rfl, (by first | with_reducible assumption | exact krg _ | exact Keep.al (krg _) _), fun _ _ => rfl⟩)
        · (intro us W h9 hW hE hd hs K hK; obtain ⟨u0, u1, u2, u3, u4, u5, u6, u7, u8, u9, u10, u11, u12, u13, u14, u15, u16, u17, u18, rfl⟩ := rog 19 h9 rfl; clear h9; simp only [DepG, AtG, and_true, relG, eqG, eqG1, eqG2, eqG3, gdG, gdG1, gnG, gnG1, List.getD_cons_zero, List.getD_cons_succ, List.getElem?_cons_succ, List.getElem?_cons_zero, Option.map_some, Option.getD_some, valsG, List.map_cons, List.map_nil, List.length_cons, List.length_nil] at hd; obtain ⟨d9, d16⟩ := hd; subst d9; subst d16; clear hs; simp only [fillG, List.set_cons_zero, List.set_cons_succ]; refine want_n rfl ?_; go_wp2_with (first | fail); simp only [DoneG, fillG, List.set_cons_zero, List.set_cons_succ, relG, eqG, eqG1, eqG2, eqG3, gdG, gdG1, gnG, gnG1, List.getD_cons_zero, List.getD_cons_succ, List.getElem?_cons_succ, List.getElem?_cons_zero, Option.map_some, Option.getD_some, valsG, List.map_cons, List.map_nil, List.length_cons, List.length_nil]; exact ⟨_, rfl, (by first | with_reducible assumption | exact krg _ | exact Keep.al (krg _) _), fun _ _ => rfl⟩)
        · (intro us W h9 hW hE hd hs K hK; obtain ⟨u0, u1, u2, u3, u4, u5, u6, u7, u8, u9, u10, u11, u12, u13, u14, u15, u16, u17, u18, rfl⟩ := rog 19 h9 rfl; clear h9; simp only [DepG, AtG, and_true, relG, eqG, eqG1, eqG2, eqG3, gdG, gdG1, gnG, gnG1, List.getD_cons_zero, List.getD_cons_succ, List.getElem?_cons_succ, List.getElem?_cons_zero, Option.map_some, Option.getD_some, valsG, List.map_cons, List.map_nil, List.length_cons, List.length_nil] at hd; have d17 := hd; clear hd; subst d17; clear hs; simp only [fillG, List.set_cons_zero, List.set_cons_succ]; refine want_n rfl ?_; go_wp2_with (first | fail); simp only [DoneG, fillG, List.set_cons_zero, List.set_cons_succ, relG, eqG, eqG1, eqG2, eqG3, gdG, gdG1, gnG, gnG1, List.getD_cons_zero, List.getD_cons_succ, List.getElem?_cons_succ, List.getElem?_cons_zero, Option.map_some, Option.getD_some, valsG, List.map_cons, List.map_nil, List.length_cons, List.length_nil]; exact ⟨_, rfl, (by first | with_reducible assumption | exact krg _ | exact Keep.al (krg _) _), fun _ _ => rfl⟩)
      (intro us W2 h9 hW hE hA; obtain ⟨u0, u1, u2, u3, u4, u5, u6, u7, u8, u9, u10, u11, u12, u13, u14, u15, u16, u17, u18, rfl⟩ := rog 19 h9 rfl; clear h9; simp only [AllG, AtG, and_true, relG, eqG, eqG1, eqG2, eqG3, gdG, gdG1, gnG, gnG1, List.getD_cons_zero, List.getD_cons_succ, List.getElem?_cons_succ, List.getElem?_cons_zero, Option.map_some, Option.getD_some, valsG, List.map_cons, List.map_nil, List.length_cons, List.length_nil] at hA; have d18 := hA; clear hA; subst d18; simp only [fillG, List.set_cons_zero, List.set_cons_succ]; have k2 := Keep.tr (Keep.dr (Keep.rf _)) hW; clear hW hE)
      go_wp2_with fail
      go_roundw
      case rel => exact ⟨j + 1, x + 1 + b.str.length + b.kids.length, by omega, by go_num, by go_num, by have := HXX.out; omega, Keep.tr HK.out k2⟩
      case measure => simp [intOf]; omega
    · have hlti : ¬ (j : Int) < (bs.length : Int) := by omega
      go_wp2_with fail
      go_ret
      have hx : x = N := by
        have := HX.out
        rw [List.drop_of_length_le (by omega)] at this
        simpa [Em.needN] using this
      exact ⟨by rw [hx]; rfl, HKW.out⟩
end Go.Proofs.Ytoehaijmkmdggaa
namespace Go.Proofs.Ytoehaijmkmdggaa
open Go.RowKit Go.Maps
set_option linter.unusedVariables false
set_option linter.unusedSimpArgs false
set_option maxRecDepth 100000
/-- An Alloc was answered. -/
def AllA (w : World) (p sz : Nat) (S : List Nat) (H : Em.Hp) (tag : Int) (fs : List Int) (e : Ending) (w' : World) : Prop :=
  e = .returned (.tuple #[.int .i64 (allocE sz H tag fs).1, .bool (allocE sz H tag fs).2.1]) ∧ ∃ S', HRep w' p S' sz (allocE sz H tag fs).2.2 ∧ Ext w w' S S'
def AllB (w : World) (p sz : Nat) (S : List Nat) (H : Em.Hp) (tag : Int) (fs : List Int) (e : Ending) (w' : World) : Prop :=
  e = .returned (.tuple #[.int .i64 (allocE sz H tag fs).1, .bool (allocE sz H tag fs).2.1]) ∧ ∃ S', RRep w' p S' sz (allocE sz H tag fs).2.2 ∧ Ext w w' S S'
def HalfQ (B : World) (p m : Nat) (S : List Nat) (H : Em.Hp) (W : World) : Prop := ∃ S', HRep W p S' m H ∧ Ext B W S S'
theorem HalfQ.keep {B W W' : World} {p m : Nat} {S : List Nat} {H : Em.Hp} (h : HalfQ B p m S H W) (k : Keep W W') : HalfQ B p m S H W' := by
  obtain ⟨S', h1, h2⟩ := h
  exact ⟨S', h1.keep k, h2.keep k⟩
set_option maxHeartbeats 4000000 in
theorem putClo2 {p sz : Nat} {S : List Nat} {H : Em.Hp} (w : World) (h : HRep w p S sz H) (b g : Nat) (s : List UInt8) (hb : w.cell? ⟨b, 0, none⟩ = some (.pointer (some ⟨p, 0, none⟩))) (hg : w.cell? ⟨g, 1, none⟩ = some (.string (str s))) (hs : s.length ≤ 100000) :
    Calls Try.prog 41 #[.pointer (some ⟨b, 0, none⟩), .pointer (some ⟨g, 0, none⟩)] w (AllA w p sz S H 1 (Em.fields0 ⟨1, s, []⟩)) := by
  have HA := hide (shapePut w h s hs)
  have HR := hide h
  have hfs : Em.fields0 ⟨1, s, []⟩ = wordsOf s := rfl
  rw [hfs]
  clear h hfs
  unfold AllA
  generalize hae : allocE sz H 1 (wordsOf s) = ae at *
  obtain ⟨an, ab, aH⟩ := ae
  have HAE := hide hae
  clear hae
  go_enter Try.func41, Try.ntmps41
  go_wp2_with fail
  refine HA.out.mono ?_
  rintro e w2 ⟨w1, k1, hA⟩
  obtain ⟨rfl, S2, r2, x2⟩ := hA.all (HR.out.keep k1)
  rw [HAE.out] at r2 ⊢
  have HZ := hide (And.intro r2 (Ext.of_keep k1 x2))
  clear r2 x2 hA k1
  simp only
  go_wp2_with fail
  go_ret2
  exact ⟨rfl, S2, HZ.out.1, HZ.out.2⟩
theorem wp_mkW {o : Oper} {a : Act} {W : World} {K : Act → World → Prop} {Q : Exit → Act → World → Prop} (x y : Operand) (ho : o.op = .makeSlice 68 x y) {n : Nat} (hx : a.eval x = .int .i64 (n : Int)) (hy : a.eval y = .int .i64 (n : Int)) (hn : n ≤ 1000000)
    (h : ∀ w', w'.ownsRow W.heap.size 36 1 (.slice (some ⟨W.heap.size, 0, none⟩) n n) n ((List.replicate n (0 : Int)).map (Value.int .i64)) → Keep W w' → K (a.put o.dst (.slice (some ⟨W.heap.size, 0, none⟩) n n)) w') : o.wp Try.prog a W K Q := by
  obtain ⟨w9, hm, ho9, hk9⟩ := run_makeW W n hn
  unfold Oper.wp execOp
  simp only [ho, hx, hy, Sem.run_bind, hm, Result.andThen_ok, Sem.run_pure]
  exact h w9 ho9 hk9
theorem zeros_wf0 (n : Nat) : ∀ f ∈ List.replicate n (0 : Int), (Lit.int .i64 f).wf = true := by
  intro f hf
  obtain ⟨_, rfl⟩ := List.mem_replicate.1 hf
  decide
set_option maxHeartbeats 8000000 in
theorem putClo1 {p sz : Nat} {S : List Nat} {H : Em.Hp} (w : World) (h : HRep w p S sz H) (b g : Nat) (t : Int) (A : Option Addr) (n c : Nat) (hb : w.cell? ⟨b, 0, none⟩ = some (.pointer (some ⟨p, 0, none⟩))) (hg0 : w.cell? ⟨g, 0, none⟩ = some (.int .i64 t)) (hg2 : w.cell? ⟨g, 2, none⟩ = some (.slice A n c)) (ht : (Lit.int .i64 t).wf = true) (hn : n ≤ 100000) :
    Calls Try.prog 40 #[.pointer (some ⟨b, 0, none⟩), .pointer (some ⟨g, 0, none⟩)] w (AllA w p sz S H t (List.replicate n 0)) := by
  have HR := hide h
  have hlr := hide (List.length_replicate (n := n) (a := (0 : Int)))
  clear h
  unfold AllA
  generalize hae : allocE sz H t (List.replicate n 0) = ae at *
  obtain ⟨an, ab, aH⟩ := ae
  have HAE := hide hae
  clear hae
  go_enter Try.func40, Try.ntmps40
  go_wp2_with fail
  apply region_all (by kernel_rfl) Keep AnyW krg ktg anyrf anytr anyk [some 4, some 5, some 6, some 7, some 8, some 9, some 10, some 11, some 12, some 13, some 2, some 3] [eqG _ , eqG _ , eqG _ , eqG _ , eqG _ , eqG _ , fun us W v => ∃ A c, v = .slice A n c ∧ W.ownsRow w.heap.size 36 1 (.slice A n c) n ((List.replicate n (0 : Int)).map (Value.int .i64)), fun us W v => v = .tuple #[.int .i64 an, .bool ab] ∧ HalfQ w p sz S aH W, eqG _ , eqG _ , eqG _ , eqG _ ] [⟨[], [], true, false, false⟩, ⟨[], [], true, false, false⟩, ⟨[1], [], true, false, false⟩, ⟨[], [], true, false, false⟩, ⟨[3], [], true, false, false⟩, ⟨[4], [], true, false, false⟩, ⟨[5], [], true, false, true⟩, ⟨[0, 2, 6], [], true, true, true⟩, ⟨[7], [], false, false, false⟩, ⟨[7], [], false, false, false⟩, ⟨[7, 8], [], false, false, false⟩, ⟨[7, 9], [], false, false, false⟩] [7, 10, 11] (by kernel_rfl) (by kernel_rfl) 
  · refine ⟨?_, ?_, ?_, ?_, ?_, ?_, ?_, ?_, ?_, ?_, ?_, ?_, trivial⟩
    · (intro us W h9 hW hE hd hs K hK; obtain ⟨u0, u1, u2, u3, u4, u5, u6, u7, u8, u9, u10, u11, rfl⟩ := rog 12 h9 rfl; clear h9; clear hd; clear hs; simp only [fillG, List.set_cons_zero, List.set_cons_succ]; have hKW := Keep.tr (Keep.dr (Keep.rf _)) (hE rfl); have hb := Keep.cell hKW hb; have hg0 := Keep.cell hKW hg0; have hg2 := Keep.cell hKW hg2; refine want_n rfl ?_; go_wp2_with (first | fail); simp only [DoneG, fillG, List.set_cons_zero, List.set_cons_succ, relG, eqG, eqG1, eqG2, eqG3, gdG, gdG1, gnG, gnG1, List.getD_cons_zero, List.getD_cons_succ, List.getElem?_cons_succ, List.getElem?_cons_zero, Option.map_some, Option.getD_some, valsG, List.map_cons, List.map_nil, List.length_cons, List.length_nil]; exact ⟨_, rfl, (by first | with_reducible assumption | exact krg _ | exact Keep.al (krg _) _), fun _ _ => rfl⟩)
    · (intro us W h9 hW hE hd hs K hK; obtain ⟨u0, u1, u2, u3, u4, u5, u6, u7, u8, u9, u10, u11, rfl⟩ := rog 12 h9 rfl; clear h9; clear hd; clear hs; simp only [fillG, List.set_cons_zero, List.set_cons_succ]; refine want_n rfl ?_; go_wp2_with (first | fail); simp only [DoneG, fillG, List.set_cons_zero, List.set_cons_succ, relG, eqG, eqG1, eqG2, eqG3, gdG, gdG1, gnG, gnG1, List.getD_cons_zero, List.getD_cons_succ, List.getElem?_cons_succ, List.getElem?_cons_zero, Option.map_some, Option.getD_some, valsG, List.map_cons, List.map_nil, List.length_cons, List.length_nil]; exact ⟨_, rfl, (by first | with_reducible assumption | exact krg _ | exact Keep.al (krg _) _), fun _ _ => rfl⟩)
    · (intro us W h9 hW hE hd hs K hK; obtain ⟨u0, u1, u2, u3, u4, u5, u6, u7, u8, u9, u10, u11, rfl⟩ := rog 12 h9 rfl; clear h9; simp only [DepG, AtG, and_true, relG, eqG, eqG1, eqG2, eqG3, gdG, gdG1, gnG, gnG1, List.getD_cons_zero, List.getD_cons_succ, List.getElem?_cons_succ, List.getElem?_cons_zero, Option.map_some, Option.getD_some, valsG, List.map_cons, List.map_nil, List.length_cons, List.length_nil] at hd; have d1 := hd; clear hd; subst d1; clear hs; simp only [fillG, List.set_cons_zero, List.set_cons_succ]; have hKW := Keep.tr (Keep.dr (Keep.rf _)) (hE rfl); have hb := Keep.cell hKW hb; have hg0 := Keep.cell hKW hg0; have hg2 := Keep.cell hKW hg2; refine want_n rfl ?_; go_wp2_with (first | fail); simp only [DoneG, fillG, List.set_cons_zero, List.set_cons_succ, relG, eqG, eqG1, eqG2, eqG3, gdG, gdG1, gnG, gnG1, List.getD_cons_zero, List.getD_cons_succ, List.getElem?_cons_succ, List.getElem?_cons_zero, Option.map_some, Option.getD_some, valsG, List.map_cons, List.map_nil, List.length_cons, List.length_nil]; exact ⟨_, rfl, (by first | with_reducible assumption | exact krg _ | exact Keep.al (krg _) _), fun _ _ => rfl⟩)
    · (intro us W h9 hW hE hd hs K hK; obtain ⟨u0, u1, u2, u3, u4, u5, u6, u7, u8, u9, u10, u11, rfl⟩ := rog 12 h9 rfl; clear h9; clear hd; clear hs; simp only [fillG, List.set_cons_zero, List.set_cons_succ]; refine want_n rfl ?_; go_wp2_with (first | fail); simp only [DoneG, fillG, List.set_cons_zero, List.set_cons_succ, relG, eqG, eqG1, eqG2, eqG3, gdG, gdG1, gnG, gnG1, List.getD_cons_zero, List.getD_cons_succ, List.getElem?_cons_succ, List.getElem?_cons_zero, Option.map_some, Option.getD_some, valsG, List.map_cons, List.map_nil, List.length_cons, List.length_nil]; exact ⟨_, rfl, (by first | with_reducible assumption | exact krg _ | exact Keep.al (krg _) _), fun _ _ => rfl⟩)
    · (intro us W h9 hW hE hd hs K hK; obtain ⟨u0, u1, u2, u3, u4, u5, u6, u7, u8, u9, u10, u11, rfl⟩ := rog 12 h9 rfl; clear h9; simp only [DepG, AtG, and_true, relG, eqG, eqG1, eqG2, eqG3, gdG, gdG1, gnG, gnG1, List.getD_cons_zero, List.getD_cons_succ, List.getElem?_cons_succ, List.getElem?_cons_zero, Option.map_some, Option.getD_some, valsG, List.map_cons, List.map_nil, List.length_cons, List.length_nil] at hd; have d3 := hd; clear hd; subst d3; clear hs; simp only [fillG, List.set_cons_zero, List.set_cons_succ]; have hKW := Keep.tr (Keep.dr (Keep.rf _)) (hE rfl); have hb := Keep.cell hKW hb; have hg0 := Keep.cell hKW hg0; have hg2 := Keep.cell hKW hg2; refine want_n rfl ?_; go_wp2_with (first | fail); simp only [DoneG, fillG, List.set_cons_zero, List.set_cons_succ, relG, eqG, eqG1, eqG2, eqG3, gdG, gdG1, gnG, gnG1, List.getD_cons_zero, List.getD_cons_succ, List.getElem?_cons_succ, List.getElem?_cons_zero, Option.map_some, Option.getD_some, valsG, List.map_cons, List.map_nil, List.length_cons, List.length_nil]; exact ⟨_, rfl, (by first | with_reducible assumption | exact krg _ | exact Keep.al (krg _) _), fun _ _ => rfl⟩)
    · (intro us W h9 hW hE hd hs K hK; obtain ⟨u0, u1, u2, u3, u4, u5, u6, u7, u8, u9, u10, u11, rfl⟩ := rog 12 h9 rfl; clear h9; simp only [DepG, AtG, and_true, relG, eqG, eqG1, eqG2, eqG3, gdG, gdG1, gnG, gnG1, List.getD_cons_zero, List.getD_cons_succ, List.getElem?_cons_succ, List.getElem?_cons_zero, Option.map_some, Option.getD_some, valsG, List.map_cons, List.map_nil, List.length_cons, List.length_nil] at hd; have d4 := hd; clear hd; subst d4; clear hs; simp only [fillG, List.set_cons_zero, List.set_cons_succ]; have hKW := Keep.tr (Keep.dr (Keep.rf _)) (hE rfl); have hb := Keep.cell hKW hb; have hg0 := Keep.cell hKW hg0; have hg2 := Keep.cell hKW hg2; refine want_n rfl ?_; go_wp2_with (first | fail); simp only [DoneG, fillG, List.set_cons_zero, List.set_cons_succ, relG, eqG, eqG1, eqG2, eqG3, gdG, gdG1, gnG, gnG1, List.getD_cons_zero, List.getD_cons_succ, List.getElem?_cons_succ, List.getElem?_cons_zero, Option.map_some, Option.getD_some, valsG, List.map_cons, List.map_nil, List.length_cons, List.length_nil]; exact ⟨_, rfl, (by first | with_reducible assumption | exact krg _ | exact Keep.al (krg _) _), fun _ _ => rfl⟩)
    · (intro us W h9 hW hE hd hs K hK; obtain ⟨u0, u1, u2, u3, u4, u5, u6, u7, u8, u9, u10, u11, rfl⟩ := rog 12 h9 rfl; clear h9; simp only [DepG, AtG, and_true, relG, eqG, eqG1, eqG2, eqG3, gdG, gdG1, gnG, gnG1, List.getD_cons_zero, List.getD_cons_succ, List.getElem?_cons_succ, List.getElem?_cons_zero, Option.map_some, Option.getD_some, valsG, List.map_cons, List.map_nil, List.length_cons, List.length_nil] at hd; have d5 := hd; clear hd; subst d5; clear hs; simp only [fillG, List.set_cons_zero, List.set_cons_succ]; have hKW := Keep.tr (Keep.dr (Keep.rf _)) (hE rfl); have hb := Keep.cell hKW hb; have hg0 := Keep.cell hKW hg0; have hg2 := Keep.cell hKW hg2; refine want_n rfl ?_; refine wp_mkW (.tmp 9) (.tmp 9) rfl rfl rfl (by omega) ?_; intro w9 ho9 hk8; refine hK _ _ ?_; simp only [DoneG, fillG, List.set_cons_zero, List.set_cons_succ, relG, eqG, eqG1, eqG2, eqG3, gdG, gdG1, gnG, gnG1, List.getD_cons_zero, List.getD_cons_succ, List.getElem?_cons_succ, List.getElem?_cons_zero, Option.map_some, Option.getD_some, valsG, List.map_cons, List.map_nil, List.length_cons, List.length_nil]; exact ⟨_, rfl, (by first | with_reducible assumption | exact krg _ | exact Keep.al (krg _) _), fun W9 hk9 => ⟨_, _, rfl, own_keep (own_lower ho9 (Below.size hKW)) hk9⟩⟩)
    · (intro us W h9 hW hE hd hs K hK; obtain ⟨u0, u1, u2, u3, u4, u5, u6, u7, u8, u9, u10, u11, rfl⟩ := rog 12 h9 rfl; clear h9; simp only [DepG, AtG, and_true, relG, eqG, eqG1, eqG2, eqG3, gdG, gdG1, gnG, gnG1, List.getD_cons_zero, List.getD_cons_succ, List.getElem?_cons_succ, List.getElem?_cons_zero, Option.map_some, Option.getD_some, valsG, List.map_cons, List.map_nil, List.length_cons, List.length_nil] at hd; obtain ⟨d0, d2, d6⟩ := hd; subst d0; subst d2; obtain ⟨A6, c6, rfl, o6⟩ := d6; clear hs; simp only [fillG, List.set_cons_zero, List.set_cons_succ]; have hKW := Keep.tr (Keep.dr (Keep.rf _)) (hE rfl); have hb := Keep.cell hKW hb; have hg0 := Keep.cell hKW hg0; have hg2 := Keep.cell hKW hg2; refine want_n rfl ?_; go_wp2_with (first | (go_at_call 32; refine (heapAlloc _ (HR.out.keep hKW) t ht _ (List.replicate n 0) (by have := (Cs.of_own o6).1; exact this) (zeros_wf0 n) (by rw [hlr.out]; omega)).mono ?_; intro e w9 hA; obtain ⟨rfl, S9, r9, x9⟩ := hA.all (HR.out.keep hKW); rw [HAE.out] at r9 ⊢) | fail); simp only [DoneG, fillG, List.set_cons_zero, List.set_cons_succ, relG, eqG, eqG1, eqG2, eqG3, gdG, gdG1, gnG, gnG1, List.getD_cons_zero, List.getD_cons_succ, List.getElem?_cons_succ, List.getElem?_cons_zero, Option.map_some, Option.getD_some, valsG, List.map_cons, List.map_nil, List.length_cons, List.length_nil]; exact ⟨_, rfl, (by first | with_reducible assumption | exact trivial), fun W9 hk9 => ⟨rfl, HalfQ.keep ⟨S9, r9, Ext.of_keep hKW x9⟩ hk9⟩⟩)
    · (intro us W h9 hW hE hd hs K hK; obtain ⟨u0, u1, u2, u3, u4, u5, u6, u7, u8, u9, u10, u11, rfl⟩ := rog 12 h9 rfl; clear h9; simp only [DepG, AtG, and_true, relG, eqG, eqG1, eqG2, eqG3, gdG, gdG1, gnG, gnG1, List.getD_cons_zero, List.getD_cons_succ, List.getElem?_cons_succ, List.getElem?_cons_zero, Option.map_some, Option.getD_some, valsG, List.map_cons, List.map_nil, List.length_cons, List.length_nil] at hd; have d7 := hd; clear hd; obtain ⟨rfl, d7⟩ := d7; clear hs; simp only [fillG, List.set_cons_zero, List.set_cons_succ]; refine want_n rfl ?_; go_wp2_with (first | fail); simp only [DoneG, fillG, List.set_cons_zero, List.set_cons_succ, relG, eqG, eqG1, eqG2, eqG3, gdG, gdG1, gnG, gnG1, List.getD_cons_zero, List.getD_cons_succ, List.getElem?_cons_succ, List.getElem?_cons_zero, Option.map_some, Option.getD_some, valsG, List.map_cons, List.map_nil, List.length_cons, List.length_nil]; exact ⟨_, rfl, (by first | with_reducible assumption | exact krg _ | exact Keep.al (krg _) _), fun _ _ => rfl⟩)
    · (intro us W h9 hW hE hd hs K hK; obtain ⟨u0, u1, u2, u3, u4, u5, u6, u7, u8, u9, u10, u11, rfl⟩ := rog 12 h9 rfl; clear h9; simp only [DepG, AtG, and_true, relG, eqG, eqG1, eqG2, eqG3, gdG, gdG1, gnG, gnG1, List.getD_cons_zero, List.getD_cons_succ, List.getElem?_cons_succ, List.getElem?_cons_zero, Option.map_some, Option.getD_some, valsG, List.map_cons, List.map_nil, List.length_cons, List.length_nil] at hd; have d7 := hd; clear hd; obtain ⟨rfl, d7⟩ := d7; clear hs; simp only [fillG, List.set_cons_zero, List.set_cons_succ]; refine want_n rfl ?_; go_wp2_with (first | fail); simp only [DoneG, fillG, List.set_cons_zero, List.set_cons_succ, relG, eqG, eqG1, eqG2, eqG3, gdG, gdG1, gnG, gnG1, List.getD_cons_zero, List.getD_cons_succ, List.getElem?_cons_succ, List.getElem?_cons_zero, Option.map_some, Option.getD_some, valsG, List.map_cons, List.map_nil, List.length_cons, List.length_nil]; exact ⟨_, rfl, (by first | with_reducible assumption | exact krg _ | exact Keep.al (krg _) _), fun _ _ => rfl⟩)
    · (intro us W h9 hW hE hd hs K hK; obtain ⟨u0, u1, u2, u3, u4, u5, u6, u7, u8, u9, u10, u11, rfl⟩ := rog 12 h9 rfl; clear h9; simp only [DepG, AtG, and_true, relG, eqG, eqG1, eqG2, eqG3, gdG, gdG1, gnG, gnG1, List.getD_cons_zero, List.getD_cons_succ, List.getElem?_cons_succ, List.getElem?_cons_zero, Option.map_some, Option.getD_some, valsG, List.map_cons, List.map_nil, List.length_cons, List.length_nil] at hd; obtain ⟨d7, d8⟩ := hd; obtain ⟨rfl, d7⟩ := d7; subst d8; clear hs; simp only [fillG, List.set_cons_zero, List.set_cons_succ]; refine want_n rfl ?_; go_wp2_with (first | fail); simp only [DoneG, fillG, List.set_cons_zero, List.set_cons_succ, relG, eqG, eqG1, eqG2, eqG3, gdG, gdG1, gnG, gnG1, List.getD_cons_zero, List.getD_cons_succ, List.getElem?_cons_succ, List.getElem?_cons_zero, Option.map_some, Option.getD_some, valsG, List.map_cons, List.map_nil, List.length_cons, List.length_nil]; exact ⟨_, rfl, (by first | with_reducible assumption | exact krg _ | exact Keep.al (krg _) _), fun _ _ => rfl⟩)
    · (intro us W h9 hW hE hd hs K hK; obtain ⟨u0, u1, u2, u3, u4, u5, u6, u7, u8, u9, u10, u11, rfl⟩ := rog 12 h9 rfl; clear h9; simp only [DepG, AtG, and_true, relG, eqG, eqG1, eqG2, eqG3, gdG, gdG1, gnG, gnG1, List.getD_cons_zero, List.getD_cons_succ, List.getElem?_cons_succ, List.getElem?_cons_zero, Option.map_some, Option.getD_some, valsG, List.map_cons, List.map_nil, List.length_cons, List.length_nil] at hd; obtain ⟨d7, d9⟩ := hd; obtain ⟨rfl, d7⟩ := d7; subst d9; clear hs; simp only [fillG, List.set_cons_zero, List.set_cons_succ]; refine want_n rfl ?_; go_wp2_with (first | fail); simp only [DoneG, fillG, List.set_cons_zero, List.set_cons_succ, relG, eqG, eqG1, eqG2, eqG3, gdG, gdG1, gnG, gnG1, List.getD_cons_zero, List.getD_cons_succ, List.getElem?_cons_succ, List.getElem?_cons_zero, Option.map_some, Option.getD_some, valsG, List.map_cons, List.map_nil, List.length_cons, List.length_nil]; exact ⟨_, rfl, (by first | with_reducible assumption | exact krg _ | exact Keep.al (krg _) _), fun _ _ => rfl⟩)
  (intro us W2 h9 hW hE hA; obtain ⟨u0, u1, u2, u3, u4, u5, u6, u7, u8, u9, u10, u11, rfl⟩ := rog 12 h9 rfl; clear h9; simp only [AllG, AtG, and_true, relG, eqG, eqG1, eqG2, eqG3, gdG, gdG1, gnG, gnG1, List.getD_cons_zero, List.getD_cons_succ, List.getElem?_cons_succ, List.getElem?_cons_zero, Option.map_some, Option.getD_some, valsG, List.map_cons, List.map_nil, List.length_cons, List.length_nil] at hA; obtain ⟨d7, d10, d11⟩ := hA; obtain ⟨rfl, d7⟩ := d7; subst d10; subst d11; simp only [fillG, List.set_cons_zero, List.set_cons_succ])
  go_wp2_with fail
  go_ret2
  obtain ⟨S9, r9, x9⟩ := d7
  exact ⟨rfl, S9, r9, x9⟩
theorem own_is {w : World} {B : Nat} {v : Value} {l : List Int} (h : w.ownsRow B 36 1 v l.length (l.map (Value.int .i64))) : Is w v l := by
  have := (Cs.of_own (n := (l.map (Value.int .i64)).length) (l := l.map (Value.int .i64)) (by simpa using h)).1
  exact this
set_option maxHeartbeats 8000000 in
theorem refPut18 {p sz : Nat} {S : List Nat} {H : Em.Hp} (w : World) (h : RRep w p S sz H) (s : List UInt8) (hs : s.length ≤ 100000) : Calls Try.prog 55 #[.pointer (some ⟨p, 0, none⟩), .string (str s)] w (AllB w p sz S H 1 (wordsOf s)) := by
  have HR := hide h
  have hsz := str_size s
  have hlt := hide h.lt
  clear h
  unfold AllB
  generalize hae : allocE sz H 1 (wordsOf s) = ae at *
  obtain ⟨an, ab, aH⟩ := ae
  have HAE := hide hae
  have hwl := hide (Em.wordsOf_len s)
  clear hae
  go_enter Try.func55, Try.ntmps55
  go_wp2_with fail
  go_loopw [6, 7] (fun lv i W => ∃ k : Nat, k ≤ s.length ∧ i = .int .i64 (k : Int) ∧ W.ownsRow w.heap.size 36 1 lv (wordsOf (s.take k)).length ((wordsOf (s.take k)).map (Value.int .i64)) ∧ Keep w W) (fun _ i _ => s.length - (intOf i).toNat)
  case atStart => exact ⟨0, Nat.zero_le _, rfl, ⟨by simp, .inl ⟨rfl, rfl⟩⟩, Keep.rf _⟩
  case round =>
    obtain ⟨k, hk, rfl, ho, kw⟩ := hrel
    obtain ⟨lA, lc, rfl⟩ := own_slice ho
    have HO := hide ho
    clear ho
    by_cases hlt2 : k < s.length
    · have hlti : (k : Int) < (s.length : Int) := by omega
      have hlk : (wordsOf (s.take k)).length = k := by rw [Em.wordsOf_len, List.length_take, Nat.min_eq_left hk]
      have hnx : wordsOf (s.take (k + 1)) = wordsOf (s.take k) ++ [intW (s[k].toNat : Int)] := by
        unfold wordsOf
        rw [List.take_succ_eq_append_getElem hlt2, List.map_append]
        rfl
      have HNX := hide hnx
      clear hnx
      have hw : wrap64 (((str s)[k]'(by rw [str_size]; exact hlt2)).toNat : Int) = (s[k].toNat : Int) := by
        have hb : (str s)[k]'(by rw [str_size]; exact hlt2) = s[k] := by simp [str]; rfl
        rw [hb]
        have := s[k].toNat_lt
        simp only [wrap64]
        omega
      have HW := hide hw
      clear hw
      have HLK := hide hlk
      clear hlk
      generalize wordsOf (s.take k) = l at *
      go_wp2_with fail
      rw [HW.out]
      refine (refInt _ _).mono ?_
      rintro e w2 ⟨rfl, rfl⟩
      generalize intW (s[k].toNat : Int) = y at *
      go_wp2_with (first
        | (at_builtin; go_loud (refine appI l [y] rfl (.tmp 14) (.tmp 20) _ _ _ _ Try.underlying68 infoW rfl (by omega) rfl w.heap.size _ rfl (own_keep HO.out (by repeat (first | exact Keep.rf _ | assumption | apply Keep.al | apply Keep.dr | apply Keep.dn))) _ rfl (Cs.lit _ rfl rfl rfl (by simp) (by simp)) (by rw [size_alloc]; exact Nat.le_trans kw.size (Nat.le_succ _)) (by simp; have := HLK.out; omega) ?_); intro v3 w3 ho3 hg3 hat3; have HO3 := hide ho3; have HG3 := hide hg3; obtain ⟨A3, c3, e3⟩ := own_slice ho3; subst e3; clear ho3 hg3 hat3)
        | fail)
      have HK3 := hide (Frm.keep (Keep.al kw (.cells #[.int .i64 y] 36)) (Frm.of_grown (S := fun k => w.heap.size ≤ k) HG3.out fun k e => (World.ownsRow.lt HO.out k e).1) fun _ h => h)
      go_roundw
      case rel => exact ⟨k + 1, by omega, by go_num, by rw [HNX.out]; simpa using HO3.out, HK3.out⟩
      case measure => simp [intOf]; omega
    · have hlti : ¬ (k : Int) < (s.length : Int) := by omega
      have hkn : k = s.length := by omega
      have hO : wr.ownsRow w.heap.size 36 1 (.slice lA (wordsOf (s.take k)).length lc) (wordsOf s).length ((wordsOf s).map (Value.int .i64)) := by
        have := HO.out
        rw [hkn, List.take_length] at this
        rw [hkn, List.take_length]
        exact this
      have hIs := own_is hO
      have HIS := hide hIs
      have HOO := hide hO
      have hlk : (wordsOf (s.take k)).length = s.length := by rw [Em.wordsOf_len, List.length_take]; omega
      rw [hlk] at HOO HIS hO ⊢
      clear hkn hIs hO hlk HO
      go_wp2_with fail
      refine (refAlloc wr (HR.out.keep kw) 1 (by decide) _ (wordsOf s) HIS.out (fun W F => own_is (F.own HOO.out fun k e hm => by have := (World.ownsRow.lt HOO.out k e).1; have := hlt.out k hm; omega)) (wordsOf_wf s) (by rw [hwl.out]; omega)).mono ?_
      intro e w3 hA
      obtain ⟨rfl, S3, r3, x3⟩ := hA.all (HR.out.keep kw)
      rw [HAE.out] at r3 ⊢
      have HZ := hide (And.intro r3 (Ext.of_keep kw x3))
      clear r3 x3 hA
      simp only
      go_wp2_with fail
      go_ret2
      exact ⟨rfl, S3, HZ.out.1, HZ.out.2⟩
end Go.Proofs.Ytoehaijmkmdggaa
namespace Go.Proofs.Ytoehaijmkmdggaa
open Go.RowKit Go.Maps
set_option linter.unusedVariables false
theorem add_block (ad : Addr) (k : Nat) : (ad.add k).block = ad.block := by
  unfold Addr.add
  split <;> rfl
/-- A slice lies away from S. -/
def AvR (S : List Nat) (v : Value) : Prop := ∀ ad n c, v = .slice (some ad) n c → 0 < n → ad.block ∉ S
theorem Sl.frm {α : Type} {sz : Nat} {K K' : World → List Value → α → Prop} {w w' : World} {v : Value} {xs : List α} {S : List Nat} (h : Sl sz K w v xs) (ha : AvR S v) (F : Frm (· ∈ S) w w') (hK : ∀ cs x, K w cs x → K' w' cs x) : Sl sz K' w' v xs := by
  obtain ⟨A, c, e, h1, h2, h3⟩ := h
  refine ⟨A, c, e, h1, h2, fun hp => (h3 hp).imp fun ad ⟨ea, hc⟩ => ⟨ea, fun j hj => (hc j hj).imp fun cs ⟨hl, hcell, hk⟩ => ⟨hl, fun i u hu => F.cell ?_ (hcell i u hu), hK _ _ hk⟩⟩⟩
  have := ha ad xs.length c (by rw [e, ea]) hp
  rw [add_block]
  exact this
def KBkS (S : List Nat) (w : World) (cs : List Value) (b : Em.Blk) : Prop := ∃ v, cs = [.int .i64 b.tag, .string (str b.str), v] ∧ (Lit.int .i64 b.tag).wf = true ∧ Sl 2 KRf w v b.kids ∧ AvR S v
theorem KBkS.frm {S : List Nat} {w w' : World} {cs : List Value} {b : Em.Blk} (h : KBkS S w cs b) (F : Frm (· ∈ S) w w') : KBkS S w' cs b := by
  obtain ⟨v, h1, h2, h3, h4⟩ := h
  exact ⟨v, h1, h2, h3.frm h4 F fun _ _ h => h, h4⟩
theorem KBkS.bk {S : List Nat} {w : World} {cs : List Value} {b : Em.Blk} (h : KBkS S w cs b) : KBk w cs b := by
  obtain ⟨v, h1, h2, h3, _⟩ := h
  exact ⟨v, h1, h2, h3⟩
/-- A graph that lies away from S. -/
def GrS (S : List Nat) (w : World) (v : Value) (g : Em.Gr) : Prop := ∃ u, v = .agg #[.bool g.root.1, .int .i64 g.root.2, u] ∧ (Lit.int .i64 g.root.2).wf = true ∧ Sl 3 (KBkS S) w u g.blocks ∧ AvR S u
theorem GrS.frm {S : List Nat} {w w' : World} {v : Value} {g : Em.Gr} (h : GrS S w v g) (F : Frm (· ∈ S) w w') : GrS S w' v g := by
  obtain ⟨u, h1, h2, h3, h4⟩ := h
  exact ⟨u, h1, h2, h3.frm h4 F fun _ _ h => h.frm F, h4⟩
theorem GrS.gr {S : List Nat} {w : World} {v : Value} {g : Em.Gr} (h : GrS S w v g) : GrV w v g := by
  obtain ⟨u, h1, h2, h3, _⟩ := h
  exact ⟨u, h1, h2, h3.mono fun _ _ h => h.bk⟩
theorem Sl.away {α : Type} {sz : Nat} {K : World → List Value → α → Prop} {w : World} {v : Value} {xs : List α} {S : List Nat} (h : Sl sz K w v xs) (hz : 0 < sz) (hS : ∀ k ∈ S, w.heap.size ≤ k) : AvR S v := by
  obtain ⟨A, c, e, h1, h2, h3⟩ := h
  intro ad n c' e2 hn hm
  rw [e] at e2
  injection e2 with ea en ec
  obtain ⟨ad', ea', hc⟩ := h3 (by omega)
  rw [ea'] at ea
  injection ea with ea
  subst ea
  obtain ⟨cs, hl, hcell, _⟩ := hc 0 (by omega)
  have h0 : cs[0]? = some cs[0] := List.getElem?_eq_getElem (by omega)
  have h9 := hcell 0 _ h0
  have h8 := World.block_lt_of_cell? w _ h9
  rw [add_block] at h8
  have := hS _ hm
  omega
/-- A graph that was there ahead of what changes. -/
theorem GrS.of {S : List Nat} {w0 w : World} {v : Value} {g : Em.Gr} (h : GrV w0 v g) (k : Keep w0 w) (hS : ∀ i ∈ S, w0.heap.size ≤ i) : GrS S w v g := by
  obtain ⟨u, h1, h2, h3⟩ := h
  have F : Frm (· ∈ S) w0 w := k.frm _
  have h4 := h3.away (S := S) (by omega) hS
  refine ⟨u, h1, h2, h3.frm h4 F fun cs b hb => ?_, h4⟩
  obtain ⟨v', e1, e2, e3⟩ := hb
  have e4 := e3.away (S := S) (by omega) hS
  exact ⟨v', e1, e2, e3.frm e4 F fun _ _ h => h, e4⟩
end Go.Proofs.Ytoehaijmkmdggaa
