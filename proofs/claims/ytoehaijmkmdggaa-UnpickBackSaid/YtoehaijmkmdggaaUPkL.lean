/- Plain: what bytes are, built, is those bytes again. -/
import Derived.Test.YtoehaijmkmdggaaUPkP
import Derived.Test.YtoehaijmkmdggaaURdIs
import Derived.Test.YtoehaijmkmdggaaUBldU
set_option linter.unusedSimpArgs false
set_option linter.unusedVariables false
namespace Go.Proofs.Ytoehaijmkmdggaa
set_option linter.unusedVariables false
namespace Em
/-- A graph's blocks stand in a heap, each at a word of its own. -/
structure Lain (G : Hp) (l : List Int) (bs : List Blk) : Prop where
  len : l.length = bs.length
  nd : l.Nodup
  ev : ∀ x ∈ l, x % 2 = 0
  blk : ∀ (i : Nat) (a : Int) (b : Blk), l[i]? = some a → bs[i]? = some b → Em.blk G a = full l b
/-- From one state of a reading to a later one: the picker makes the bytes that were read. -/
def PkD (l : List Int) (bs : List Blk) (s s' : Rd) (run : Pk → PkO) : Prop := (∀ j, s.bl.length ≤ j → j < s'.bl.length → bs[j]? = s'.bl[j]?) → s'.bl.length ≤ bs.length → ∃ y, s.b = y ++ s'.b ∧ ∀ B, run ⟨B, l.take s.bl.length, s.ty⟩ = .ok ⟨B ++ y, l.take s'.bl.length, s'.ty⟩
theorem numP_put {s s1 : Rd} {v : Nat} (h : numP s = .ok v s1) : s.b = putN v ++ s1.b := by
  unfold numP at h
  split at h
  · cases h
  · next e =>
    injection h with h1 h2
    subst h1 h2
    exact get_append e
theorem strP_put {s s1 : Rd} {x : List UInt8} (h : strP s = .ok x s1) : s.b = putN x.length ++ x ++ s1.b := by
  unfold strP at h
  split at h
  · cases h
  · next n s2 e =>
    split at h
    · cases h
    · next hlt =>
      injection h with h1 h2
      subst h1 h2
      have e9 := numP_put e
      rw [e9, List.length_take, Nat.min_eq_left (by omega), List.append_assoc, List.take_append_drop]
theorem posK_get {ws : List Int} (h : ws.Nodup) {i : Nat} (hi : i < ws.length) : posK ws ws[i] = some i := by
  induction ws generalizing i with
  | nil => simp at hi
  | cons a t ih =>
    rw [List.nodup_cons] at h
    cases i with
    | zero => simp [posK]
    | succ i =>
      have hi' : i < t.length := by simpa using hi
      rw [posK, List.getElem_cons_succ, if_neg (fun e => h.1 (by rw [e]; exact List.getElem_mem hi')), ih h.2 hi']
      rfl
theorem posK_no {ws : List Int} {n : Int} (h : n ∉ ws) : posK ws n = none := by
  induction ws with
  | nil => rfl
  | cons a t ih =>
    simp only [List.mem_cons, not_or] at h
    rw [posK, if_neg (fun e => h.1 e.symm), ih h.2]
    rfl
theorem posK_take {ws : List Int} (h : ws.Nodup) {i n : Nat} (hi : i < ws.length) : posK (ws.take n) ws[i] = if i < n then some i else none := by
  by_cases c : i < n
  · rw [if_pos c]
    have h2 : i < (ws.take n).length := by rw [List.length_take]; omega
    have := posK_get (h.sublist (List.take_sublist n ws)) h2
    rwa [List.getElem_take] at this
  · rw [if_neg c, posK_no]
    intro hm
    obtain ⟨j, hj, e⟩ := List.mem_iff_getElem.1 hm
    rw [List.length_take] at hj
    rw [List.getElem_take] at e
    have hj' : j < ws.length := by omega
    have e1 := posK_get h hj'
    rw [e, posK_get h hi] at e1
    cases e1
    omega
theorem immP_pk {l : List Int} {bs : List Blk} {o : List UInt8} {s s' : Rd} {x : Bool × Int} (hp : isPl o) (h : immP o s = .ok x s') : PkD l bs s s' (numK (manyOf o) (wordG l x)) := by
  intro _ _
  unfold immP at h
  split at h
  · next hu =>
    injection h with h1 h2
    subst h1 h2 hu
    refine ⟨[], rfl, fun B => ?_⟩
    rw [List.append_nil]
    have e : wordG l (true, 0) = 1 := by unfold wordG; rw [if_pos rfl]; decide
    rw [e]
    rfl
  · next hu =>
    split at h
    · cases h
    · next v s1 e =>
      obtain ⟨e1, e2⟩ := numP_same e
      split at h
      · cases h
      · next hbad =>
        injection h with h1 h2
        subst h1 h2
        have hf := imm_fits hbad
        unfold fitsN at hf
        simp only [Bool.and_eq_true, decide_eq_true_eq] at hf
        have hodd := intW_odd (immN o v)
        have hback := intW_back (immN o v) hf.1 hf.2
        refine ⟨putN v, numP_put e, fun B => ?_⟩
        rw [e1, e2]
        show numK (manyOf o) (intW (immN o v)) _ = _
        unfold numK
        rw [hback]
        rcases hp with rfl | rfl | rfl
        · have hn : immN wInt v = zag v := if_neg (by decide)
          have hm : manyOf wInt = -1 := if_pos rfl
          rw [hm, if_neg (by omega), if_pos rfl, hn, zig_zag]
          rfl
        · have hn : immN wBool v = ((min v 2 : Nat) : Int) := if_pos rfl
          have hm : manyOf wBool = 2 := rfl
          have hv : v ≤ 1 := by
            unfold immBad at hbad
            rw [hn] at hbad
            simp only [Bool.or_eq_true, not_or, Bool.and_eq_true, decide_eq_true_eq] at hbad
            have := hbad.1.1
            have h3 : ¬ (((min v 2 : Nat) : Int) > 1) := fun h => this ⟨trivial, h⟩
            omega
          rw [hn] at hodd
          rw [hm, if_neg (by rw [hn]; omega), if_neg (by omega), if_pos rfl, hn]
          have : ((min v 2 : Nat) : Int).toNat = v := by omega
          rw [this]
          rfl
        · exact absurd rfl hu
theorem kidsA_pk {G : Hp} {l : List Int} {bs : List Blk} {f : Nat} (hr : ∀ t s x s', okS t = true → s.ty.length = s.bl.length → valP f t s = .ok x s' → PkD l bs s s' (valK G f (wordG l x) t)) :
    ∀ (ts : List Ty) (xs : List (Bool × Int)) (s : Rd) (ks : List (Bool × Int)) (s' : Rd), (∀ t ∈ ts, okS t = true) → s.ty.length = s.bl.length → kidsA (valP f) xs ts s = .ok ks s' → ∀ a, (∀ (j : Nat) y, ks[j]? = some y → field G a (j : Int) = some (wordG l y)) → PkD l bs s s' (kidsK (valK G f) G a xs.length ts)
  | [], xs, s, ks, s', ho, hs, h, a, ha => by
    injection h with h1 h2
    subst h1 h2
    exact fun _ _ => ⟨[], rfl, fun B => by rw [List.append_nil]; rfl⟩
  | t :: ts, xs, s, ks, s', ho, hs, h, a, ha => by
    rw [kidsA] at h
    split at h
    · cases h
    · next x s1 e =>
      obtain ⟨g1, _⟩ := valP_chk f t s x s1 (ho t List.mem_cons_self) hs e
      obtain ⟨ys, h1, _, g2, _⟩ := kidsA_chk (valP_chk f) ts (xs ++ [x]) s1 ks s' (fun t ht => ho t (List.mem_cons_of_mem _ ht)) g1.1 h
      have hx : field G a (xs.length : Int) = some (wordG l x) := ha xs.length x (by rw [h1]; simp)
      intro hb hl
      have hg1 := g1.2.1
      have hg2 := g2.2.1
      obtain ⟨y1, b1, r1⟩ := hr t s x s1 (ho t List.mem_cons_self) hs e (fun j h1 h2 => by rw [hb j h1 (by omega), g2.2.2 j h2]) (by omega)
      obtain ⟨y2, b2, r2⟩ := kidsA_pk hr ts (xs ++ [x]) s1 ks s' (fun t ht => ho t (List.mem_cons_of_mem _ ht)) g1.1 h a ha (fun j h1 h2 => hb j (by omega) h2) hl
      refine ⟨y1 ++ y2, by rw [b1, b2, List.append_assoc], fun B => ?_⟩
      rw [kidsK, hx]
      show (match valK G f (wordG l x) t _ with | .err c => PkO.err c | .ok s' => kidsK (valK G f) G a (xs.length + 1) ts s') = _
      rw [r1 B]
      have := r2 (B ++ y1)
      rw [List.length_append, List.length_singleton] at this
      rw [← List.append_assoc]
      exact this
theorem blkP_pk {G : Hp} {l : List Int} {bs : List Blk} (L : Lain G l bs) {f : Nat} (hr : ∀ t s x s', okS t = true → s.ty.length = s.bl.length → valP f t s = .ok x s' → PkD l bs s s' (valK G f (wordG l x) t)) {t : Ty} {s s' : Rd} {x : Bool × Int} (ho : okS t = true) (hp : ¬ isPl t.op) (hs : s.ty.length = s.bl.length) (h : blkP (valP f) t s = .ok x s')
    (hb : ∀ j, s.bl.length ≤ j → j < s'.bl.length → bs[j]? = s'.bl[j]?) (hl : s'.bl.length ≤ bs.length) :
    x = (false, (s.bl.length : Int)) ∧ s.bl.length < s'.bl.length ∧ ∃ y, s.b = y ++ s'.b ∧ ∀ B first, blkK (valK G f) G (l.getD s.bl.length 0) t first ⟨B, l.take s.bl.length, s.ty⟩ = .ok ⟨B ++ (putN first ++ y), l.take s'.bl.length, s'.ty⟩ := by
  have hpl := push_len s t
  unfold blkP at h
  split at h
  · cases h
  next hfull =>
  split at h
  · next hst =>
    split at h
    · cases h
    · next y s2 e =>
      injection h with h1 h2
      subst h1 h2
      obtain ⟨e1, e2⟩ := strP_same e
      simp only [List.length_modify, e1] at hb hl ⊢
      have hlt : s.bl.length < l.length := by rw [L.len]; omega
      have hbn := hb s.bl.length (Nat.le_refl _) (by omega)
      rw [List.getElem?_modify_eq, push_new] at hbn
      have hbn : bs[s.bl.length]? = some ((⟨tagT t.op, [], []⟩ : Blk).str! y) := hbn
      have hblk := L.blk s.bl.length l[s.bl.length] _ (List.getElem?_eq_getElem hlt) hbn
      have hgd : l.getD s.bl.length 0 = l[s.bl.length] := by rw [List.getD_eq_getElem?_getD, List.getElem?_eq_getElem hlt]; rfl
      have htg : tagT t.op = 1 := if_pos hst
      have hbl : Em.blk G l[s.bl.length] = (tagT t.op, wordsOf y) := by rw [hblk]; simp [full, Blk.str!]
      have htx : textH G l[s.bl.length] = some y := by
        unfold textH
        rw [hbl, htg]
        exact (if_pos rfl).trans (textB_words y)
      refine ⟨trivial, by omega, putN y.length ++ y, (by have := strP_put e; exact this), fun B first => ?_⟩
      unfold blkK
      rw [hgd, hbl, if_neg (fun h => h rfl), if_pos hst, htx]
      simp only []
      rw [if_neg (by rw [List.length_take]; omega)]
      simp only [Pk.come, e2, hpl.1]
      rw [List.take_succ_eq_append_getElem hlt]
      simp [Rd.push, List.append_assoc]
  · next hst =>
    split at h
    · cases h
    · next ks s2 e =>
      injection h with h1 h2
      subst h1 h2
      obtain ⟨ys, h1, h2, g, _⟩ := kidsA_chk (valP_chk f) (kidsT t) [] (s.push t) ks s2 (okS_kidsT ho) (by omega) e
      rw [List.nil_append] at h1
      subst h1
      have hg := g.2.1
      simp only [List.length_modify] at hb hl ⊢
      have hlt : s.bl.length < l.length := by rw [L.len]; omega
      have hbn := hb s.bl.length (Nat.le_refl _) (by omega)
      rw [List.getElem?_modify_eq, g.2.2 _ (by omega), push_new] at hbn
      have hbn : bs[s.bl.length]? = some ((⟨tagT t.op, [], []⟩ : Blk).kids! ks) := hbn
      have hblk := L.blk s.bl.length l[s.bl.length] _ (List.getElem?_eq_getElem hlt) hbn
      have hgd : l.getD s.bl.length 0 = l[s.bl.length] := by rw [List.getD_eq_getElem?_getD, List.getElem?_eq_getElem hlt]; rfl
      have hbl : Em.blk G l[s.bl.length] = (tagT t.op, ks.map (wordG l)) := by rw [hblk]; simp [full, Blk.kids!, wordsOf]
      have hfd : ∀ (j : Nat) y, ks[j]? = some y → field G l[s.bl.length] (j : Int) = some (wordG l y) := by
        intro j y hy
        unfold field
        rw [if_neg (by omega), hbl, Int.toNat_natCast, List.getElem?_map, hy]
        rfl
      obtain ⟨y, b1, r1⟩ := kidsA_pk hr (kidsT t) [] (s.push t) ks s2 (okS_kidsT ho) (by omega) e _ hfd (fun j h1 h2 => by rw [hb j (by omega) h2, List.getElem?_modify_ne _ _ (by omega)]) (by omega)
      refine ⟨trivial, by omega, y, b1, fun B first => ?_⟩
      unfold blkK
      rw [hgd, hbl, if_neg (fun h => h rfl), if_neg hst, if_neg (by simp [h2]), if_neg (by rw [List.length_take]; omega)]
      have := r1 (B ++ putN first)
      rw [hpl.1, List.take_succ_eq_append_getElem hlt] at this
      rw [← List.append_assoc]
      exact this
theorem wordG_blk {l : List Int} {j : Nat} (hj : j < l.length) : wordG l (false, (j : Int)) = l[j] := by
  simp [wordG, List.getD_eq_getElem?_getD, hj]
theorem valP_pk {G : Hp} {l : List Int} {bs : List Blk} (L : Lain G l bs) : ∀ (f : Nat) (t : Ty) (s : Rd) (x : Bool × Int) (s' : Rd), okS t = true → s.ty.length = s.bl.length → valP f t s = .ok x s' → PkD l bs s s' (valK G f (wordG l x) t)
  | 0, t, s, x, s', ho, hs, h => by cases h
  | f + 1, t, s, x, s', ho, hs, h => by
    intro hb hl
    rw [valP] at h
    split at h
    · next hp =>
      obtain ⟨y, e, r⟩ := immP_pk (l := l) (bs := bs) hp h hb hl
      exact ⟨y, e, fun B => by rw [valK, if_pos hp]; exact r B⟩
    · next hp =>
      split at h
      · cases h
      · next v s1 e =>
        obtain ⟨e1, e2⟩ := numP_same e
        have e3 := numP_put e
        have hs1 : s1.ty.length = s1.bl.length := by rw [e1, e2, hs]
        have hB : blkP (valP f) t s1 = .ok x s' → v = firstOf t.op → ∃ y, s.b = y ++ s'.b ∧ ∀ B, valK G (f + 1) (wordG l x) t ⟨B, l.take s.bl.length, s.ty⟩ = .ok ⟨B ++ y, l.take s'.bl.length, s'.ty⟩ := fun h hv => by
          obtain ⟨rfl, hlt, y, b1, r1⟩ := blkP_pk L (valP_pk L f) ho hp hs1 h (by rw [e1]; exact hb) hl
          rw [e1] at r1 hlt ⊢
          rw [e2] at r1
          have hj : s.bl.length < l.length := by rw [L.len]; omega
          refine ⟨putN v ++ y, by rw [e3, b1, List.append_assoc], fun B => ?_⟩
          have hev := L.ev _ (List.getElem_mem hj)
          have hr := r1 B (firstOf t.op)
          rw [show l.getD s.bl.length 0 = l[s.bl.length] from by rw [List.getD_eq_getElem?_getD, List.getElem?_eq_getElem hj]; rfl] at hr
          rw [wordG_blk hj, valK, if_neg hp, if_neg (by rintro ⟨_, h⟩; omega)]
          simp only []
          rw [posK_take L.nd hj, if_neg (Nat.lt_irrefl _), hv]
          exact hr
        have hR : ∀ u, refV t u s1 = .ok x s' → 0 < u → v = u + firstOf t.op → ∃ y, s.b = y ++ s'.b ∧ ∀ B, valK G (f + 1) (wordG l x) t ⟨B, l.take s.bl.length, s.ty⟩ = .ok ⟨B ++ y, l.take s'.bl.length, s'.ty⟩ := fun u h hu hv => by
          unfold refV at h
          split at h
          · cases h
          · next t' ht =>
            split at h
            · next heq =>
              injection h with h1 h2
              subst h1 h2
              have hlt : u - 1 < s1.ty.length := (List.getElem?_eq_some_iff.1 ht).1
              have hj : u - 1 < l.length := by rw [L.len]; omega
              have hev := L.ev _ (List.getElem_mem hj)
              refine ⟨putN v, e3, fun B => ?_⟩
              rw [wordG_blk hj, valK, if_neg hp, if_neg (by rintro ⟨_, h⟩; omega)]
              simp only []
              rw [posK_take L.nd hj, if_pos (by rw [← e1]; omega), ← e2]
              simp only []
              rw [ht]
              simp only []
              rw [if_pos heq, e1]
              show PkO.ok (Pk.put _ _) = _
              unfold Pk.put
              simp only []
              rw [show u - 1 + firstOf t.op + 1 = v by omega]
            · cases h
        split at h
        · next hli =>
          have hf : firstOf t.op = 1 := if_pos hli
          split at h
          · next hv =>
            injection h with h1 h2
            subst h1 h2
            refine ⟨putN v, e3, fun B => ?_⟩
            have ew : wordG l (true, 0) = 1 := by unfold wordG; rw [if_pos rfl]; decide
            rw [ew, valK, if_neg hp, if_pos ⟨hli, rfl⟩, e1, e2, hv]
            rfl
          · split at h
            · exact hB h (by omega)
            · exact hR _ h (by omega) (by omega)
        · next hli =>
          have hf : firstOf t.op = 0 := if_neg hli
          split at h
          · exact hB h (by omega)
          · exact hR _ h (by omega) (by omega)
/-- What bytes are, where it stands in a heap, is those bytes again. -/
theorem bytes_build {b : List UInt8} {t : Ty} {g : Gr} (h : graphP b t = (g, 0)) {G : Hp} {l : List Int} (L : Lain G l g.blocks) : bytesK G (wordG l g.root) t = (b, 0) := by
  unfold graphP at h
  split at h
  · next ho =>
    split at h
    · cases h
    · next hlen =>
      split at h
      · next c e =>
        injection h with h1 h2
        rcases valP_err _ _ _ _ e with rfl | rfl <;> cases h2
      · next x s e =>
        split at h
        · next hnil =>
          injection h with h1 h2
          subst h1
          have hok : okS t = true := by
            unfold okS
            rw [Bool.and_eq_true] at ho ⊢
            refine ⟨?_, ho.2⟩
            have := ho.1
            unfold isT at this
            exact (Bool.and_eq_true _ _ ▸ this).2
          obtain ⟨y, e1, r⟩ := valP_pk L 2001 t ⟨b, [], []⟩ x s hok rfl e (fun _ _ _ => rfl) (Nat.le_refl _)
          have e1 : b = y ++ s.b := e1
          rw [hnil, List.append_nil] at e1
          subst e1
          have r := r []
          unfold bytesK
          rw [if_pos ho]
          have r : valK G 2001 (wordG l x) t ⟨[], [], []⟩ = .ok ⟨b, l.take s.bl.length, s.ty⟩ := r
          show (match valK G 2001 (wordG l x) t ⟨[], [], []⟩ with | .err c => (([], c) : List UInt8 × Int) | .ok s => if 4000 < s.b.length then ([], 7) else (s.b, 0)) = _
          rw [r]
          exact if_neg hlen
        · cases h
  · cases h
theorem addrs_blkR (l : List Int) (R : Hp) : ∀ (bs : List Blk) (H1 : Hp) (i : Nat) (a : Int) (b : Blk), (addrs (used H1) bs)[i]? = some a → bs[i]? = some b → Em.blk (H1 ++ (bs.map (full l) ++ R)) a = full l b := by
  intro bs
  induction bs with
  | nil => intro H1 i a b h; cases h
  | cons c t ih =>
    intro H1 i a b h1 h2
    rw [addrs] at h1
    cases i with
    | zero =>
      cases h1
      cases h2
      exact blk_mid
    | succ i =>
      have hu : used (H1 ++ [full l c]) = used H1 + (1 + (c.str.length + c.kids.length)) := by
        rw [used_append]
        simp [used, full, wordsOf_len]
      rw [List.getElem?_cons_succ] at h1 h2
      rw [← hu] at h1
      have := ih (H1 ++ [full l c]) i a b h1 h2
      simpa using this
theorem lain_build (H R : Hp) (bs : List Blk) : Lain (H ++ (bs.map (full (addrs (used H) bs)) ++ R)) (addrs (used H) bs) bs :=
  ⟨addrs_len _ _, addrs_nodup _ _, fun x hx => (addrs_ge _ _ x hx).2, addrs_blkR _ R bs H⟩
theorem need_app (a b : List Blk) : needN (a ++ b) = needN a + needN b := by
  induction a with
  | nil => simp [needN]
  | cons x t ih => simp only [List.cons_append, needN, ih]; omega
theorem need_modify {bl : List Blk} {n : Nat} {b : Blk} (h : bl[n]? = some b) (g : Blk → Blk) : needN (bl.modify n g) + (b.str.length + b.kids.length) = needN bl + ((g b).str.length + (g b).kids.length) := by
  induction bl generalizing n with
  | nil => cases h
  | cons a t ih =>
    cases n with
    | zero =>
      cases h
      rw [List.modify_zero_cons]
      simp only [needN]
      omega
    | succ n =>
      rw [List.getElem?_cons_succ] at h
      have := ih h
      rw [List.modify_succ_cons]
      simp only [needN]
      omega
theorem kidsN_le (tag : Int) : kidsN tag ≤ 2 := by
  unfold kidsN
  split
  · omega
  · split
    · omega
    · split <;> omega
/-- What a reading's blocks need, at most. -/
def Rd.need (s : Rd) : Nat := needN s.bl + 3 * s.b.length
theorem kidsA_need {f : Nat} (hr : ∀ t s x s', okS t = true → s.ty.length = s.bl.length → valP f t s = .ok x s' → s'.need ≤ s.need) :
    ∀ (ts : List Ty) (xs : List (Bool × Int)) (s : Rd) (ks : List (Bool × Int)) (s' : Rd), (∀ t ∈ ts, okS t = true) → s.ty.length = s.bl.length → kidsA (valP f) xs ts s = .ok ks s' → s'.need ≤ s.need
  | [], xs, s, ks, s', ho, hs, h => by
    injection h with h1 h2
    subst h2
    exact Nat.le_refl _
  | t :: ts, xs, s, ks, s', ho, hs, h => by
    rw [kidsA] at h
    split at h
    · cases h
    · next x s1 e =>
      obtain ⟨g1, _⟩ := valP_chk f t s x s1 (ho t List.mem_cons_self) hs e
      exact Nat.le_trans (kidsA_need hr ts _ s1 ks s' (fun t ht => ho t (List.mem_cons_of_mem _ ht)) g1.1 h) (hr t s x s1 (ho t List.mem_cons_self) hs e)
theorem valP_need : ∀ (f : Nat) (t : Ty) (s : Rd) (x : Bool × Int) (s' : Rd), okS t = true → s.ty.length = s.bl.length → valP f t s = .ok x s' → s'.need ≤ s.need
  | 0, t, s, x, s', ho, hs, h => by cases h
  | f + 1, t, s, x, s', ho, hs, h => by
    rw [valP] at h
    split at h
    · unfold immP at h
      split at h
      · injection h with h1 h2
        subst h2
        exact Nat.le_refl _
      · split at h
        · cases h
        · next v s1 e =>
          obtain ⟨e1, e2⟩ := numP_same e
          have e3 := numP_put e
          split at h
          · cases h
          · injection h with h1 h2
            subst h2
            unfold Rd.need
            rw [e1, e3, List.length_append]
            omega
    · next hp =>
      split at h
      · cases h
      · next v s1 e =>
        obtain ⟨e1, e2⟩ := numP_same e
        have e3 := congrArg List.length (numP_put e)
        rw [List.length_append] at e3
        have e4 := putN_pos v
        have h1 : s1.need + 3 ≤ s.need := by unfold Rd.need; rw [e1]; omega
        have hs1 : s1.ty.length = s1.bl.length := by rw [e1, e2, hs]
        have hR : ∀ u, refV t u s1 = .ok x s' → s'.need ≤ s.need := fun u h => by
          unfold refV at h
          split at h
          · cases h
          · split at h
            · injection h with _ h
              subst h
              omega
            · cases h
        have hB : blkP (valP f) t s1 = .ok x s' → s'.need ≤ s.need := fun h => by
          have hpl := push_len s1 t
          have hpn : (s1.push t).need = s1.need + 1 := by
            unfold Rd.need Rd.push
            rw [need_app]
            simp only [needN, List.length_nil]
            omega
          unfold blkP at h
          split at h
          · cases h
          split at h
          · split at h
            · cases h
            · next y s2 e5 =>
              injection h with _ h
              subst h
              obtain ⟨e6, e7⟩ := strP_same e5
              have e8 := congrArg List.length (strP_put e5)
              rw [List.length_append, List.length_append] at e8
              have hm := need_modify (bl := s2.bl) (n := s1.bl.length) (by rw [e6]; exact push_new s1 t) (fun b => b.str! y)
              simp only [Blk.str!, List.length_nil] at hm
              unfold Rd.need at hpn h1 ⊢
              simp only [Blk.str!]
              rw [e6] at hm ⊢
              omega
          · next hst =>
            split at h
            · cases h
            · next ks s2 e5 =>
              injection h with _ h
              subst h
              obtain ⟨ys, g1, g2, g, _⟩ := kidsA_chk (valP_chk f) (kidsT t) [] (s1.push t) ks s2 (okS_kidsT ho) (by omega) e5
              rw [List.nil_append] at g1
              subst g1
              have e8 := kidsA_need (valP_need f) (kidsT t) [] (s1.push t) ks s2 (okS_kidsT ho) (by omega) e5
              have hm := need_modify (bl := s2.bl) (n := s1.bl.length) (by rw [g.2.2 _ (by omega)]; exact push_new s1 t) (fun b => b.kids! ks)
              have hk := kidsN_len ho hp hst
              have hk2 := kidsN_le (tagT t.op)
              simp only [Blk.kids!, List.length_nil] at hm
              unfold Rd.need at hpn h1 e8 ⊢
              simp only [Blk.kids!]
              omega
        split at h
        · split at h
          · injection h with _ h
            subst h
            omega
          · split at h
            · exact hB h
            · exact hR _ h
        · split at h
          · exact hB h
          · exact hR _ h
theorem graphP_need {b : List UInt8} {t : Ty} {g : Gr} (h : graphP b t = (g, 0)) : needN g.blocks ≤ 3 * b.length := by
  unfold graphP at h
  split at h
  · next ho =>
    split at h
    · cases h
    · split at h
      · next c e =>
        injection h with h1 h2
        rcases valP_err _ _ _ _ e with rfl | rfl <;> cases h2
      · next x s e =>
        split at h
        · next hnil =>
          injection h with h1 h2
          subst h1
          have hok : okS t = true := by
            unfold okS
            rw [Bool.and_eq_true] at ho ⊢
            refine ⟨?_, ho.2⟩
            have := ho.1
            unfold isT at this
            exact (Bool.and_eq_true _ _ ▸ this).2
          have := valP_need 2001 t ⟨b, [], []⟩ x s hok rfl e
          unfold Rd.need at this
          simp only [needN] at this
          simp only
          omega
        · cases h
  · cases h
theorem addrs_wfK {s : Nat} {bs : List Blk} (h : s + needN bs ≤ 20000) : ∀ x ∈ addrs s bs, (Lit.int .i64 x).wf = true := by
  induction bs generalizing s with
  | nil => intro x hx; cases hx
  | cons b t ih =>
    intro x hx
    rw [addrs] at hx
    simp only [needN] at h
    rcases List.mem_cons.1 hx with rfl | hx
    · simp [Lit.wf, IntKind.min, IntKind.max, IntKind.bits, IntKind.signed]
      omega
    · exact ih (by omega) x hx
theorem wordG_wfK {ws : List Int} (h : ∀ x ∈ ws, (Lit.int .i64 x).wf = true) (r : Bool × Int) : (Lit.int .i64 (wordG ws r)).wf = true := by
  unfold wordG
  split
  · unfold intW
    rw [IntKind.wrap_i64]
    simp [Lit.wf, IntKind.min, IntKind.max, IntKind.bits, IntKind.signed]
    omega
  · rw [List.getD_eq_getElem?_getD]
    cases hg : ws[r.2.toNat]? with
    | none => decide
    | some x => exact h x (List.mem_of_getElem? hg)
/-- What bytes are, built behind what was there, is those bytes again, whatever is put behind it. -/
theorem pick_built {b : List UInt8} {t : Ty} {g : Gr} (h : graphP b t = (g, 0)) (sz : Nat) (H : Hp) (hn : used H + 3 * b.length ≤ sz) (hs : sz ≤ 20000) :
    ∃ w X, buildG sz H g = (w, 0, H ++ X) ∧ (∀ R, bytesK (H ++ X ++ R) w t = (b, 0)) ∧ used (H ++ X) ≤ used H + 3 * b.length ∧ (Lit.int .i64 w).wf = true := by
  have hd := graphP_need h
  refine ⟨_, _, build_yes (graphP_isG h) (by omega), fun R => ?_, ?_, wordG_wfK (addrs_wfK (by omega)) _⟩
  · rw [List.append_assoc]
    exact bytes_build h (lain_build H R g.blocks)
  · rw [used_append]
    have : ∀ (l : List Int) (bs : List Blk), used (bs.map (full l)) = needN bs := by
      intro l bs
      induction bs with
      | nil => rfl
      | cons b t ih => simp [used, needN, full, wordsOf_len, ih]
    rw [this]
    omega
end Em
end Go.Proofs.Ytoehaijmkmdggaa
