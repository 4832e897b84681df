/- Plain: a graph put into a heap. -/
import Derived.Test.YtoehaijmkmdggaaGreatGBldP
import Derived.Test.YtoehaijmkmdggaaGreatGShapeP
set_option linter.unusedSimpArgs false
set_option linter.unusedVariables false
namespace Go.Proofs.YtoehaijmkmdggaaGreat
set_option linter.unusedVariables false
def allocE (sz : Nat) (H : Em.Hp) (tag : Int) (fs : List Int) : Int × Bool × Em.Hp := match Em.alloc sz H tag fs with
  | none => (0, false, H)
  | some (n, H') => (n, true, H')
def putE (H : Em.Hp) (n k v : Int) : Bool × Em.Hp := match Em.put H n k v with
  | none => (false, H)
  | some H' => (true, H')
namespace Em
/-- A block's fields, when it is put. -/
def fields0 (b : Blk) : List Int := if b.tag = 1 then wordsOf b.str else List.replicate b.kids.length 0
def needN : List Blk → Nat
  | [] => 0
  | b :: t => (1 + (b.str.length + b.kids.length)) + needN t
def putsB (sz : Nat) : List Blk → List Int → Hp → List Int × Hp
  | [], l, H => (l, H)
  | b :: t, l, H => putsB sz t (l ++ [(allocE sz H b.tag (fields0 b)).1]) (allocE sz H b.tag (fields0 b)).2.2
/-- A value as a word, when blocks are where they are. -/
def wordG (l : List Int) (r : Bool × Int) : Int := if r.1 = true then intW r.2 else l.getD r.2.toNat 0
def setK (l : List Int) (n : Int) : Nat → List (Bool × Int) → Hp → Hp
  | _, [], H => H
  | k, r :: t, H => setK l n (k + 1) t (putE H n (k : Int) (wordG l r)).2
def setB (l : List Int) : Nat → List Blk → Hp → Hp
  | _, [], H => H
  | i, b :: t, H => setB l (i + 1) t (setK l (l.getD i 0) 0 b.kids H)
/-- What Build answers, and the heap then. -/
def buildG (sz : Nat) (H : Hp) (g : Gr) : Int × Int × Hp :=
  if isG g = true then
    if (sz : Int) - used H < (needN g.blocks : Int) then (0, 8, H)
    else (wordG (putsB sz g.blocks [] H).1 g.root, 0, setB (putsB sz g.blocks [] H).1 0 g.blocks (putsB sz g.blocks [] H).2)
  else (0, 1, H)
def addrs (s : Nat) : List Blk → List Int
  | [] => []
  | b :: t => 2 * (s : Int) :: addrs (s + (1 + (b.str.length + b.kids.length))) t
theorem wordsOf_len (s : List UInt8) : (wordsOf s).length = s.length := by simp [wordsOf]
theorem fields0_len {b : Blk} (h : blkOk b = true) : (fields0 b).length = b.str.length + b.kids.length := by
  unfold fields0
  rcases blkOk_cases h with ⟨h1, h2⟩ | ⟨h1, h2⟩
  · rw [if_pos h1, wordsOf_len, h2]; rfl
  · rw [if_neg (by omega), h2]; simp
theorem puts_yes (sz : Nat) : ∀ (bs : List Blk) (l : List Int) (H : Hp), (∀ b ∈ bs, blkOk b = true) → used H + needN bs ≤ sz →
    putsB sz bs l H = (l ++ addrs (used H) bs, H ++ bs.map fun b => (b.tag, fields0 b)) := by
  intro bs
  induction bs with
  | nil => intro l H h1 h2; simp [putsB, addrs]
  | cons b t ih =>
    intro l H h1 h2
    have hb := h1 b List.mem_cons_self
    have hl := fields0_len hb
    have ha : alloc sz H b.tag (fields0 b) = some (2 * (used H : Int), H ++ [(b.tag, fields0 b)]) := by
      refine if_neg ?_
      rw [hl]
      simp only [needN] at h2
      rcases blkOk_cases hb with ⟨h, _⟩ | ⟨h, _⟩ <;> omega
    have hE : allocE sz H b.tag (fields0 b) = (2 * (used H : Int), true, H ++ [(b.tag, fields0 b)]) := by
      unfold allocE
      rw [ha]
    have hu : used (H ++ [(b.tag, fields0 b)]) = used H + (1 + (b.str.length + b.kids.length)) := by
      rw [used_append]
      simp only [used, hl]
      omega
    rw [putsB, hE, ih _ _ (fun c hc => h1 c (List.mem_cons_of_mem _ hc)) (by rw [hu]; simp only [needN] at h2; omega), hu]
    simp [addrs]
end Em
end Go.Proofs.YtoehaijmkmdggaaGreat
