/- Plain: bytes as a value of a type. -/
import Derived.Test.YtoehaijmkmdggaaGreatGHeapPure
import Derived.Test.YtoehaijmkmdggaaGreatGDrawA
set_option linter.unusedSimpArgs false
set_option linter.unusedVariables false
namespace Go.Proofs.YtoehaijmkmdggaaGreat
set_option linter.unusedVariables false
namespace Em
/-- What is left, the blocks that came, their types. -/
structure Rd where
  b : List UInt8
  bl : List Blk
  ty : List Ty
/-- A reading's end: what was read, and what is left; or an error. -/
inductive Out (α : Type) where
  | ok (x : α) (s : Rd)
  | err (c : Int)
def numP (s : Rd) : Out Nat := match getN s.b with
  | none => .err 2
  | some (v, n) => .ok v ⟨s.b.drop n, s.bl, s.ty⟩
def immN (o : List UInt8) (v : Nat) : Int := if o = wBool then (min v 2 : Nat) else zag v
def immBad (o : List UInt8) (n : Int) : Bool := (decide (o = wBool) && decide (n > 1)) || decide (n < -4611686018427387904) || decide (n ≥ 4611686018427387904)
def immP (o : List UInt8) (s : Rd) : Out (Bool × Int) := if o = wUnit then .ok (true, 0) s else match numP s with
  | .err c => .err c
  | .ok v s' => if immBad o (immN o v) = true then .err 2 else .ok (true, immN o v) s'
def strP (s : Rd) : Out (List UInt8) := match numP s with
  | .err c => .err c
  | .ok n s' => if s'.b.length < n then .err 2 else .ok (s'.b.take n) ⟨s'.b.drop n, s'.bl, s'.ty⟩
/-- A type's tag. -/
def tagT (o : List UInt8) : Int := if o = wString then 1 else if o = wList then 2 else if o = wPair then 3 else if o = wRef then 4 else 5
/-- The types of what a type's blocks have. -/
def kidsT (t : Ty) : List Ty := if t.op = wString then [] else if t.op = wList then [t.kids.headD (.mk [] 0 []), t] else if t.op = wPair ∨ t.op = wRef then t.kids else [.mk wInt 0 [], .mk wList 0 [.mk wCell 0 []]]
def kidsA (r : Ty → Rd → Out (Bool × Int)) (xs : List (Bool × Int)) : List Ty → Rd → Out (List (Bool × Int))
  | [], s => .ok xs s
  | t :: ts, s => match r t s with
    | .err c => .err c
    | .ok x s' => kidsA r (xs ++ [x]) ts s'
def Rd.push (s : Rd) (t : Ty) : Rd := ⟨s.b, s.bl ++ [⟨tagT t.op, [], []⟩], s.ty ++ [t]⟩
def blkP (r : Ty → Rd → Out (Bool × Int)) (t : Ty) (s : Rd) : Out (Bool × Int) :=
  if s.bl.length = 2000 then .err 7
  else if t.op = wString then (match strP (s.push t) with
    | .err c => .err c
    | .ok x s' => .ok (false, (s.bl.length : Int)) ⟨s'.b, s'.bl.modify s.bl.length fun b => b.str! x, s'.ty⟩)
  else match kidsA r [] (kidsT t) (s.push t) with
    | .err c => .err c
    | .ok ks s' => .ok (false, (s.bl.length : Int)) ⟨s'.b, s'.bl.modify s.bl.length fun b => b.kids! ks, s'.ty⟩
def isPl (o : List UInt8) : Prop := o = wInt ∨ o = wBool ∨ o = wUnit
instance (o : List UInt8) : Decidable (isPl o) := by unfold isPl; infer_instance
def refV (t : Ty) (v : Nat) (s : Rd) : Out (Bool × Int) := match s.ty[v - 1]? with
  | none => .err 2
  | some t' => if eqT t' t = true then .ok (false, ((v - 1 : Nat) : Int)) s else .err 2
def valP : Nat → Ty → Rd → Out (Bool × Int)
  | 0, _, _ => .err 2
  | f + 1, t, s => if isPl t.op then immP t.op s else match numP s with
    | .err c => .err c
    | .ok v s1 => if t.op = wList then (if v = 0 then .ok (true, 0) s1 else if v - 1 = 0 then blkP (valP f) t s1 else refV t (v - 1) s1)
      else if v = 0 then blkP (valP f) t s1 else refV t v s1
/-- What Graph answers. -/
def graphP (b : List UInt8) (t : Ty) : Gr × Int :=
  if (isT t && sentT t) = true then
    if 4000 < b.length then (⟨(false, 0), []⟩, 7) else match valP 2001 t ⟨b, [], []⟩ with
      | .err c => (⟨(false, 0), []⟩, c)
      | .ok x s => if s.b = [] then (⟨x, s.bl⟩, 0) else (⟨(false, 0), []⟩, 2)
  else (⟨(false, 0), []⟩, 6)
/-- A type that is read by. -/
def okS (t : Ty) : Bool := okT t && sentT t
theorem okS_op {t : Ty} (h : okS t = true) : t.op = wInt ∨ t.op = wBool ∨ t.op = wUnit ∨ t.op = wString ∨ t.op = wCell ∨ (t.op = wList ∧ t.kids.length = 1) ∨ (t.op = wRef ∧ t.kids.length = 1) ∨ (t.op = wPair ∧ t.kids.length = 2) := by
  obtain ⟨o, n, ks⟩ := t
  simp only [okS, okT, sentT, Bool.and_eq_true, Bool.not_eq_true', Bool.or_eq_false_iff, decide_eq_false_iff_not, decide_eq_true_eq, Decidable.not_not] at h
  obtain ⟨⟨⟨⟨h1, h2⟩, h3⟩, h4⟩, ⟨h5, h6⟩, h7⟩ := h
  simp only [Ty.op, Ty.kids]
  unfold kidsOf at h1
  split at h1
  · next c => rcases c with c | c | c | c | c | c <;> simp_all
  · split at h1
    · next c => rcases c with c | c <;> (simp_all <;> omega)
    · split at h1
      · next c => rcases c with c | c <;> (simp_all <;> omega)
      · omega
theorem okS_kids {t : Ty} (h : okS t = true) : ∀ k ∈ t.kids, okS k = true := by
  obtain ⟨o, n, ks⟩ := t
  simp only [okS, okT, sentT, Bool.and_eq_true] at h
  obtain ⟨⟨_, h1⟩, _, h2⟩ := h
  simp only [Ty.kids]
  have key : ∀ ks : List Ty, okL ks = true → sentL ks = true → ∀ k ∈ ks, okS k = true := by
   intro ks
   induction ks with
   | nil => simp
   | cons a u ih =>
    intro h1 h2
    simp only [okL, sentL, Bool.and_eq_true] at h1 h2
    intro k hk
    rcases List.mem_cons.1 hk with rfl | hk
    · simp [okS, h1.1, h2.1]
    · exact ih h1.2 h2.2 k hk
  exact key ks h1 h2
theorem okS_cell : okS (.mk wInt 0 []) = true ∧ okS (.mk wList 0 [.mk wCell 0 []]) = true := by decide
theorem okS_kidsT {t : Ty} (h : okS t = true) : ∀ k ∈ kidsT t, okS k = true := by
  have hk := okS_kids h
  have ho := okS_op h
  unfold kidsT
  intro k
  split
  · simp
  · split
    · next c =>
      have hl : t.kids.length = 1 := by
        rcases ho with e | e | e | e | e | ⟨_, e⟩ | ⟨e, _⟩ | ⟨e, _⟩ <;> first | exact e | (rw [c] at e; exact absurd e (by decide))
      intro hm
      rcases List.mem_cons.1 hm with rfl | hm
      · cases hks : t.kids with
        | nil => rw [hks] at hl; simp at hl
        | cons a u => exact hk a (by rw [hks]; exact List.mem_cons_self)
      · rw [List.mem_singleton.1 hm]; exact h
    · split
      · exact hk k
      · intro hm
        rcases List.mem_cons.1 hm with rfl | hm
        · exact okS_cell.1
        · rw [List.mem_singleton.1 hm]; exact okS_cell.2
end Em
end Go.Proofs.YtoehaijmkmdggaaGreat
