/- Plain: is a graph one that may be built? A graph in memory that lies away from some blocks. -/
import Derived.Test.YtoehaijmkmdggaaGreatGDrawA
set_option linter.unusedSimpArgs false
set_option linter.unusedVariables false
namespace Go.Proofs.YtoehaijmkmdggaaGreat
set_option linter.unusedVariables false
namespace Em
/-- How many kids a tag has. -/
def kidsN (tag : Int) : Int := if tag = 1 then 0 else if tag = 2 ∨ tag = 3 ∨ tag = 5 then 2 else if tag = 4 then 1 else -1
def fitsN (n : Int) : Bool := decide (-4611686018427387904 ≤ n) && decide (n < 4611686018427387904)
def blkOk (b : Blk) : Bool := decide ((b.kids.length : Int) = kidsN b.tag) && (decide (b.tag = 1) || decide (b.str = []))
/-- Values, one after the other: how many blocks came. -/
def kidsC (r : Bool × Int → Nat → Option Nat) : List (Bool × Int) → Nat → Option Nat
  | [], n => some n
  | x :: t, n => (r x n).bind (kidsC r t)
/-- A value of a graph: how many blocks came. -/
def chkP (bs : List Blk) : Nat → Bool × Int → Nat → Option Nat
  | 0, _, n => none
  | f + 1, x, n => if x.1 = true then (if fitsN x.2 = true then some n else none)
    else if x.2 ≠ (n : Int) then (if 0 ≤ x.2 ∧ x.2 < (n : Int) then some n else none)
    else match bs[n]? with
      | none => none
      | some b => if blkOk b = true then kidsC (chkP bs f) b.kids (n + 1) else none
def isG (g : Gr) : Bool := chkP g.blocks (g.blocks.length + 1) g.root 0 == some g.blocks.length
/-- What a value may be, of so many blocks. -/
def refOk (m : Nat) (x : Bool × Int) : Prop := (x.1 = true ∧ fitsN x.2 = true) ∨ (x.1 = false ∧ 0 ≤ x.2 ∧ x.2 < (m : Int))
theorem refOk.mono {m m' : Nat} {x : Bool × Int} (h : refOk m x) (hm : m ≤ m') : refOk m' x := by
  rcases h with h | ⟨h1, h2, h3⟩
  · exact .inl h
  · exact .inr ⟨h1, h2, by omega⟩
theorem kidsC_all {r : Bool × Int → Nat → Option Nat} {m0 : Nat} {P : Nat → Prop} {Q : Nat → Bool × Int → Prop} (hQ : ∀ a b x, Q a x → a ≤ b → Q b x) (hr : ∀ x n m, r x n = some m → n ≤ m0 → n ≤ m ∧ m ≤ m0 ∧ (∀ j, n ≤ j → j < m → P j) ∧ Q m x) :
    ∀ l n m, kidsC r l n = some m → n ≤ m0 → n ≤ m ∧ m ≤ m0 ∧ (∀ j, n ≤ j → j < m → P j) ∧ ∀ x ∈ l, Q m x := by
  intro l
  induction l with
  | nil =>
    intro n m h hn
    cases h
    exact ⟨Nat.le_refl _, hn, fun j h1 h2 => by omega, by simp⟩
  | cons a t ih =>
    intro n m h hn
    rw [kidsC] at h
    cases hra : r a n with
    | none => rw [hra] at h; cases h
    | some k =>
      rw [hra] at h
      obtain ⟨h1, h2, h3, h4⟩ := hr a n k hra hn
      obtain ⟨g1, g2, g3, g4⟩ := ih k m h h2
      refine ⟨by omega, g2, fun j a1 a2 => ?_, fun x hx => ?_⟩
      · by_cases c : j < k
        · exact h3 j a1 c
        · exact g3 j (by omega) a2
      · rcases List.mem_cons.1 hx with rfl | hx
        · exact hQ _ _ _ h4 g1
        · exact g4 x hx
/-- What came is well, and its values are of what is there. -/
theorem chkP_all (bs : List Blk) (f : Nat) : ∀ x n m, chkP bs f x n = some m → n ≤ bs.length → n ≤ m ∧ m ≤ bs.length ∧ (∀ j, n ≤ j → j < m → ∃ b, bs[j]? = some b ∧ blkOk b = true ∧ ∀ k ∈ b.kids, refOk bs.length k) ∧ (refOk m x) := by
  induction f with
  | zero => intro x n m h; cases h
  | succ f ih =>
    intro x n m h hn
    rw [chkP] at h
    split at h
    · next c =>
      split at h
      · next c2 =>
        cases h
        exact ⟨Nat.le_refl _, hn, fun j h1 h2 => by omega, .inl ⟨c, c2⟩⟩
      · cases h
    · next c =>
      split at h
      · split at h
        · next c2 =>
          cases h
          exact ⟨Nat.le_refl _, hn, fun j h1 h2 => by omega, .inr ⟨by simpa using c, c2⟩⟩
        · cases h
      · next c2 =>
        cases hb : bs[n]? with
        | none => rw [hb] at h; cases h
        | some b =>
          rw [hb] at h
          simp only at h
          have hlt : n < bs.length := (List.getElem?_eq_some_iff.1 hb).1
          split at h
          · next c3 =>
            obtain ⟨g1, g2, g3, g4⟩ := kidsC_all (m0 := bs.length) (Q := fun m x => refOk m x) (fun a b x h1 h2 => h1.mono h2) ih b.kids (n + 1) m h (by omega)
            refine ⟨by omega, g2, fun j a1 a2 => ?_, .inr ⟨by simpa using c, by omega, by omega⟩⟩
            by_cases e : j = n
            · subst e
              exact ⟨b, hb, c3, fun k hk => (g4 k hk).mono g2⟩
            · exact g3 j (by omega) a2
          · cases h
theorem isG_all {g : Gr} (h : isG g = true) : (∀ b ∈ g.blocks, blkOk b = true ∧ ∀ k ∈ b.kids, refOk g.blocks.length k) ∧ refOk g.blocks.length g.root := by
  have h1 : chkP g.blocks (g.blocks.length + 1) g.root 0 = some g.blocks.length := by simpa [isG] using h
  obtain ⟨_, _, h3, h4⟩ := chkP_all _ _ _ _ _ h1 (Nat.zero_le _)
  refine ⟨fun b hb => ?_, h4⟩
  obtain ⟨j, hj, rfl⟩ := List.mem_iff_getElem.1 hb
  obtain ⟨b', hb', h5⟩ := h3 j (Nat.zero_le _) hj
  rw [List.getElem?_eq_getElem hj] at hb'
  cases hb'
  exact h5
theorem blkOk_cases {b : Blk} (h : blkOk b = true) : (b.tag = 1 ∧ b.kids = []) ∨ ((b.tag = 2 ∨ b.tag = 3 ∨ b.tag = 4 ∨ b.tag = 5) ∧ b.str = []) := by
  unfold blkOk kidsN at h
  simp only [Bool.and_eq_true, decide_eq_true_eq, Bool.or_eq_true] at h
  obtain ⟨h1, h2⟩ := h
  by_cases c : b.tag = 1
  · rw [if_pos c] at h1
    exact .inl ⟨c, List.length_eq_zero_iff.1 (by omega)⟩
  · rw [if_neg c] at h1
    refine .inr ⟨?_, by rcases h2 with h2 | h2; exact absurd h2 c; exact h2⟩
    by_cases c2 : b.tag = 2 ∨ b.tag = 3 ∨ b.tag = 5
    · omega
    · rw [if_neg c2] at h1
      by_cases c4 : b.tag = 4
      · omega
      · rw [if_neg c4] at h1
        omega
theorem kidsC_bind (r : Bool × Int → Nat → Option Nat) (x : Bool × Int) (t : List (Bool × Int)) (o : Option Nat) : o.bind (kidsC r (x :: t)) = (o.bind (r x)).bind (kidsC r t) := by
  cases o <;> rfl
end Em
end Go.Proofs.YtoehaijmkmdggaaGreat
namespace Go.Proofs.YtoehaijmkmdggaaGreat
open Go.RowKit Go.Maps
set_option linter.unusedVariables false
theorem add_block (ad : Addr) (k : Nat) : (ad.add k).block = ad.block := by
  unfold Addr.add
  split <;> rfl
/-- A slice lies away from S. -/
def AvR (S : List Nat) (v : Value) : Prop := ∀ ad n c, v = .slice (some ad) n c → 0 < n → ad.block ∉ S
theorem Sl.frm {α : Type} {sz : Nat} {K K' : World → List Value → α → Prop} {w w' : World} {v : Value} {xs : List α} {S : List Nat} (h : Sl sz K w v xs) (ha : AvR S v) (F : Frm (· ∈ S) w w') (hK : ∀ cs x, K w cs x → K' w' cs x) : Sl sz K' w' v xs := by
  obtain ⟨A, c, e, h1, h2, h3⟩ := h
  refine ⟨A, c, e, h1, h2, fun hp => (h3 hp).imp fun ad ⟨ea, hc⟩ => ⟨ea, fun j hj => (hc j hj).imp fun cs ⟨hl, hcell, hk⟩ => ⟨hl, fun i u hu => F.cell ?_ (hcell i u hu), hK _ _ hk⟩⟩⟩
  have := ha ad xs.length c (by rw [e, ea]) hp
  rw [add_block]
  exact this
def KBkS (S : List Nat) (w : World) (cs : List Value) (b : Em.Blk) : Prop := ∃ v, cs = [.int .i64 b.tag, .string (str b.str), v] ∧ (Lit.int .i64 b.tag).wf = true ∧ Sl 2 KRf w v b.kids ∧ AvR S v
theorem KBkS.frm {S : List Nat} {w w' : World} {cs : List Value} {b : Em.Blk} (h : KBkS S w cs b) (F : Frm (· ∈ S) w w') : KBkS S w' cs b := by
  obtain ⟨v, h1, h2, h3, h4⟩ := h
  exact ⟨v, h1, h2, h3.frm h4 F fun _ _ h => h, h4⟩
theorem KBkS.bk {S : List Nat} {w : World} {cs : List Value} {b : Em.Blk} (h : KBkS S w cs b) : KBk w cs b := by
  obtain ⟨v, h1, h2, h3, _⟩ := h
  exact ⟨v, h1, h2, h3⟩
/-- A graph that lies away from S. -/
def GrS (S : List Nat) (w : World) (v : Value) (g : Em.Gr) : Prop := ∃ u, v = .agg #[.bool g.root.1, .int .i64 g.root.2, u] ∧ (Lit.int .i64 g.root.2).wf = true ∧ Sl 3 (KBkS S) w u g.blocks ∧ AvR S u
theorem GrS.frm {S : List Nat} {w w' : World} {v : Value} {g : Em.Gr} (h : GrS S w v g) (F : Frm (· ∈ S) w w') : GrS S w' v g := by
  obtain ⟨u, h1, h2, h3, h4⟩ := h
  exact ⟨u, h1, h2, h3.frm h4 F fun _ _ h => h.frm F, h4⟩
theorem GrS.gr {S : List Nat} {w : World} {v : Value} {g : Em.Gr} (h : GrS S w v g) : GrV w v g := by
  obtain ⟨u, h1, h2, h3, _⟩ := h
  exact ⟨u, h1, h2, h3.mono fun _ _ h => h.bk⟩
theorem Sl.away {α : Type} {sz : Nat} {K : World → List Value → α → Prop} {w : World} {v : Value} {xs : List α} {S : List Nat} (h : Sl sz K w v xs) (hz : 0 < sz) (hS : ∀ k ∈ S, w.heap.size ≤ k) : AvR S v := by
  obtain ⟨A, c, e, h1, h2, h3⟩ := h
  intro ad n c' e2 hn hm
  rw [e] at e2
  injection e2 with ea en ec
  obtain ⟨ad', ea', hc⟩ := h3 (by omega)
  rw [ea'] at ea
  injection ea with ea
  subst ea
  obtain ⟨cs, hl, hcell, _⟩ := hc 0 (by omega)
  have h0 : cs[0]? = some cs[0] := List.getElem?_eq_getElem (by omega)
  have h9 := hcell 0 _ h0
  have h8 := World.block_lt_of_cell? w _ h9
  rw [add_block] at h8
  have := hS _ hm
  omega
/-- A graph that was there ahead of what changes. -/
theorem GrS.of {S : List Nat} {w0 w : World} {v : Value} {g : Em.Gr} (h : GrV w0 v g) (k : Keep w0 w) (hS : ∀ i ∈ S, w0.heap.size ≤ i) : GrS S w v g := by
  obtain ⟨u, h1, h2, h3⟩ := h
  have F : Frm (· ∈ S) w0 w := k.frm _
  have h4 := h3.away (S := S) (by omega) hS
  refine ⟨u, h1, h2, h3.frm h4 F fun cs b hb => ?_, h4⟩
  obtain ⟨v', e1, e2, e3⟩ := hb
  have e4 := e3.away (S := S) (by omega) hS
  exact ⟨v', e1, e2, e3.frm e4 F fun _ _ h => h, e4⟩
end Go.Proofs.YtoehaijmkmdggaaGreat
