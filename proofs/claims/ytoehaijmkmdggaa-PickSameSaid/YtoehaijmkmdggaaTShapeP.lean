/- Walks: a string put into a heap (package shape). Walks: a string's bytes out of a heap (package shape). Walks: the graph of a number; the laws' own check (shape). Walks: the laws' own check (shape); the law ShapePut. Graphs that came in; walks: are two rows of values one? are two blocks? -/
import Derived.Test.YtoehaijmkmdggaaTHeapR
import Derived.Test.YtoehaijmkmdggaaTLib
import Derived.Test.YtoehaijmkmdggaaTLibK
import Derived.Test.YtoehaijmkmdggaaTReg
import Derived.Test.YtoehaijmkmdggaaTOpen
import Derived.Test.YtoehaijmkmdggaaTLibR
set_option linter.unusedSimpArgs false
set_option linter.unusedVariables false
set_option linter.unusedSimpArgs false
namespace Go.Proofs.Ytoehaijmkmdggaa
open Go.RowKit
set_option linter.unusedVariables false
set_option maxRecDepth 100000
/-- A string's words. -/
def wordsOf (s : List UInt8) : List Int := s.map fun b => intW (b.toNat : Int)
theorem wordsOf_wf (s : List UInt8) : ∀ f ∈ wordsOf s, (Lit.int .i64 f).wf = true := by
  intro f hf
  obtain ⟨b, _, rfl⟩ := List.mem_map.1 hf
  have := b.toNat_lt
  unfold intW
  rw [IntKind.wrap_i64]
  simp [Lit.wf, IntKind.min, IntKind.max, IntKind.bits, IntKind.signed, wrap64]
  omega
theorem words_set (s : List UInt8) (k : Nat) (hk : k < s.length) : (wordsOf (s.take k) ++ List.replicate (s.length - k) 0).set k (intW (s[k].toNat : Int)) = wordsOf (s.take (k + 1)) ++ List.replicate (s.length - (k + 1)) 0 := by
  have hl : (wordsOf (s.take k)).length = k := by simp [wordsOf]; omega
  rw [List.set_append_right _ _ (by omega), hl, Nat.sub_self, show s.length - k = (s.length - (k + 1)) + 1 by omega, List.replicate_succ, List.set_cons_zero]
  unfold wordsOf
  rw [List.take_succ_eq_append_getElem hk, List.map_append, List.append_assoc]
  rfl
/-- A row of the call's own: its block, a cell of it. -/
theorem own_at {w : World} {base e n : Nat} {g c : Nat} {xs : List Value} (h : w.ownsRow base e 1 (.slice (some ⟨g, 0, none⟩) n c) n xs) (k : Nat) (hk : k < xs.length) : w.cell? ⟨g, k, none⟩ = some xs[k] ∧ w.frozen? ⟨g, k, none⟩ = false := by
  have hc := h.cells (g := g) rfl k xs[k] (by simp [hk])
  rw [add_pl] at hc
  refine ⟨hc, ?_⟩
  rcases h.2 with ⟨e, _⟩ | ⟨g', cap, cur, e, hg, hh, _⟩
  · cases e
  · cases e
    simp [World.frozen?, hh]
set_option maxHeartbeats 4000000 in
theorem shapePut {p sz : Nat} {S : List Nat} {H : Em.Hp} (w : World) (h : HRep w p S sz H) (s : List UInt8) (hs : s.length ≤ 100000) : Calls Try.prog 15 #[.pointer (some ⟨p, 0, none⟩), .string (str s)] w fun e w' => ∃ w1, Keep w w1 ∧ AllocH w1 p S sz H 1 (wordsOf s) e w' := by
  obtain ⟨w1, hmk, hrow, k1⟩ := run_makeW w s.length (by omega)
  have hsz := str_size s
  go_enter Try.func15, Try.ntmps15
  go_wp2_with fail
  go_loopw [13] (fun i W => ∃ k : Nat, k ≤ s.length ∧ i = .int .i64 (k : Int) ∧ W.ownsRow w.heap.size 36 1 (.slice (some ⟨w.heap.size, 0, none⟩) s.length s.length) s.length ((wordsOf (s.take k) ++ List.replicate (s.length - k) 0).map (Value.int .i64)) ∧ Keep w W) (fun i _ => s.length - (intOf i).toNat)
  case atStart => exact ⟨0, Nat.zero_le _, rfl, by simpa [wordsOf] using hrow, k1⟩
  case round =>
    clear hrow k1 hmk
    obtain ⟨k, hk, rfl, row, kw⟩ := hrel
    by_cases hlt : k < s.length
    · have hlti : (k : Int) < (s.length : Int) := by omega
      have hws := words_set s k hlt
      have hat := own_at row k (by simp [wordsOf]; omega)
      obtain ⟨c0, c1⟩ := hat
      have HROW := hide row
      clear row
      go_wp2_with fail
      have hw : wrap64 (((str s)[k]'(by rw [str_size]; exact hlt)).toNat : Int) = (s[k].toNat : Int) := by
        have hb : (str s)[k]'(by rw [str_size]; exact hlt) = s[k] := by simp [str]; rfl
        rw [hb]
        have := s[k].toNat_lt
        simp only [wrap64]
        omega
      rw [hw]
      refine (heapInt _ _).mono ?_
      rintro e w2 ⟨rfl, rfl⟩
      have hst := (World.ownsRow.stored HROW.out k (.int .i64 (intW (s[k].toNat : Int)))).1
      rw [← List.map_set, hws] at hst
      have HST := hide hst
      have HK := hide (Keep.st kw (p := ⟨w.heap.size, k, none⟩) (Nat.le_refl _) (.int .i64 (intW (s[k].toNat : Int))))
      clear hst hws hw
      generalize intW (s[k].toNat : Int) = y at *
      go_wp2_with fail
      go_roundw
      case rel => exact ⟨k + 1, by omega, by go_num, HST.out, HK.out⟩
      case measure => simp [intOf]; omega
    · have hlti : ¬ (k : Int) < (s.length : Int) := by omega
      have hkn : k = s.length := by omega
      rw [hkn, List.take_length, Nat.sub_self, List.replicate_zero, List.append_nil] at row
      have hIs := (Cs.of_own row).1
      have HIS := hide hIs
      clear hkn hIs row
      go_wp2_with fail
      refine (heapAlloc wr (h.keep kw) 1 (by decide) _ (wordsOf s) HIS.out (wordsOf_wf s) (by simp [wordsOf]; omega)).mono ?_
      intro e w3 R
      cases ha : Em.alloc sz H 1 (wordsOf s) with
      | none =>
        obtain ⟨rfl, k3⟩ := R.no ha
        go_wp2_with fail
        go_ret2
        exact ⟨wr, kw, R⟩
      | some x =>
        obtain ⟨n, H'⟩ := x
        obtain ⟨rfl, k3⟩ := R.yes ha
        go_wp2_with fail
        go_ret2
        exact ⟨wr, kw, R⟩
end Go.Proofs.Ytoehaijmkmdggaa
namespace Go.Proofs.Ytoehaijmkmdggaa
open Go.RowKit
set_option linter.unusedVariables false
set_option maxRecDepth 100000
namespace Em
/-- Is a word a byte? -/
def isB (f : Int) : Bool := f % 2 == 1 && (decide (0 ≤ f / 2) && decide (f / 2 < 256))
def byteOf (f : Int) : UInt8 := UInt8.ofNat (f / 2).toNat
/-- Words as bytes. -/
def textB (fs : List Int) : Option (List UInt8) := if fs.all isB = true then some (fs.map byteOf) else none
/-- A string's bytes, in a heap. -/
def textH (H : Hp) (n : Int) : Option (List UInt8) := if (blk H n).1 = 1 then textB (blk H n).2 else none
end Em
theorem used_ge {H : Em.Hp} {b : Int × List Int} (h : b ∈ H) : b.2.length ≤ Em.used H := by
  induction H with
  | nil => cases h
  | cons c t ih =>
    rw [Em.used]
    rcases List.mem_cons.1 h with rfl | h
    · omega
    · have := ih h
      omega
theorem blk_mem (H : Em.Hp) (n : Int) : Em.blk H n = (0, []) ∨ Em.blk H n ∈ H := by
  unfold Em.blk
  cases hi : Em.idx H n with
  | none => exact .inl rfl
  | some i =>
    have := Em.idx_lt hi
    right
    simp only [List.getD_eq_getElem?_getD, List.getElem?_eq_getElem this, Option.getD_some]
    exact List.getElem_mem this
theorem HRep.small {w : World} {p sz : Nat} {S : List Nat} {H : Em.Hp} (h : HRep w p S sz H) : Em.used H ≤ sz ∧ sz ≤ 20000 ∧ ∀ b ∈ H, (Lit.int .i64 b.1).wf = true ∧ ∀ f ∈ b.2, (Lit.int .i64 f).wf = true := by
  obtain ⟨mb, L, rfl, h⟩ := h
  exact ⟨h.small.1, h.small.2, h.ints⟩
theorem HRep.blk {w : World} {p sz : Nat} {S : List Nat} {H : Em.Hp} (h : HRep w p S sz H) (n : Int) : (Em.blk H n).2.length ≤ 20000 ∧ (∀ f ∈ (Em.blk H n).2, (Lit.int .i64 f).wf = true) ∧ (Lit.int .i64 (Em.blk H n).1).wf = true := by
  have hs := h.small
  rcases blk_mem H n with e | e
  · rw [e]
    exact ⟨by simp, by simp, by decide⟩
  · have := used_ge e
    exact ⟨by omega, (hs.2.2 _ e).2, (hs.2.2 _ e).1⟩
theorem textB_no {fs : List Int} {k : Nat} (hk : k < fs.length) (h : Em.isB fs[k] = false) : Em.textB fs = none := by
  unfold Em.textB
  rw [if_neg]
  intro e
  rw [List.all_eq_true] at e
  have := e fs[k] (List.getElem_mem hk)
  rw [h] at this
  cases this
theorem textB_yes {fs : List Int} (h : ∀ x ∈ fs.take fs.length, Em.isB x = true) : Em.textB fs = some (fs.map Em.byteOf) := by
  rw [List.take_length] at h
  exact if_pos (List.all_eq_true.2 h)
theorem bytes_set (fs : List Int) (k : Nat) (hk : k < fs.length) : (((fs.take k).map Em.byteOf) ++ List.replicate (fs.length - k) 0).set k (Em.byteOf fs[k]) = (fs.take (k + 1)).map Em.byteOf ++ List.replicate (fs.length - (k + 1)) 0 := by
  have hl : ((fs.take k).map Em.byteOf).length = k := by simp; omega
  rw [List.set_append_right _ _ (by omega), hl, Nat.sub_self, show fs.length - k = (fs.length - (k + 1)) + 1 by omega, List.replicate_succ, List.set_cons_zero]
  rw [List.take_succ_eq_append_getElem hk, List.map_append, List.append_assoc]
  rfl
/-- A text, or none, is answered. -/
def RetX (w : World) (o : Option (List UInt8)) (e : Ending) (w' : World) : Prop := Keep w w' ∧ e = .returned (.tuple #[.string (str (o.getD [])), .bool o.isSome])
theorem RetX.of {w w' : World} {o o' : Option (List UInt8)} {e : Ending} (h : o = o') (r : RetX w o' e w') : RetX w o e w' := h ▸ r
set_option maxHeartbeats 8000000 in
theorem shapeText {p sz : Nat} {S : List Nat} {H : Em.Hp} (w : World) (h : HRep w p S sz H) (n : Int) (hn : (Lit.int .i64 n).wf = true) : Calls Try.prog 106 #[.pointer (some ⟨p, 0, none⟩), .int .i64 n] w (RetX w (Em.textH H n)) := by
  by_cases ht : (Em.blk H n).1 = 1
  · have hf : ∀ i, Em.field H n i = if i < 0 then none else (Em.blk H n).2[i.toNat]? := fun i => rfl
    have hX := hide (show Em.textH H n = Em.textB (Em.blk H n).2 from if_pos ht)
    have hsmall : (Em.blk H n).2.length ≤ 1000000 := by have := (h.blk n).1; omega
    have HW := hide (h.blk n).2.1
    have HF := hide hf
    clear hf
    have HT := hide ht
    go_enter Try.func106, Try.ntmps106
    go_wp2_with fail
    refine (heapTag _ h n hn).mono ?_
    rintro e w1 ⟨rfl, rfl⟩
    rw [ht]
    clear ht
    generalize hfs : (Em.blk H n).2 = fs at *
    have HFS := hide hfs
    clear hfs
    go_wp2_with fail
    refine (heapLen _ h n hn).mono ?_
    rintro e w1 ⟨rfl, rfl⟩
    rw [HFS.out]
    obtain ⟨w1, hmk, hrow, k1⟩ := run_makeB w fs.length hsmall
    go_wp2_with fail
    clear hmk
    go_loopw [21] (fun i W => ∃ k : Nat, k ≤ fs.length ∧ i = .int .i64 (k : Int) ∧ (∀ x ∈ fs.take k, Em.isB x = true) ∧ Obs W w.heap.size (.slice (some ⟨w.heap.size, 0, none⟩) fs.length fs.length) ((fs.take k).map Em.byteOf ++ List.replicate (fs.length - k) 0) ∧ Keep w W) (fun i _ => fs.length - (intOf i).toNat)
    case atStart => exact ⟨0, Nat.zero_le _, rfl, by simp, by simpa using hrow, k1⟩
    case round =>
      clear hrow k1
      obtain ⟨k, hk, rfl, hall, row, kw⟩ := hrel
      have HALL := hide hall
      clear hall
      by_cases hlt : k < fs.length
      · have hlti : (k : Int) < (fs.length : Int) := by omega
        have hbs := bytes_set fs k hlt
        have hll : ((fs.take k).map Em.byteOf ++ List.replicate (fs.length - k) (0 : UInt8)).length = fs.length := by simp; omega
        have hro : wr.ownsRow w.heap.size 5 1 (.slice (some ⟨w.heap.size, 0, none⟩) fs.length fs.length) fs.length (((fs.take k).map Em.byteOf ++ List.replicate (fs.length - k) 0).map bv) := by
          have := row
          unfold Obs Ob at this
          rwa [hll] at this
        obtain ⟨c9, c1⟩ := own_at hro k (by simp; omega)
        obtain ⟨cv, c0⟩ : ∃ cv, wr.cell? ⟨w.heap.size, k, none⟩ = some cv := ⟨_, c9⟩
        clear c9
        have HROW := hide row
        have hfk : fieldT H n (k : Int) = .tuple #[.int .i64 fs[k], .bool true] := by
          unfold fieldT
          rw [HF.out, if_neg (by omega), Int.toNat_natCast, List.getElem?_eq_getElem hlt]
        have hno := textB_no hlt
        have hyes : Em.isB fs[k] = true → ∀ x ∈ fs.take (k + 1), Em.isB x = true := by
          intro hx x hm
          rw [List.take_succ_eq_append_getElem hlt] at hm
          rcases List.mem_append.1 hm with hm | hm
          · exact HALL.out x hm
          · rw [List.mem_singleton.1 hm]; exact hx
        have hset := fun b => (HROW.out.set (by exact hll.symm) k b)
        clear row hro hll
        generalize hy : fs[k] = y at *
        clear hy
        have HNO := hide hno
        have HYES := hide hyes
        have HBS := hide hbs
        have HSET := hide hset
        clear hno hyes hbs hset
        go_wp2_with fail
        refine (heapField _ (h.keep kw) n hn (k : Int)).mono ?_
        rintro e w2 ⟨rfl, rfl⟩
        rw [hfk]
        clear hfk
        go_wp2_with fail
        refine (heapNum y _).mono ?_
        rintro e w2 ⟨rfl, rfl⟩
        go_wp2_with fail
        refine (heapIsInt y _).mono ?_
        rintro e w2 ⟨rfl, rfl⟩
        by_cases h1 : y % 2 = 1
        · by_cases h2 : y / 2 < 0
          · have hb : Em.isB y = false := by unfold Em.isB; rw [decide_eq_false (p := 0 ≤ y / 2) (by omega)]; simp
            have h1b : (y % 2 == 1) = true := by simpa using h1
            rw [h1b]
            have HB := hide hb
            clear hb h1 h1b
            go_wp2_with fail
            go_ret2
            exact RetX.of (hX.out.trans (HNO.out HB.out)) ⟨kw, rfl⟩
          · by_cases h3 : y / 2 < 256
            · have hb : Em.isB y = true := by unfold Em.isB; rw [decide_eq_true (by omega), decide_eq_true h3]; simp; exact h1
              have h1b : (y % 2 == 1) = true := by simpa using h1
              rw [h1b]
              have h3n : ¬ (y / 2 ≥ 256) := by omega
              have hby : Value.int .u8 (y / 2) = bv (Em.byteOf y) := by
                unfold Em.byteOf bv
                rw [UInt8.toNat_ofNat', Nat.mod_eq_of_lt (by omega)]
                congr 1
                omega
              have HBY := hide hby
              have HB := hide hb
              clear hb hby h1 h1b
              go_wp2_with fail
              refine (heapNum y _).mono ?_
              rintro e w2 ⟨rfl, rfl⟩
              go_wp2_with fail
              go_roundw
              case rel => exact ⟨k + 1, by omega, by go_num, HYES.out HB.out, by rw [HBY.out, ← HBS.out]; exact HSET.out _, Keep.st kw (p := ⟨w.heap.size, k, none⟩) (Nat.le_refl _) _⟩
              case measure => simp [intOf]; omega
            · have hb : Em.isB y = false := by unfold Em.isB; rw [decide_eq_false h3]; simp
              have h1b : (y % 2 == 1) = true := by simpa using h1
              rw [h1b]
              have h3n : y / 2 ≥ 256 := by omega
              have HB := hide hb
              clear hb h1 h1b
              go_wp2_with fail
              go_ret2
              exact RetX.of (hX.out.trans (HNO.out HB.out)) ⟨kw, rfl⟩
        · have hb : Em.isB y = false := by
            unfold Em.isB
            rw [show (y % 2 == 1) = false from by simpa using h1]
            rfl
          have h1b : (y % 2 == 1) = false := by simpa using h1
          rw [h1b]
          have HB := hide hb
          clear hb h1 h1b
          go_wp2_with fail
          go_ret2
          exact RetX.of (hX.out.trans (HNO.out HB.out)) ⟨kw, rfl⟩
      · have hlti : ¬ (k : Int) < (fs.length : Int) := by omega
        have hkn : k = fs.length := by omega
        have hy := HALL.out
        rw [hkn] at hy
        have HY := hide (textB_yes hy)
        rw [hkn, List.take_length, Nat.sub_self, List.replicate_zero, List.append_nil] at row
        have hb := row.bs
        have hcA := run_conv_bs (P := Try.prog) hb 22 5 9 Try.underlying22 Try.underlying5 Try.underlying9
        clear hkn hy row hb HALL
        go_wp2_with fail
        go_ret2
        exact RetX.of (hX.out.trans HY.out) ⟨kw, rfl⟩
  · have hX := hide (show Em.textH H n = none from if_neg ht)
    go_enter Try.func106, Try.ntmps106
    go_wp2_with fail
    refine (heapTag _ h n hn).mono ?_
    rintro e w1 ⟨rfl, rfl⟩
    generalize (Em.blk H n).1 = tg at *
    go_wp2_with fail
    go_ret2
    exact RetX.of hX.out ⟨(by repeat (first | exact Keep.rf _ | assumption | apply Keep.al | apply Keep.dr | apply Keep.dn)), rfl⟩
end Go.Proofs.Ytoehaijmkmdggaa
namespace Go.Proofs.Ytoehaijmkmdggaa
open Go.RowKit
set_option linter.unusedVariables false
set_option maxRecDepth 100000
end Go.Proofs.Ytoehaijmkmdggaa
namespace Go.Proofs.Ytoehaijmkmdggaa
open Go.RowKit
set_option linter.unusedVariables false
set_option maxRecDepth 100000
theorem wordsOf_all (s : List UInt8) : (wordsOf s).all Em.isB = true := by
  rw [List.all_eq_true]
  intro f hf
  obtain ⟨b, _, rfl⟩ := List.mem_map.1 hf
  have hb := b.toNat_lt
  have h1 := intW_odd (b.toNat : Int)
  have h2 := intW_back (b.toNat : Int) (by omega) (by omega)
  unfold Em.isB
  rw [h2, h1]
  rw [decide_eq_true (by omega), decide_eq_true (by omega)]
  rfl
theorem wordsOf_bytes (s : List UInt8) : (wordsOf s).map Em.byteOf = s := by
  unfold wordsOf
  rw [List.map_map]
  have : (Em.byteOf ∘ fun b : UInt8 => intW (b.toNat : Int)) = id := by
    funext b
    have hb := b.toNat_lt
    have h2 := intW_back (b.toNat : Int) (by omega) (by omega)
    simp only [Function.comp, Em.byteOf, h2, Int.toNat_natCast, id]
    exact UInt8.toNat.inj (by rw [UInt8.toNat_ofNat', Nat.mod_eq_of_lt hb])
  rw [this, List.map_id]
theorem textB_words (s : List UInt8) : Em.textB (wordsOf s) = some s := by
  unfold Em.textB
  rw [if_pos (wordsOf_all s), wordsOf_bytes]
end Go.Proofs.Ytoehaijmkmdggaa
namespace Go.Proofs.Ytoehaijmkmdggaa
open Go.ChangeShapes Go.WideShapes Go.RowKit
set_option linter.unusedVariables false
set_option maxRecDepth 100000
namespace Em
/-- A block of a graph. -/
structure Blk where
  tag : Int
  str : List UInt8
  kids : List (Bool × Int)
  deriving DecidableEq
/-- A graph. -/
structure Gr where
  root : Bool × Int
  blocks : List Blk
  deriving DecidableEq
end Em
def KRf (_ : World) (cs : List Value) (x : Bool × Int) : Prop := cs = [.bool x.1, .int .i64 x.2] ∧ (Lit.int .i64 x.2).wf = true
def KBk (w : World) (cs : List Value) (b : Em.Blk) : Prop := ∃ v, cs = [.int .i64 b.tag, .string (str b.str), v] ∧ (Lit.int .i64 b.tag).wf = true ∧ Sl 2 KRf w v b.kids
theorem KBk.keep {w w' : World} {cs : List Value} {b : Em.Blk} (h : KBk w cs b) (k : Keep w w') : KBk w' cs b := by
  obtain ⟨v, h1, h2, h3⟩ := h
  exact ⟨v, h1, h2, h3.keep k fun _ _ h => h⟩
/-- A value that is a graph. -/
def GrV (w : World) (v : Value) (g : Em.Gr) : Prop := ∃ u, v = .agg #[.bool g.root.1, .int .i64 g.root.2, u] ∧ (Lit.int .i64 g.root.2).wf = true ∧ Sl 3 KBk w u g.blocks
theorem GrV.keep {w w' : World} {v : Value} {g : Em.Gr} (h : GrV w v g) (k : Keep w w') : GrV w' v g := by
  obtain ⟨u, h1, h2, h3⟩ := h
  exact ⟨u, h1, h2, h3.keep k fun _ _ h => h.keep k⟩
section
variable {H : Type} {enc : TypeId × Value → H} {W : World} {base : Nat}
end
theorem drop_step {α : Type} [DecidableEq α] {xs ys : List α} {j : Nat} (h1 : j < xs.length) (h2 : j < ys.length) : decide (xs.drop j = ys.drop j) = (decide (xs[j] = ys[j]) && decide (xs.drop (j + 1) = ys.drop (j + 1))) := by
  rw [Bool.eq_iff_iff, Bool.and_eq_true, decide_eq_true_iff, decide_eq_true_iff, decide_eq_true_iff, List.drop_eq_getElem_cons h1, List.drop_eq_getElem_cons h2, List.cons.injEq]
end Go.Proofs.Ytoehaijmkmdggaa
