/- Walks: a string's bytes out of a heap (package shape). -/
import Derived.Test.YtoehaijmkmdggaaShapeP
namespace Go.Proofs.Ytoehaijmkmdggaa
open Go.RowKit
set_option linter.unusedVariables false
set_option maxRecDepth 100000
namespace Em
/-- Is a word a byte? -/
def isB (f : Int) : Bool := f % 2 == 1 && (decide (0 ≤ f / 2) && decide (f / 2 < 256))
def byteOf (f : Int) : UInt8 := UInt8.ofNat (f / 2).toNat
/-- Words as bytes. -/
def textB (fs : List Int) : Option (List UInt8) := if fs.all isB = true then some (fs.map byteOf) else none
/-- A string's bytes, in a heap. -/
def textH (H : Hp) (n : Int) : Option (List UInt8) := if (blk H n).1 = 1 then textB (blk H n).2 else none
end Em
theorem used_ge {H : Em.Hp} {b : Int × List Int} (h : b ∈ H) : b.2.length ≤ Em.used H := by
  induction H with
  | nil => cases h
  | cons c t ih =>
    rw [Em.used]
    rcases List.mem_cons.1 h with rfl | h
    · omega
    · have := ih h
      omega
theorem blk_mem (H : Em.Hp) (n : Int) : Em.blk H n = (0, []) ∨ Em.blk H n ∈ H := by
  unfold Em.blk
  cases hi : Em.idx H n with
  | none => exact .inl rfl
  | some i =>
    have := Em.idx_lt hi
    right
    simp only [List.getD_eq_getElem?_getD, List.getElem?_eq_getElem this, Option.getD_some]
    exact List.getElem_mem this
theorem HRep.small {w : World} {p sz : Nat} {S : List Nat} {H : Em.Hp} (h : HRep w p S sz H) : Em.used H ≤ sz ∧ sz ≤ 20000 ∧ ∀ b ∈ H, (Lit.int .i64 b.1).wf = true ∧ ∀ f ∈ b.2, (Lit.int .i64 f).wf = true := by
  obtain ⟨mb, L, rfl, h⟩ := h
  exact ⟨h.small.1, h.small.2, h.ints⟩
theorem HRep.blk {w : World} {p sz : Nat} {S : List Nat} {H : Em.Hp} (h : HRep w p S sz H) (n : Int) : (Em.blk H n).2.length ≤ 20000 ∧ (∀ f ∈ (Em.blk H n).2, (Lit.int .i64 f).wf = true) ∧ (Lit.int .i64 (Em.blk H n).1).wf = true := by
  have hs := h.small
  rcases blk_mem H n with e | e
  · rw [e]
    exact ⟨by simp, by simp, by decide⟩
  · have := used_ge e
    exact ⟨by omega, (hs.2.2 _ e).2, (hs.2.2 _ e).1⟩
theorem textB_no {fs : List Int} {k : Nat} (hk : k < fs.length) (h : Em.isB fs[k] = false) : Em.textB fs = none := by
  unfold Em.textB
  rw [if_neg]
  intro e
  rw [List.all_eq_true] at e
  have := e fs[k] (List.getElem_mem hk)
  rw [h] at this
  cases this
theorem textB_yes {fs : List Int} (h : ∀ x ∈ fs.take fs.length, Em.isB x = true) : Em.textB fs = some (fs.map Em.byteOf) := by
  rw [List.take_length] at h
  exact if_pos (List.all_eq_true.2 h)
theorem bytes_set (fs : List Int) (k : Nat) (hk : k < fs.length) : (((fs.take k).map Em.byteOf) ++ List.replicate (fs.length - k) 0).set k (Em.byteOf fs[k]) = (fs.take (k + 1)).map Em.byteOf ++ List.replicate (fs.length - (k + 1)) 0 := by
  have hl : ((fs.take k).map Em.byteOf).length = k := by simp; omega
  rw [List.set_append_right _ _ (by omega), hl, Nat.sub_self, show fs.length - k = (fs.length - (k + 1)) + 1 by omega, List.replicate_succ, List.set_cons_zero]
  rw [List.take_succ_eq_append_getElem hk, List.map_append, List.append_assoc]
  rfl
/-- A text, or none, is answered. -/
def RetX (w : World) (o : Option (List UInt8)) (e : Ending) (w' : World) : Prop := Keep w w' ∧ e = .returned (.tuple #[.string (str (o.getD [])), .bool o.isSome])
theorem RetX.of {w w' : World} {o o' : Option (List UInt8)} {e : Ending} (h : o = o') (r : RetX w o' e w') : RetX w o e w' := h ▸ r
set_option maxHeartbeats 8000000 in
theorem shapeText {p sz : Nat} {S : List Nat} {H : Em.Hp} (w : World) (h : HRep w p S sz H) (n : Int) (hn : (Lit.int .i64 n).wf = true) : Calls Try.prog 106 #[.pointer (some ⟨p, 0, none⟩), .int .i64 n] w (RetX w (Em.textH H n)) := by
  by_cases ht : (Em.blk H n).1 = 1
  · have hf : ∀ i, Em.field H n i = if i < 0 then none else (Em.blk H n).2[i.toNat]? := fun i => rfl
    have hX := hide (show Em.textH H n = Em.textB (Em.blk H n).2 from if_pos ht)
    have hsmall : (Em.blk H n).2.length ≤ 1000000 := by have := (h.blk n).1; omega
    have HW := hide (h.blk n).2.1
    have HF := hide hf
    clear hf
    have HT := hide ht
    go_enter Try.func106, Try.ntmps106
    go_wp2_with fail
    refine (heapTag _ h n hn).mono ?_
    rintro e w1 ⟨rfl, rfl⟩
    rw [ht]
    clear ht
    generalize hfs : (Em.blk H n).2 = fs at *
    have HFS := hide hfs
    clear hfs
    go_wp2_with fail
    refine (heapLen _ h n hn).mono ?_
    rintro e w1 ⟨rfl, rfl⟩
    rw [HFS.out]
    obtain ⟨w1, hmk, hrow, k1⟩ := run_makeB w fs.length hsmall
    go_wp2_with fail
    clear hmk
    go_loopw [21] (fun i W => ∃ k : Nat, k ≤ fs.length ∧ i = .int .i64 (k : Int) ∧ (∀ x ∈ fs.take k, Em.isB x = true) ∧ Obs W w.heap.size (.slice (some ⟨w.heap.size, 0, none⟩) fs.length fs.length) ((fs.take k).map Em.byteOf ++ List.replicate (fs.length - k) 0) ∧ Keep w W) (fun i _ => fs.length - (intOf i).toNat)
    case atStart => exact ⟨0, Nat.zero_le _, rfl, by simp, by simpa using hrow, k1⟩
    case round =>
      clear hrow k1
      obtain ⟨k, hk, rfl, hall, row, kw⟩ := hrel
      have HALL := hide hall
      clear hall
      by_cases hlt : k < fs.length
      · have hlti : (k : Int) < (fs.length : Int) := by omega
        have hbs := bytes_set fs k hlt
        have hll : ((fs.take k).map Em.byteOf ++ List.replicate (fs.length - k) (0 : UInt8)).length = fs.length := by simp; omega
        have hro : wr.ownsRow w.heap.size 5 1 (.slice (some ⟨w.heap.size, 0, none⟩) fs.length fs.length) fs.length (((fs.take k).map Em.byteOf ++ List.replicate (fs.length - k) 0).map bv) := by
          have := row
          unfold Obs Ob at this
          rwa [hll] at this
        obtain ⟨c9, c1⟩ := own_at hro k (by simp; omega)
        obtain ⟨cv, c0⟩ : ∃ cv, wr.cell? ⟨w.heap.size, k, none⟩ = some cv := ⟨_, c9⟩
        clear c9
        have HROW := hide row
        have hfk : fieldT H n (k : Int) = .tuple #[.int .i64 fs[k], .bool true] := by
          unfold fieldT
          rw [HF.out, if_neg (by omega), Int.toNat_natCast, List.getElem?_eq_getElem hlt]
        have hno := textB_no hlt
        have hyes : Em.isB fs[k] = true → ∀ x ∈ fs.take (k + 1), Em.isB x = true := by
          intro hx x hm
          rw [List.take_succ_eq_append_getElem hlt] at hm
          rcases List.mem_append.1 hm with hm | hm
          · exact HALL.out x hm
          · rw [List.mem_singleton.1 hm]; exact hx
        have hset := fun b => (HROW.out.set (by exact hll.symm) k b)
        clear row hro hll
        generalize hy : fs[k] = y at *
        clear hy
        have HNO := hide hno
        have HYES := hide hyes
        have HBS := hide hbs
        have HSET := hide hset
        clear hno hyes hbs hset
        go_wp2_with fail
        refine (heapField _ (h.keep kw) n hn (k : Int)).mono ?_
        rintro e w2 ⟨rfl, rfl⟩
        rw [hfk]
        clear hfk
        go_wp2_with fail
        refine (heapNum y _).mono ?_
        rintro e w2 ⟨rfl, rfl⟩
        go_wp2_with fail
        refine (heapIsInt y _).mono ?_
        rintro e w2 ⟨rfl, rfl⟩
        by_cases h1 : y % 2 = 1
        · by_cases h2 : y / 2 < 0
          · have hb : Em.isB y = false := by unfold Em.isB; rw [decide_eq_false (p := 0 ≤ y / 2) (by omega)]; simp
            have h1b : (y % 2 == 1) = true := by simpa using h1
            rw [h1b]
            have HB := hide hb
            clear hb h1 h1b
            go_wp2_with fail
            go_ret2
            exact RetX.of (hX.out.trans (HNO.out HB.out)) ⟨kw, rfl⟩
          · by_cases h3 : y / 2 < 256
            · have hb : Em.isB y = true := by unfold Em.isB; rw [decide_eq_true (by omega), decide_eq_true h3]; simp; exact h1
              have h1b : (y % 2 == 1) = true := by simpa using h1
              rw [h1b]
              have h3n : ¬ (y / 2 ≥ 256) := by omega
              have hby : Value.int .u8 (y / 2) = bv (Em.byteOf y) := by
                unfold Em.byteOf bv
                rw [UInt8.toNat_ofNat', Nat.mod_eq_of_lt (by omega)]
                congr 1
                omega
              have HBY := hide hby
              have HB := hide hb
              clear hb hby h1 h1b
              go_wp2_with fail
              refine (heapNum y _).mono ?_
              rintro e w2 ⟨rfl, rfl⟩
              go_wp2_with fail
              go_roundw
              case rel => exact ⟨k + 1, by omega, by go_num, HYES.out HB.out, by rw [HBY.out, ← HBS.out]; exact HSET.out _, Keep.st kw (p := ⟨w.heap.size, k, none⟩) (Nat.le_refl _) _⟩
              case measure => simp [intOf]; omega
            · have hb : Em.isB y = false := by unfold Em.isB; rw [decide_eq_false h3]; simp
              have h1b : (y % 2 == 1) = true := by simpa using h1
              rw [h1b]
              have h3n : y / 2 ≥ 256 := by omega
              have HB := hide hb
              clear hb h1 h1b
              go_wp2_with fail
              go_ret2
              exact RetX.of (hX.out.trans (HNO.out HB.out)) ⟨kw, rfl⟩
        · have hb : Em.isB y = false := by
            unfold Em.isB
            rw [show (y % 2 == 1) = false from by simpa using h1]
            rfl
          have h1b : (y % 2 == 1) = false := by simpa using h1
          rw [h1b]
          have HB := hide hb
          clear hb h1 h1b
          go_wp2_with fail
          go_ret2
          exact RetX.of (hX.out.trans (HNO.out HB.out)) ⟨kw, rfl⟩
      · have hlti : ¬ (k : Int) < (fs.length : Int) := by omega
        have hkn : k = fs.length := by omega
        have hy := HALL.out
        rw [hkn] at hy
        have HY := hide (textB_yes hy)
        rw [hkn, List.take_length, Nat.sub_self, List.replicate_zero, List.append_nil] at row
        have hb := row.bs
        have hcA := run_conv_bs (P := Try.prog) hb 22 5 9 Try.underlying22 Try.underlying5 Try.underlying9
        clear hkn hy row hb HALL
        go_wp2_with fail
        go_ret2
        exact RetX.of (hX.out.trans HY.out) ⟨kw, rfl⟩
  · have hX := hide (show Em.textH H n = none from if_neg ht)
    go_enter Try.func106, Try.ntmps106
    go_wp2_with fail
    refine (heapTag _ h n hn).mono ?_
    rintro e w1 ⟨rfl, rfl⟩
    generalize (Em.blk H n).1 = tg at *
    go_wp2_with fail
    go_ret2
    exact RetX.of hX.out ⟨(by repeat (first | exact Keep.rf _ | assumption | apply Keep.al | apply Keep.dr | apply Keep.dn)), rfl⟩
end Go.Proofs.Ytoehaijmkmdggaa
