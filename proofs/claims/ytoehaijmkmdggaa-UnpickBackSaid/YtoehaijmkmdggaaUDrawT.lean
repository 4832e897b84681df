/- Plain: a value's graph in a heap. Plain: what the drawer does, and the reference's teller. A drawing in memory. Walk: a word as a value of the graph (drawer.ref), given how a block is drawn. Walk: a block of the graph (drawer.block), given how values are drawn. Walk: a string's bytes out of a heap (reference of shape). Walk: a word as a value of the graph (the reference's teller). Walks: a value's graph (package shape, and its reference). -/
import Derived.Test.YtoehaijmkmdggaaUDrawA
import Derived.Test.YtoehaijmkmdggaaUShapeP
import Derived.Test.YtoehaijmkmdggaaURefR
import Derived.Test.YtoehaijmkmdggaaULibR
set_option linter.unusedSimpArgs false
set_option linter.unusedVariables false
namespace Go.Proofs.Ytoehaijmkmdggaa
set_option linter.unusedVariables false
namespace Em
/-- A drawing under way: the words that came, their blocks; is one none? -/
structure Dw where
  ws : List Int
  bl : List Blk
  bad : Bool
end Em
end Go.Proofs.Ytoehaijmkmdggaa
namespace Go.Proofs.Ytoehaijmkmdggaa
set_option linter.unusedVariables false
namespace Em
/-- A word comes. -/
def Dw.come (s : Dw) (n tag : Int) : Dw := ⟨s.ws ++ [n], s.bl ++ [⟨tag, [], []⟩], s.bad⟩
end Em
end Go.Proofs.Ytoehaijmkmdggaa
namespace Go.Proofs.Ytoehaijmkmdggaa
open Go.RowKit Go.Maps
set_option linter.unusedVariables false
section
variable {tt B : Nat} {w w' : World} {dp mb : Nat} {hv l : Value} {bad : Bool} {f : Int → Option Value} {its : List (Em.Blk × Value)}
end
section
variable {tt B : Nat} {U : List Int} {w w1 w' : World} {dp mb : Nat} {hv l l1 l' : Value} {its its1 its' : List (Em.Blk × Value)} {s s1 s' : Em.Dw}
end
end Go.Proofs.Ytoehaijmkmdggaa
namespace Go.Proofs.Ytoehaijmkmdggaa
open Go.RowKit Go.Maps
set_option linter.unusedVariables false
set_option linter.unusedSimpArgs false
set_option maxRecDepth 100000
theorem zeroInt (w : World) : (zeroValue 3).run Try.prog w = .ok (.int .i64 0) w := by kernel_rfl
end Go.Proofs.Ytoehaijmkmdggaa
namespace Go.Proofs.Ytoehaijmkmdggaa
open Go.RowKit Go.Maps
set_option linter.unusedVariables false
set_option linter.unusedSimpArgs false
set_option maxRecDepth 100000
end Go.Proofs.Ytoehaijmkmdggaa
namespace Go.Proofs.Ytoehaijmkmdggaa
open Go.RowKit Go.Maps
set_option linter.unusedVariables false
set_option linter.unusedSimpArgs false
set_option maxRecDepth 100000
theorem RRep.blk {w : World} {p sz : Nat} {S : List Nat} {H : Em.Hp} (h : RRep w p S sz H) (n : Int) : (Em.blk H n).2.length ≤ 20000 ∧ (∀ f ∈ (Em.blk H n).2, (Lit.int .i64 f).wf = true) ∧ (Lit.int .i64 (Em.blk H n).1).wf = true := by
  obtain ⟨a, t, f, fv, rfl, h, r, hs1, hs2⟩ := h
  rcases blk_mem H n with e | e
  · rw [e]
    exact ⟨by simp, by simp, by decide⟩
  · have := used_ge e
    exact ⟨by omega, (r _ e).2, (r _ e).1⟩
set_option maxHeartbeats 8000000 in
theorem ref18Text {p sz : Nat} {S : List Nat} {H : Em.Hp} (w : World) (h : RRep w p S sz H) (n : Int) (hn : (Lit.int .i64 n).wf = true) : Calls Try.prog 89 #[.pointer (some ⟨p, 0, none⟩), .int .i64 n] w (RetX w (Em.textH H n)) := by
  by_cases ht : (Em.blk H n).1 = 1
  · have hX := hide (show Em.textH H n = Em.textB (Em.blk H n).2 from if_pos ht)
    have hsmall : (Em.blk H n).2.length ≤ 1000000 := by have := (h.blk n).1; omega
    have HT := hide ht
    have HFD := refFields (n := n) w h
    go_enter Try.func89, Try.ntmps89
    go_wp2_with fail
    refine (refTag _ h n hn).mono ?_
    rintro e w1 ⟨rfl, rfl⟩
    rw [ht]
    clear ht
    generalize hfs : (Em.blk H n).2 = fs at *
    have HFS := hide hfs
    clear hfs
    go_wp2_with fail
    refine (HFD hn).mono ?_
    rintro e w1 ⟨v, rfl, hv, rfl⟩
    obtain ⟨A, c, rfl, q1, q2, q3⟩ := hv
    simp only [List.length_map, List.getElem_map] at q1 q3 ⊢
    go_wp2_with fail
    go_loopw [7, 8] (fun r i W => ∃ k : Nat, k ≤ fs.length ∧ i = .int .i64 (k : Int) ∧ (∀ x ∈ fs.take k, Em.isB x = true) ∧ Obs W w.heap.size r ((fs.take k).map Em.byteOf) ∧ Keep w W) (fun _ i _ => fs.length - (intOf i).toNat)
    case atStart => exact ⟨0, Nat.zero_le _, rfl, by simp, Ob.nil _ _ _, Keep.rf _⟩
    case round =>
      obtain ⟨k, hk, rfl, hall, row, kw⟩ := hrel
      obtain ⟨rA, rc, rfl⟩ := own_slice row
      have HALL := hide hall
      have HROW := hide row
      clear hall row
      have hkl : ((fs.take k).map Em.byteOf).length = k := by simp; omega
      rw [hkl]
      rw [hkl] at HROW
      by_cases hlt : k < fs.length
      · have hlti : (k : Int) < (fs.length : Int) := by omega
        obtain ⟨ad, rfl, hc⟩ := q3 (by omega)
        have c0 := Keep.cell kw (hc k hlt)
        have hno := textB_no hlt
        have hyes : Em.isB fs[k] = true → ∀ x ∈ fs.take (k + 1), Em.isB x = true := by
          intro hx x hm
          rw [List.take_succ_eq_append_getElem hlt] at hm
          rcases List.mem_append.1 hm with hm | hm
          · exact HALL.out x hm
          · rw [List.mem_singleton.1 hm]; exact hx
        have hsn : (fs.take (k + 1)).map Em.byteOf = (fs.take k).map Em.byteOf ++ [Em.byteOf fs[k]] := by
          rw [List.take_succ_eq_append_getElem hlt, List.map_append]
          rfl
        generalize hy : fs[k] = y at *
        clear hy
        have HNO := hide hno
        have HYES := hide hyes
        have HSN := hide hsn
        have HQ := hide q3
        clear hno hyes hsn hc q3
        generalize (fs.take k).map Em.byteOf = xs at *
        go_wp2_with fail
        refine (refNum y _).mono ?_
        rintro e w2 ⟨rfl, rfl⟩
        go_wp2_with fail
        refine (refIsInt y _).mono ?_
        rintro e w2 ⟨rfl, rfl⟩
        by_cases h1 : y % 2 = 1
        · by_cases h2 : y / 2 < 0
          · have hb : Em.isB y = false := by unfold Em.isB; rw [decide_eq_false (p := 0 ≤ y / 2) (by omega)]; simp
            have h1b : (y % 2 == 1) = true := by simpa using h1
            rw [h1b]
            have HB := hide hb
            clear hb h1 h1b
            go_wp2_with fail
            go_ret2
            exact RetX.of (hX.out.trans (HNO.out HB.out)) ⟨kw, rfl⟩
          · by_cases h3 : y / 2 < 256
            · have hb : Em.isB y = true := by unfold Em.isB; rw [decide_eq_true (by omega), decide_eq_true h3]; simp; exact h1
              have h1b : (y % 2 == 1) = true := by simpa using h1
              rw [h1b]
              have h3n : ¬ (y / 2 > 255) := by omega
              have hby : Value.int .u8 (y / 2) = bv (Em.byteOf y) := by
                unfold Em.byteOf bv
                rw [UInt8.toNat_ofNat', Nat.mod_eq_of_lt (by omega)]
                congr 1
                omega
              have HBY := hide hby
              have HB := hide hb
              clear hb hby h1 h1b
              go_wp2_with (first
                | (at_builtin; go_loud (refine appB (w0 := w) rfl (.tmp 42) (.tmp 45) rfl _ xs rfl (Ob.keep HROW.out (by repeat (first | exact Keep.rf _ | assumption | apply Keep.al | apply Keep.dr | apply Keep.dn))) _ [Em.byteOf y] rfl (Bs.box HBY.out rfl) (Keep.al kw _) (by simp; omega) ?_); intro v5 w5 ho5 hk5 _ _; obtain ⟨A5, c5, e5⟩ := own_slice ho5; subst e5; have HO5 := hide ho5; clear ho5)
                | fail)
              go_roundw
              case rel => exact ⟨k + 1, by omega, by go_num, HYES.out HB.out, by rw [HSN.out]; have := HO5.out; rwa [List.length_append, hkl] at this, hk5⟩
              case measure => simp [intOf]; omega
            · have hb : Em.isB y = false := by unfold Em.isB; rw [decide_eq_false h3]; simp
              have h1b : (y % 2 == 1) = true := by simpa using h1
              rw [h1b]
              have h3n : y / 2 > 255 := by omega
              have HB := hide hb
              clear hb h1 h1b
              go_wp2_with fail
              go_ret2
              exact RetX.of (hX.out.trans (HNO.out HB.out)) ⟨kw, rfl⟩
        · have hb : Em.isB y = false := by
            unfold Em.isB
            rw [show (y % 2 == 1) = false from by simpa using h1]
            rfl
          have h1b : (y % 2 == 1) = false := by simpa using h1
          rw [h1b]
          have HB := hide hb
          clear hb h1 h1b
          go_wp2_with fail
          go_ret2
          exact RetX.of (hX.out.trans (HNO.out HB.out)) ⟨kw, rfl⟩
      · have hlti : ¬ (k : Int) < (fs.length : Int) := by omega
        have hkn : k = fs.length := by omega
        subst hkn
        have hy := HALL.out
        have HY := hide (textB_yes hy)
        rw [List.take_length] at HROW
        have hb : Bs wr (.slice rA fs.length rc) (fs.map Em.byteOf) := HROW.out.bs
        have hcA := run_conv_bs (P := Try.prog) hb 22 5 9 Try.underlying22 Try.underlying5 Try.underlying9
        clear hy hb HALL q3
        go_wp2_with fail
        go_ret2
        exact RetX.of (hX.out.trans HY.out) ⟨kw, rfl⟩
  · have hX := hide (show Em.textH H n = none from if_neg ht)
    go_enter Try.func89, Try.ntmps89
    go_wp2_with fail
    refine (refTag _ h n hn).mono ?_
    rintro e w1 ⟨rfl, rfl⟩
    generalize (Em.blk H n).1 = tg at *
    go_wp2_with fail
    go_ret2
    exact RetX.of hX.out ⟨(by repeat (first | exact Keep.rf _ | assumption | apply Keep.al | apply Keep.dr | apply Keep.dn)), rfl⟩
end Go.Proofs.Ytoehaijmkmdggaa
namespace Go.Proofs.Ytoehaijmkmdggaa
open Go.RowKit Go.Maps
set_option linter.unusedVariables false
set_option linter.unusedSimpArgs false
set_option maxRecDepth 100000
theorem refFields0 {w0 : World} {p sz : Nat} {S : List Nat} {H : Em.Hp} (h : RRep w0 p S sz H) (n : Int) (hn : (Lit.int .i64 n).wf = true) : ∃ v, Is w0 v (Em.blk H n).2 ∧ ∀ w, Keep w0 w → Calls Try.prog 86 #[.pointer (some ⟨p, 0, none⟩), .int .i64 n] w fun e w' => e = .returned v ∧ w = w' := by
  obtain ⟨a, t, f, fv, rfl, h, r⟩ := h
  exact ⟨fldV fv H n, (Cs.of_own (fldV_own h n)).1, fun w k => refFieldsV w (h.frm (k.frm fun _ => False) fun _ _ h => h) r n hn⟩
end Go.Proofs.Ytoehaijmkmdggaa
namespace Go.Proofs.Ytoehaijmkmdggaa
open Go.RowKit Go.Maps
set_option linter.unusedVariables false
set_option linter.unusedSimpArgs false
set_option maxRecDepth 100000
namespace Em
end Em
theorem RRep.smallR {w : World} {p sz : Nat} {S : List Nat} {H : Em.Hp} (h : RRep w p S sz H) : Em.used H ≤ sz ∧ sz ≤ 20000 := by
  obtain ⟨a, t, f, fv, rfl, h, r, h1, h2⟩ := h
  exact ⟨h1, h2⟩
end Go.Proofs.Ytoehaijmkmdggaa
