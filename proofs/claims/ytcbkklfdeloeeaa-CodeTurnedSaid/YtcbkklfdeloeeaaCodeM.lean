/- Walks: the reader of the reference (code): numbers, texts, an instruction. -/
import Derived.Test.YtcbkklfdeloeeaaCodeK
namespace Go.Proofs.Ytcbkklfdeloeeaa
open Go.RowKit
open Em (Prg)
set_option linter.unusedVariables false
set_option maxRecDepth 100000
theorem cnt_none (most : Nat) : cntS most none = none ∧ cntV most none = 0 := ⟨rfl, rfl⟩
theorem cnt_no {most : Nat} {l : List UInt8} (h : Em.getN l = none ∨ most < numV l) : cntS most (some l) = none ∧ cntV most (some l) = 0 := by
  have hp := cnt_parts most l
  rw [if_neg (by rcases h with h | h <;> simp [h])] at hp
  have e : cntS most (some l) = none := hp
  exact ⟨e, by rw [cntV, e]; rfl⟩
theorem cnt_yes {most : Nat} {l : List UInt8} (h : (Em.getN l).isSome = true) (h2 : ¬ most < numV l) : cntS most (some l) = some (numV l, numR l) ∧ cntV most (some l) = numV l := by
  have hp := cnt_parts most l
  rw [if_pos (by simp only [h, h2, decide_false, Bool.not_false, Bool.and_self])] at hp
  have e : cntS most (some l) = some (numV l, numR l) := hp
  exact ⟨e, by rw [cntV, e]; rfl⟩
set_option maxHeartbeats 4000000 in
theorem refNum13 (w0 w : World) (p most : Nat) (st : Option (List UInt8)) (hk : Keep w0 w) (hp0 : w0.heap.size ≤ p) (h : StC 96 w0 w p st) : Calls Try.prog 67 #[.pointer (some ⟨p, 0, none⟩), .int .u64 (most : Int)] w fun e w' =>
    e = .returned (.int .u64 (cntV most st : Int)) ∧ StC 96 w0 w' p ((cntS most st).map fun x => x.2) ∧ Frm (· = p) w w' := by
  obtain ⟨l, ⟨A, c, hs, hb⟩, hl⟩ := h.bits
  have HS := hide hs
  have hG := refGet _ l w (hs.keep hk)
  obtain ⟨n, hT, hn, hR⟩ := getT_of l
  rw [hT] at hG
  have HG := hide hG
  have HR := hide hR
  have HLE := hide (show l.length = n + (l.length - n) from by omega)
  have HDL := hide (show (l.drop n).length = l.length - n from List.length_drop)
  have HL := hide hl
  have HB := hide hb
  have h64 := hide (numV_lt l)
  have hno : ∀ w1, Keep w w1 → (cntS most st = none ∧ cntV most st = 0) → w1.cell? ⟨p, 1, none⟩ = some (.bool st.isSome) ∧ w1.frozen? ⟨p, 1, none⟩ = false ∧
      StC 96 w0 (w1.setCell ⟨p, 1, none⟩ (.bool false)) p ((cntS most st).map fun x => x.2) ∧ Frm (· = p) w (w1.setCell ⟨p, 1, none⟩ (.bool false)) := by
    intro w1 k1 he
    have hb1 := (k1.frm fun _ => False).heap (fun h => h) HB.out
    refine ⟨(top_cells hb1 1).trans rfl, top_free hb1 1, ?_, Frm.st (S := (· = p)) (p := ⟨p, 1, none⟩) (k1.frm _) (.inl rfl) _⟩
    rw [he.1]
    exact StB.no ⟨A, c, HS.out, heap_setT (j := 1) hb1 (.bool false)⟩
  have HNO := hide hno
  clear hs hG hT hR hb hl hno h
  generalize hv : numV l = v at *
  have HV := hide hv
  clear hv
  cases st with
  | none =>
    have HZ := hide (cnt_none most)
    rw [(cnt_none most).2]
    go_enter Try.func67, Try.ntmps67
    have c0 := top_cells HB.out 0
    simp only [List.getElem?_toArray, List.getElem?_cons_succ, List.getElem?_cons_zero] at c0
    go_wp2_with fail
    refine HG.out.mono ?_
    rintro e w1 ⟨rfl, k1⟩
    obtain ⟨e1, e2, e3, e4⟩ := HNO.out w1 k1 HZ.out
    simp only [Option.isSome_none] at e1
    have E3 := hide e3
    have E4 := hide e4
    clear e3 e4
    go_wp2_with fail
    go_ret
    exact ⟨rfl, E3.out, E4.out⟩
  | some l' =>
    obtain rfl := HL.out l' rfl
    by_cases hg : (Em.getN l').isSome = true
    · by_cases hvm : most < v
      · have HZ := hide (cnt_no (most := most) (l := l') (.inr (by rw [HV.out]; exact hvm)))
        rw [HZ.out.2]
        rw [hg] at HG
        have hgt : decide ((v : Int) > (most : Int)) = true := decide_eq_true (by omega)
        clear hg
        go_enter Try.func67, Try.ntmps67
        have c0 := top_cells HB.out 0
        simp only [List.getElem?_toArray, List.getElem?_cons_succ, List.getElem?_cons_zero] at c0
        go_wp2_with fail
        refine HG.out.mono ?_
        rintro e w1 ⟨rfl, k1⟩
        obtain ⟨e1, e2, e3, e4⟩ := HNO.out w1 k1 HZ.out
        simp only [Option.isSome_some] at e1
        have E3 := hide e3
        have E4 := hide e4
        clear e3 e4
        go_wp2_with fail
        go_ret
        exact ⟨rfl, E3.out, E4.out⟩
      · have HZ := hide (cnt_yes (most := most) (l := l') hg (by rw [HV.out]; exact hvm))
        rw [HZ.out.2, HV.out]
        rw [hg] at HG
        have hgt : decide ((v : Int) > (most : Int)) = false := decide_eq_false (by omega)
        clear hg
        go_enter Try.func67, Try.ntmps67
        have c0 := top_cells HB.out 0
        simp only [List.getElem?_toArray, List.getElem?_cons_succ, List.getElem?_cons_zero] at c0
        go_wp2_with fail
        refine HG.out.mono ?_
        rintro e w1 ⟨rfl, k1⟩
        have hb1 := (k1.frm fun _ => False).heap (fun h => h) HB.out
        have d0 := top_cells hb1 0
        have d1 := top_cells hb1 1
        have f0 := top_free hb1 0
        simp only [List.getElem?_toArray, List.getElem?_cons_succ, List.getElem?_cons_zero, Option.isSome_some] at d0 d1
        have HB1 := hide hb1
        have K1 := hide k1
        clear hb1 c0 k1
        go_wp2_with (first
          | (refine slFrom0 rfl (.tmp 38) (.tmp 39) _ _ rfl Try.underlying29 sizeB8 _ _ rfl HS.out _ _ rfl n rfl _ HLE.out ?_; intro A1 c1 hd hd1 hd2)
          | fail)
        go_ret
        refine ⟨rfl, ?_, Frm.st (S := (· = p)) (p := ⟨p, 0, none⟩) (K1.out.frm _) (.inl rfl) _⟩
        rw [HZ.out.1]
        show StC _ w0 _ p (some (numR l'))
        exact ⟨A1, c1, by rw [HR.out, HDL.out]; exact hd, by rw [HR.out, HDL.out]; exact heap_setT (j := 0) HB1.out _⟩
    · rw [Bool.not_eq_true] at hg
      have HZ := hide (cnt_no (most := most) (l := l') (.inl (by cases hh : Em.getN l' with | none => rfl | some y => rw [hh] at hg; cases hg)))
      rw [HZ.out.2]
      rw [hg] at HG
      clear hg
      go_enter Try.func67, Try.ntmps67
      have c0 := top_cells HB.out 0
      simp only [List.getElem?_toArray, List.getElem?_cons_succ, List.getElem?_cons_zero] at c0
      go_wp2_with fail
      refine HG.out.mono ?_
      rintro e w1 ⟨rfl, k1⟩
      obtain ⟨e1, e2, e3, e4⟩ := HNO.out w1 k1 HZ.out
      simp only [Option.isSome_some] at e1
      have E3 := hide e3
      have E4 := hide e4
      clear e3 e4
      go_wp2_with fail
      go_ret
      exact ⟨rfl, E3.out, E4.out⟩
end Go.Proofs.Ytcbkklfdeloeeaa
