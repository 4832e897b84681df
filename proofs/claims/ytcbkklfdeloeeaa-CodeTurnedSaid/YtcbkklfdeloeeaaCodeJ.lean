/- Walks: the reader of package code: counts, so many bytes, an instruction. -/
import Derived.Test.YtcbkklfdeloeeaaCodeG
namespace Go.Proofs.Ytcbkklfdeloeeaa
open Go.RowKit
open Em (Prg)
set_option linter.unusedVariables false
set_option maxRecDepth 100000
set_option maxHeartbeats 2000000 in
theorem codeCnt0 (w0 w : World) (p most : Nat) (l : List UInt8) (b : Bool) (hm : most ≤ 4000) (hk : Keep w0 w) (h : StB 87 w0 w p l b) : Calls Try.prog 63 #[.pointer (some ⟨p, 0, none⟩), .int .i64 (most : Int)] w fun e w' =>
    e = .returned (.int .i64 ((if (b && (Em.getN l).isSome && !decide (most < numV l)) = true then numV l else 0 : Nat) : Int)) ∧ StB 87 w0 w' p (numR l) (b && (Em.getN l).isSome && !decide (most < numV l)) ∧ Frm (· = p) w w' := by
  have HN := hide (codeNum w0 w p l b hk h)
  have hv := numV_lt l
  generalize numV l = v at *
  generalize numR l = r at *
  generalize (b && (Em.getN l).isSome) = ok at *
  have h64 := hide hv
  clear h hv
  by_cases hc : most < v
  · have hg : decide ((v : Int) > (most : Int)) = true := decide_eq_true (by omega)
    have hd : (ok && !decide (most < v)) = false := by simp [hc]
    simp only [hd, Bool.false_eq_true, if_false]
    clear hd
    go_enter Try.func63, Try.ntmps63
    go_wp2_with fail
    refine HN.out.mono ?_
    rintro e w1 ⟨rfl, ⟨A, c, hs, hb⟩, hF⟩
    have c1 := top_cells hb 1
    have f1 := top_free hb 1
    simp only [List.getElem?_toArray, List.getElem?_cons_succ, List.getElem?_cons_zero] at c1
    have hb1 := heap_setT (j := 1) hb (.bool false)
    have HS := hide hs
    have HB1 := hide hb1
    have HF1 := hide (Frm.st (S := (· = p)) (p := ⟨p, 1, none⟩) hF (.inl rfl) (.bool false))
    have d1 := top_cells hb1 1
    simp only [List.getElem?_toArray, List.getElem?_cons_succ, List.getElem?_cons_zero, Array.setIfInBounds, List.set_toArray, List.set_cons_succ, List.set_cons_zero] at d1
    clear hF hs hb hb1
    go_wp2_with fail
    go_ret
    exact ⟨rfl, ⟨A, c, HS.out, HB1.out⟩, HF1.out⟩
  · have hg : decide ((v : Int) > (most : Int)) = false := decide_eq_false (by omega)
    have hd : (ok && !decide (most < v)) = ok := by simp [hc]
    simp only [hd]
    clear hd
    cases ok
    all_goals
      go_enter Try.func63, Try.ntmps63
      go_wp2_with fail
      refine HN.out.mono ?_
      rintro e w1 ⟨rfl, ⟨A, c, hs, hb⟩, hF⟩
      have c1 := top_cells hb 1
      simp only [List.getElem?_toArray, List.getElem?_cons_succ, List.getElem?_cons_zero] at c1
      have HF := hide hF
      have HS := hide hs
      have HB := hide hb
      clear hF hs hb
      go_wp2_with fail
      go_ret
      exact ⟨rfl, ⟨A, c, HS.out, HB.out⟩, HF.out⟩
/-- A number that is none too big, if the reader is well. -/
def cntS (most : Nat) (st : Option (List UInt8)) : Option (Nat × List UInt8) := st.bind (Em.rdC most)
def cntV (most : Nat) (st : Option (List UInt8)) : Nat := ((cntS most st).map fun x => x.1).getD 0
theorem cnt_parts (most : Nat) (l : List UInt8) : Em.rdC most l = if ((Em.getN l).isSome && !decide (most < numV l)) = true then some (numV l, numR l) else none := by
  unfold Em.rdC numV numR
  cases h : Em.getN l with
  | none => rfl
  | some y =>
    obtain ⟨v, n⟩ := y
    by_cases hv : most < v
    · simp [hv]
    · simp [hv]
theorem codeCnt (w0 w : World) (p most : Nat) (st : Option (List UInt8)) (hm : most ≤ 4000) (hk : Keep w0 w) (h : StC 87 w0 w p st) : Calls Try.prog 63 #[.pointer (some ⟨p, 0, none⟩), .int .i64 (most : Int)] w fun e w' =>
    e = .returned (.int .i64 (cntV most st : Int)) ∧ StC 87 w0 w' p ((cntS most st).map fun x => x.2) ∧ Frm (· = p) w w' := by
  obtain ⟨l, hb, hl⟩ := h.bits
  refine (codeCnt0 w0 w p most l _ hm hk hb).mono ?_
  rintro e w' ⟨rfl, hs, hf⟩
  cases st with
  | none =>
    simp only [Option.isSome_none, Bool.false_and, Bool.false_eq_true, if_false] at hs ⊢
    exact ⟨rfl, hs.no, hf⟩
  | some l' =>
    obtain rfl := hl l' rfl
    simp only [Option.isSome_some, Bool.true_and] at hs ⊢
    have hp := cnt_parts most l'
    by_cases hc : ((Em.getN l').isSome && !decide (most < numV l')) = true
    · rw [if_pos hc] at hp
      have e1 : cntS most (some l') = some (numV l', numR l') := hp
      rw [hc] at hs
      refine ⟨by rw [if_pos hc, cntV, e1]; rfl, ?_, hf⟩
      rw [e1]
      exact hs.st
    · rw [if_neg hc] at hp
      have e1 : cntS most (some l') = none := hp
      rw [Bool.not_eq_true] at hc
      rw [hc] at hs
      refine ⟨by rw [if_neg (by rw [hc]; simp), cntV, e1]; rfl, ?_, hf⟩
      rw [e1]
      exact hs.no
section
variable {P : Program}
/-- The first bytes of a slice that lay there long before. -/
theorem slTo0 {w w0 : World} {ops : Array Oper} {rest : List Oper} {o : Oper} {a : Act} {Q : Exit → Act → World → Prop} (hgd : o.guard = none) (x hi : Operand) (t e : Nat) (ho : o.op = .slice t x none (some hi) none)
    (ht : P.underlying t = some (.slice e)) (hs : (P.info? e).map (fun i => i.size) = some 1) (v : Value) (L : List UInt8) (hx : a.eval x = v) (hb : Bs w0 v L) (kk : IntKind) (i : Int) (hhi : a.eval hi = .int kk i) (k : Nat) (hi' : i = (k : Int)) (hk : k ≤ L.length)
    (K : ∀ A' c', Bs w0 (.slice A' k c') (L.take k) → wpList P ops Q rest (a.put o.dst (.slice A' k c')) w) : wpList P ops Q (o :: rest) a w := by
  have hb0 := hb
  obtain ⟨A, c, rfl, g1, g2, g3⟩ := hb
  subst hi'
  refine wpList_sl hgd x none (some hi) t e 1 ho ht hs A L.length c hx 0 k (.inl ⟨rfl, rfl⟩) (.inr ⟨kk, by simp [hhi]⟩) (by omega) (by omega) ?_
  have hb1 := hb0.sub 0 k (by omega) hk
  rw [List.drop_zero, Nat.sub_zero] at hb1
  rw [Nat.sub_zero]
  exact K _ _ hb1
end
/-- So many bytes, if they are there. -/
def takS (n : Nat) (st : Option (List UInt8)) : Option (List UInt8 × List UInt8) := st.bind fun l => if l.length < n then none else some (l.take n, l.drop n)
set_option maxHeartbeats 2000000 in
theorem codeTake (w0 w : World) (p n : Nat) (st : Option (List UInt8)) (hn : n ≤ 4000) (hk : Keep w0 w) (h : StC 87 w0 w p st) : Calls Try.prog 64 #[.pointer (some ⟨p, 0, none⟩), .int .i64 (n : Int)] w fun e w' =>
    (∃ A m c x, e = .returned (.slice A m c) ∧ Bs w0 (.slice A m c) x ∧ x.length ≤ n ∧ ∀ t r, takS n st = some (t, r) → x = t) ∧ StC 87 w0 w' p ((takS n st).map fun x => x.2) ∧ Frm (· = p) w w' := by
  obtain ⟨l, ⟨A, c, hs, hb⟩, hl⟩ := h.bits
  have c0 := top_cells hb 0
  have c1 := top_cells hb 1
  have f0 := top_free hb 0
  have f1 := top_free hb 1
  simp only [List.getElem?_toArray, List.getElem?_cons_succ, List.getElem?_cons_zero] at c0 c1
  have HS := hide hs
  have HB := hide hb
  have HL := hide hl
  have hs0 := hs
  obtain ⟨A', c', e, q1, q2, _⟩ := hs
  injection e with e1 e2 e3
  subst e1 e3
  clear h hb hs0 hl e2
  by_cases hc : l.length < n
  · have hg : decide ((n : Int) > (l.length : Int)) = true := decide_eq_true (by omega)
    have hno : takS n st = none := by
      cases st with
      | none => rfl
      | some x =>
        have := HL.out x rfl
        subst this
        simp [takS, hc]
    have HNO := hide hno
    clear hno
    go_enter Try.func64, Try.ntmps64
    go_wp2_with fail
    go_ret
    refine ⟨⟨_, _, _, [], rfl, Bs.nil _, by simp, fun t r e => by rw [HNO.out] at e; cases e⟩, ?_, Frm.st (S := (· = p)) (p := ⟨p, 1, none⟩) (Frm.rf _ w) (.inl rfl) _⟩
    rw [HNO.out]
    exact StB.no ⟨A, c, HS.out, heap_setT (j := 1) HB.out (.bool false)⟩
  · have hg : decide ((n : Int) > (l.length : Int)) = false := decide_eq_false (by omega)
    have hyes : takS n st = st.bind fun _ => some (l.take n, l.drop n) := by
      cases st with
      | none => rfl
      | some x =>
        have := HL.out x rfl
        subst this
        simp [takS, hc]
    have HY := hide hyes
    have HLE := hide (show l.length = n + (l.length - n) from by omega)
    have HDL := hide (show (l.drop n).length = l.length - n from List.length_drop)
    have hT := HS.out.sub 0 n (by omega) (by omega)
    clear hyes
    go_enter Try.func64, Try.ntmps64
    go_wp2_with (first
      | (refine slTo0 rfl (.tmp 19) (.tmp 20) _ _ rfl Try.underlying29 sizeB8 _ _ rfl HS.out _ _ rfl n rfl (by omega) ?_; intro A2 c2 hd2)
      | (refine slFrom0 rfl (.tmp 26) (.tmp 27) _ _ rfl Try.underlying29 sizeB8 _ _ rfl HS.out _ _ rfl n rfl _ HLE.out ?_; intro A1 c1 hd hd1 hd2)
      | fail)
    go_ret
    have hb' := heap_setT (j := 0) HB.out (.slice A1 (l.length - n) c1)
    have hF : Frm (· = p) w (w.setCell ⟨p, 0, none⟩ (.slice A1 (l.length - n) c1)) := Frm.st (S := (· = p)) (p := ⟨p, 0, none⟩) (Frm.rf _ w) (.inl rfl) _
    have hSt : StB 87 w0 (w.setCell ⟨p, 0, none⟩ (.slice A1 (l.length - n) c1)) p (l.drop n) st.isSome := ⟨A1, c1, by rw [HDL.out]; exact hd, by rw [HDL.out]; exact hb'⟩
    refine ⟨⟨_, _, _, l.take n, rfl, by assumption, by simp; omega, fun t r e => ?_⟩, ?_, hF⟩
    · rw [HY.out] at e
      cases st with
      | none => cases e
      | some x =>
        have e : some (l.take n, l.drop n) = some (t, r) := e
        injection e with e
        injection e with e1 e2
    · rw [HY.out]
      cases st with
      | none => exact hSt.no
      | some x => exact hSt.st
end Go.Proofs.Ytcbkklfdeloeeaa
