/- Walks: pick: a value, given what a block comes to. -/
import Derived.Test.YtoehaijmkmdggaaTPkN
set_option linter.unusedSimpArgs false
set_option linter.unusedVariables false
namespace Go.Proofs.Ytoehaijmkmdggaa
open Go.RowKit Go.Maps
open Em (Ty)
set_option linter.unusedVariables false
set_option linter.unusedSimpArgs false
set_option maxRecDepth 100000
/-- What a value comes to, to a depth. -/
def ValKC (B : Nat) (w0 : World) (p mb : Nat) (hv : Value) (H : Em.Hp) (f : Nat) : Prop := ∀ (Z : Nat → Prop) (w : World) (ov : Value) (tys : List (Ty × List Value)) (s : Em.Pk) (n : Int) (t : Ty) (d : Nat) (cs : List Value), PkM 88 B Z w0 w p mb hv ov tys s → TyI (fun k => k < w0.heap.size ∨ Z k) d w cs t → Em.okS t = true → (Lit.int .i64 n).wf = true → s.b.length + 40040 * (2000 - s.ws.length) ≤ 100000000 → 2000 - s.ws.length < f →
  Calls Try.prog 45 #[.pointer (some ⟨p, 0, none⟩), .int .i64 n, .agg cs.toArray] w (ValKA 88 B Z w0 w p mb hv ov (Em.valK H f n t s))
def BlkKC (B : Nat) (w0 : World) (p mb : Nat) (hv : Value) (H : Em.Hp) (f : Nat) : Prop := ∀ (Z : Nat → Prop) (w : World) (ov : Value) (tys : List (Ty × List Value)) (s : Em.Pk) (n : Int) (t : Ty) (d : Nat) (cs : List Value), PkM 88 B Z w0 w p mb hv ov tys s → TyI (fun k => k < w0.heap.size ∨ Z k) d w cs t → Em.okS t = true → ¬ Em.isPl t.op → Em.posK s.ws n = none → (Lit.int .i64 n).wf = true → s.b.length + 40040 * (2000 - s.ws.length) ≤ 100000000 → 2000 - s.ws.length < f + 1 →
  Calls Try.prog 78 #[.pointer (some ⟨p, 0, none⟩), .int .i64 n, .agg cs.toArray, .int .u64 (Em.firstOf t.op : Int)] w (ValKA 88 B Z w0 w p mb hv ov (Em.blkK (Em.valK H f) H n t (Em.firstOf t.op) s))
theorem ValKA.code {tt B : Nat} {Z : Nat → Prop} {w0 w w' : World} {p mb : Nat} {hv ov : Value} {o : Em.PkO} {e : Ending} (h : ValKA tt B Z w0 w p mb hv ov o e w') : ∃ c, e = .returned (.int .i64 c) := by
  cases o with
  | ok s => exact ⟨_, h.1⟩
  | err c => exact ⟨_, h.1⟩
theorem ValKA.pre {tt B : Nat} {Z Z1 : Nat → Prop} {w0 w w1 w' : World} {p mb : Nat} {hv ov ov1 : Value} {o : Em.PkO} {e : Ending} (h1 : PWent Z Z1 w w1 p mb ov ov1) (h : ValKA tt B Z1 w0 w1 p mb hv ov1 o e w') : ValKA tt B Z w0 w p mb hv ov o e w' := by
  cases o with
  | ok s =>
    obtain ⟨g1, Z', ov', tys', g2, g3⟩ := h
    exact ⟨g1, Z', ov', tys', g2, h1.tr g3⟩
  | err c => exact h
theorem plain_noK {o : List UInt8} (h : ¬ Em.isPl o) : ¬ o = [105, 110, 116] ∧ ¬ o = [98, 111, 111, 108] ∧ ¬ o = [117, 110, 105, 116] := by
  simp only [Em.isPl, not_or] at h
  exact h
theorem intW_0 : intW 0 = 1 := by decide
theorem zeroCame (w : World) : (zeroValue 138).run Try.prog w = .ok (.agg #[.int .i64 0, .string ByteArray.empty, .int .i64 0, .slice none 0 0]) w := by kernel_rfl
section
variable {B f : Nat} {Z : Nat → Prop} {w0 w : World} {p mb : Nat} {hv ov : Value} {tys : List (Ty × List Value)} {s : Em.Pk} {H : Em.Hp}
set_option maxHeartbeats 8000000 in
theorem pkVal_plain (n : Int) (t : Ty) (d : Nat) (cs : List Value) (h : PkM 88 B Z w0 w p mb hv ov tys s) (ht : TyI (fun k => k < w0.heap.size ∨ Z k) d w cs t) (hok : Em.okS t = true) (hn : (Lit.int .i64 n).wf = true) (hl : s.b.length + 40040 * (2000 - s.ws.length) ≤ 100000000) (hp : Em.isPl t.op) :
    Calls Try.prog 45 #[.pointer (some ⟨p, 0, none⟩), .int .i64 n, .agg cs.toArray] w (ValKA 88 B Z w0 w p mb hv ov (Em.numK (Em.manyOf t.op) n s)) := by
  cases d with
  | zero => exact ht.elim
  | succ d =>
    obtain ⟨tv, e0, hn0, hs0, hin0⟩ := id ht
    subst e0
    obtain ⟨A, c, e1, _⟩ := id hs0
    subst e1
    have HT0 := hide ht
    obtain ⟨o, m, ks⟩ := t
    simp only [Em.Ty.op, Em.Ty.n, Em.Ty.kids] at *
    have ka : Keep w (w.alloc (.cells #[.string (str o), .int .i64 m, .slice A ks.length c] 25)) := (by repeat (first | exact Keep.rf _ | assumption | apply Keep.al | apply Keep.dr | apply Keep.dn))
    have HS1 := hide (show (w.alloc (.cells #[.string (str o), .int .i64 m, .slice A ks.length c] 25)).heap.size = w.heap.size + 1 from by simp)
    have hB := heap_alloc_new w (.cells #[.string (str o), .int .i64 m, .slice A ks.length c] 25)
    have b0 := top_cells hB 0
    have b1 := top_cells hB 1
    have b2 := top_cells hB 2
    simp only [List.getElem?_toArray, List.getElem?_cons_succ, List.getElem?_cons_zero] at b0 b1 b2
    have HM1 := hide (h.keep ka)
    have HT1 := hide (HT0.out.keep ka)
    have KA := hide ka
    have hO := opB o
    have hl5 : s.b.length ≤ 500000000 := by omega
    have hlim := h.lim
    clear h ht ka hB hs0 hin0 hn0
    have HI := hide (fun many hm => pkNumber HM1.out n hn many hm hl5)
    rcases hp with rfl | rfl | rfl
    all_goals
      (try unfold Em.wInt at *)
      (try unfold Em.wBool at *)
      (try unfold Em.wUnit at *)
      go_enter Try.func45, Try.ntmps45
      go_wp2_with fail
      generalize World.alloc w _ = w1 at *
      refine (HI.out _ (by first | exact .inl rfl | exact .inr (.inl rfl) | exact .inr (.inr rfl))).mono ?_
      intro e w2 hA
      obtain ⟨cc, rfl⟩ := hA.code
      have HA := hide hA
      clear hA b0 b1 b2
      go_wp2_with fail
      go_ret
      exact HA.out.pre (PWent.of_keep KA.out)
set_option maxHeartbeats 8000000 in
theorem pkVal_nil (n : Int) (t : Ty) (d : Nat) (cs : List Value) (h : PkM 88 B Z w0 w p mb hv ov tys s) (ht : TyI (fun k => k < w0.heap.size ∨ Z k) d w cs t) (hok : Em.okS t = true) (hn : (Lit.int .i64 n).wf = true) (hl : s.b.length + 40040 * (2000 - s.ws.length) ≤ 100000000) (hop : t.op = Em.wList) (h1 : n = 1) :
    Calls Try.prog 45 #[.pointer (some ⟨p, 0, none⟩), .int .i64 n, .agg cs.toArray] w (ValKA 88 B Z w0 w p mb hv ov (.ok (s.put 0))) := by
  cases d with
  | zero => exact ht.elim
  | succ d =>
    obtain ⟨tv, e0, hn0, hs0, hin0⟩ := id ht
    subst e0
    obtain ⟨A, c, e1, _⟩ := id hs0
    subst e1
    have HT0 := hide ht
    obtain ⟨o, m, ks⟩ := t
    simp only [Em.Ty.op, Em.Ty.n, Em.Ty.kids] at *
    obtain rfl : o = [108, 105, 115, 116] := hop
    have ka : Keep w (w.alloc (.cells #[.string (str [108, 105, 115, 116]), .int .i64 m, .slice A ks.length c] 25)) := (by repeat (first | exact Keep.rf _ | assumption | apply Keep.al | apply Keep.dr | apply Keep.dn))
    have HS1 := hide (show (w.alloc (.cells #[.string (str [108, 105, 115, 116]), .int .i64 m, .slice A ks.length c] 25)).heap.size = w.heap.size + 1 from by simp)
    have hB := heap_alloc_new w (.cells #[.string (str [108, 105, 115, 116]), .int .i64 m, .slice A ks.length c] 25)
    have b0 := top_cells hB 0
    have b1 := top_cells hB 1
    have b2 := top_cells hB 2
    simp only [List.getElem?_toArray, List.getElem?_cons_succ, List.getElem?_cons_zero] at b0 b1 b2
    have HM1 := hide (h.keep ka)
    have HT1 := hide (HT0.out.keep ka)
    have KA := hide ka
    have hO := opB [108, 105, 115, 116]
    have hl5 : s.b.length ≤ 500000000 := by omega
    have hlim := h.lim
    clear h ht ka hB hs0 hin0 hn0
    have HP := hide (pkPuts HM1.out 0 (by omega) hl5)
    subst h1
    go_enter Try.func45, Try.ntmps45
    go_wp2_with fail
    generalize World.alloc w _ = w1 at *
    refine (heapInt 0 w1).mono ?_
    rintro e w' ⟨rfl, rfl⟩
    rw [intW_0]
    go_wp2_with fail
    refine HP.out.mono ?_
    rintro e w2 ⟨rfl, ov', h1, h2⟩
    have H1 := hide h1
    have H2 := hide h2
    clear h1 h2 b0 b1 b2
    go_wp2_with fail
    go_ret
    exact ⟨rfl, Z, ov', tys, H1.out, (PWent.of_keep KA.out).tr H2.out⟩
set_option maxHeartbeats 8000000 in
theorem pkVal_seenL (n : Int) (t : Ty) (d : Nat) (cs : List Value) (h : PkM 88 B Z w0 w p mb hv ov tys s) (ht : TyI (fun k => k < w0.heap.size ∨ Z k) d w cs t) (hok : Em.okS t = true) (hn : (Lit.int .i64 n).wf = true) (hl : s.b.length + 40040 * (2000 - s.ws.length) ≤ 100000000) (hop : t.op = Em.wList) (h1 : ¬ n = 1) (i : Nat) (hi : Em.posK s.ws n = some i) (t' : Ty) (ht' : s.ty[i]? = some t') (ro : Em.PkO) (hro : Hid (ro = if Em.eqT t' t = true then .ok (s.put (i + 1 + 1)) else .err 1)) :
    Calls Try.prog 45 #[.pointer (some ⟨p, 0, none⟩), .int .i64 n, .agg cs.toArray] w (ValKA 88 B Z w0 w p mb hv ov (ro)) := by
  cases d with
  | zero => exact ht.elim
  | succ d =>
    obtain ⟨tv, e0, hn0, hs0, hin0⟩ := id ht
    subst e0
    obtain ⟨A, c, e1, _⟩ := id hs0
    subst e1
    have HT0 := hide ht
    obtain ⟨o, m, ks⟩ := t
    simp only [Em.Ty.op, Em.Ty.n, Em.Ty.kids] at *
    obtain rfl : o = [108, 105, 115, 116] := hop
    have ka : Keep w (w.alloc (.cells #[.string (str [108, 105, 115, 116]), .int .i64 m, .slice A ks.length c] 25)) := (by repeat (first | exact Keep.rf _ | assumption | apply Keep.al | apply Keep.dr | apply Keep.dn))
    have HS1 := hide (show (w.alloc (.cells #[.string (str [108, 105, 115, 116]), .int .i64 m, .slice A ks.length c] 25)).heap.size = w.heap.size + 1 from by simp)
    have hB := heap_alloc_new w (.cells #[.string (str [108, 105, 115, 116]), .int .i64 m, .slice A ks.length c] 25)
    have b0 := top_cells hB 0
    have b1 := top_cells hB 1
    have b2 := top_cells hB 2
    simp only [List.getElem?_toArray, List.getElem?_cons_succ, List.getElem?_cons_zero] at b0 b1 b2
    have HM1 := hide (h.keep ka)
    have HT1 := hide (HT0.out.keep ka)
    have KA := hide ka
    have hO := opB [108, 105, 115, 116]
    have hl5 : s.b.length ≤ 500000000 := by omega
    have hlim := h.lim
    clear h ht ka hB hs0 hin0 hn0
    obtain ⟨t9, d9, o9, m9, A9, k9, c9, hil, ht9, hsv, hty9⟩ := HM1.out.at_ hi
    rw [ht'] at ht9
    injection ht9 with ht9
    subst ht9
    have hlk := (HM1.out.map.f).look_ok (P := Try.prog) Try.underlying86 Try.underlying36 (zeroCame _) n hn
    rw [hsv] at hlk
    have HTY := hide hty9.ty
    have HTT := hide HT1.out.ty
    have HPU := hide (fun W (k : Keep _ W) => pkPuts (HM1.out.keep k) (i + 1 + 1) (by omega) hl5)
    have hq : ((i + 1 + 1 : Nat) : Int) = (i : Int) + 1 + 1 := by omega
    have hil2 : (i : Int) < 2000 := by omega
    have c2 := top_cells HM1.out.top 2
    simp only [List.getElem?_toArray, List.getElem?_cons_succ, List.getElem?_cons_zero, Option.getD_some, Option.isSome_some] at c2 hlk
    have h1b : (n == 1) = false := by simpa using h1
    clear hsv hty9
    go_enter Try.func45, Try.ntmps45
    go_wp2_with fail
    generalize World.alloc w _ = w1 at *
    refine (heapInt 0 w1).mono ?_
    rintro e w' ⟨rfl, rfl⟩
    rw [intW_0]
    have b0' := Keep.cell (Keep.al (Keep.rf w1) (.cells #[.int .i64 (i : Int), .string (str o9), .int .i64 m9, .slice A9 k9 c9] 138)) b0
    have b1' := Keep.cell (Keep.al (Keep.rf w1) (.cells #[.int .i64 (i : Int), .string (str o9), .int .i64 m9, .slice A9 k9 c9] 138)) b1
    have b2' := Keep.cell (Keep.al (Keep.rf w1) (.cells #[.int .i64 (i : Int), .string (str o9), .int .i64 m9, .slice A9 k9 c9] 138)) b2
    have k2 : Keep w1 (w1.alloc (.cells #[.int .i64 (i : Int), .string (str o9), .int .i64 m9, .slice A9 k9 c9] 138)) := (by repeat (first | exact Keep.rf _ | assumption | apply Keep.al | apply Keep.dr | apply Keep.dn))
    have hx := heap_alloc_new w1 (.cells #[.int .i64 (i : Int), .string (str o9), .int .i64 m9, .slice A9 k9 c9] 138)
    have HX := hide hx
    have K2 := hide k2
    have HSM := hide (typSame _ _ _ _ _ ⟨_, _, rfl, HTY.out.keep k2⟩ ⟨_, _, rfl, HTT.out.keep k2⟩)
    clear hx k2 b0 b1 b2
    go_wp2_with fail
    generalize World.alloc w1 _ = w2 at *
    refine HSM.out.mono ?_
    rintro e w3 ⟨rfl, k3⟩
    have hX3 := (k3.frm fun _ => False).heap (fun h => h) HX.out
    have x0 := top_cells hX3 0
    simp only [List.getElem?_toArray, List.getElem?_cons_succ, List.getElem?_cons_zero] at x0
    have K3 := hide (Keep.tr K2.out k3)
    clear hX3 k3 b0' b1' b2' c2 HSM
    cases heq : Em.eqT _ _ with
    | false =>
      go_wp2_with fail
      go_ret
      rw [hro.out, if_neg (by rw [heq]; decide)]
      exact ⟨rfl, .inl rfl, (HM1.out.keep K3.out).k0⟩
    | true =>
      have HPP := hide (HPU.out _ K3.out)
      rw [hq] at HPP
      go_wp2_with fail
      refine HPP.out.mono ?_
      rintro e w4 ⟨rfl, ov', h1, h2⟩
      have H1 := hide h1
      have H2 := hide h2
      clear h1 h2 x0 HPP
      go_wp2_with fail
      go_ret
      rw [hro.out, if_pos heq]
      exact ⟨rfl, Z, ov', tys, H1.out, (PWent.of_keep (Keep.tr KA.out K3.out)).tr H2.out⟩
set_option maxHeartbeats 8000000 in
theorem pkVal_seenN (n : Int) (t : Ty) (d : Nat) (cs : List Value) (h : PkM 88 B Z w0 w p mb hv ov tys s) (ht : TyI (fun k => k < w0.heap.size ∨ Z k) d w cs t) (hok : Em.okS t = true) (hn : (Lit.int .i64 n).wf = true) (hl : s.b.length + 40040 * (2000 - s.ws.length) ≤ 100000000) (hop : ¬ t.op = Em.wList) (hp : ¬ Em.isPl t.op) (i : Nat) (hi : Em.posK s.ws n = some i) (t' : Ty) (ht' : s.ty[i]? = some t') (ro : Em.PkO) (hro : Hid (ro = if Em.eqT t' t = true then .ok (s.put (i + 0 + 1)) else .err 1)) :
    Calls Try.prog 45 #[.pointer (some ⟨p, 0, none⟩), .int .i64 n, .agg cs.toArray] w (ValKA 88 B Z w0 w p mb hv ov (ro)) := by
  cases d with
  | zero => exact ht.elim
  | succ d =>
    obtain ⟨tv, e0, hn0, hs0, hin0⟩ := id ht
    subst e0
    obtain ⟨A, c, e1, _⟩ := id hs0
    subst e1
    have HT0 := hide ht
    obtain ⟨o, m, ks⟩ := t
    simp only [Em.Ty.op, Em.Ty.n, Em.Ty.kids] at *
    have hnl : ¬ o = [108, 105, 115, 116] := hop
    obtain ⟨n1, n2, n3⟩ := plain_noK hp
    have ka : Keep w (w.alloc (.cells #[.string (str o), .int .i64 m, .slice A ks.length c] 25)) := (by repeat (first | exact Keep.rf _ | assumption | apply Keep.al | apply Keep.dr | apply Keep.dn))
    have HS1 := hide (show (w.alloc (.cells #[.string (str o), .int .i64 m, .slice A ks.length c] 25)).heap.size = w.heap.size + 1 from by simp)
    have hB := heap_alloc_new w (.cells #[.string (str o), .int .i64 m, .slice A ks.length c] 25)
    have b0 := top_cells hB 0
    have b1 := top_cells hB 1
    have b2 := top_cells hB 2
    simp only [List.getElem?_toArray, List.getElem?_cons_succ, List.getElem?_cons_zero] at b0 b1 b2
    have HM1 := hide (h.keep ka)
    have HT1 := hide (HT0.out.keep ka)
    have KA := hide ka
    have hO := opB o
    have hl5 : s.b.length ≤ 500000000 := by omega
    have hlim := h.lim
    clear h ht ka hB hs0 hin0 hn0
    obtain ⟨t9, d9, o9, m9, A9, k9, c9, hil, ht9, hsv, hty9⟩ := HM1.out.at_ hi
    rw [ht'] at ht9
    injection ht9 with ht9
    subst ht9
    have hlk := (HM1.out.map.f).look_ok (P := Try.prog) Try.underlying86 Try.underlying36 (zeroCame _) n hn
    rw [hsv] at hlk
    have HTY := hide hty9.ty
    have HTT := hide HT1.out.ty
    have HPU := hide (fun W (k : Keep _ W) => pkPuts (HM1.out.keep k) (i + 1) (by omega) hl5)
    have hq : ((i + 1 : Nat) : Int) = (i : Int) + 1 := by omega
    have hil2 : (i : Int) < 2000 := by omega
    have c2 := top_cells HM1.out.top 2
    simp only [List.getElem?_toArray, List.getElem?_cons_succ, List.getElem?_cons_zero, Option.getD_some, Option.isSome_some] at c2 hlk
    clear hsv hty9
    go_enter Try.func45, Try.ntmps45
    go_wp2_with fail
    generalize World.alloc w _ = w1 at *
    have b0' := Keep.cell (Keep.al (Keep.rf w1) (.cells #[.int .i64 (i : Int), .string (str o9), .int .i64 m9, .slice A9 k9 c9] 138)) b0
    have b1' := Keep.cell (Keep.al (Keep.rf w1) (.cells #[.int .i64 (i : Int), .string (str o9), .int .i64 m9, .slice A9 k9 c9] 138)) b1
    have b2' := Keep.cell (Keep.al (Keep.rf w1) (.cells #[.int .i64 (i : Int), .string (str o9), .int .i64 m9, .slice A9 k9 c9] 138)) b2
    have k2 : Keep w1 (w1.alloc (.cells #[.int .i64 (i : Int), .string (str o9), .int .i64 m9, .slice A9 k9 c9] 138)) := (by repeat (first | exact Keep.rf _ | assumption | apply Keep.al | apply Keep.dr | apply Keep.dn))
    have hx := heap_alloc_new w1 (.cells #[.int .i64 (i : Int), .string (str o9), .int .i64 m9, .slice A9 k9 c9] 138)
    have HX := hide hx
    have K2 := hide k2
    have HSM := hide (typSame _ _ _ _ _ ⟨_, _, rfl, HTY.out.keep k2⟩ ⟨_, _, rfl, HTT.out.keep k2⟩)
    clear hx k2 b0 b1 b2
    clear hlk
    go_wp2_with fail
    generalize World.alloc w1 _ = w2 at *
    refine HSM.out.mono ?_
    rintro e w3 ⟨rfl, k3⟩
    have hX3 := (k3.frm fun _ => False).heap (fun h => h) HX.out
    have x0 := top_cells hX3 0
    simp only [List.getElem?_toArray, List.getElem?_cons_succ, List.getElem?_cons_zero] at x0
    rw [HS1.out] at x0
    have K3 := hide (Keep.tr K2.out k3)
    clear hX3 k3 b0' b1' b2' c2 HSM
    cases heq : Em.eqT _ _ with
    | false =>
      go_wp2_with fail
      go_ret
      rw [hro.out, if_neg (by rw [heq]; decide)]
      exact ⟨rfl, .inl rfl, (HM1.out.keep K3.out).k0⟩
    | true =>
      have HPP := hide (HPU.out _ K3.out)
      rw [hq] at HPP
      go_wp2_with fail
      refine HPP.out.mono ?_
      rintro e w4 ⟨rfl, ov', h1, h2⟩
      have H1 := hide h1
      have H2 := hide h2
      clear h1 h2 x0 HPP
      go_wp2_with fail
      go_ret
      rw [hro.out, if_pos heq]
      exact ⟨rfl, Z, ov', tys, H1.out, (PWent.of_keep (Keep.tr KA.out K3.out)).tr H2.out⟩
set_option maxHeartbeats 8000000 in
theorem pkVal_newL (n : Int) (t : Ty) (d : Nat) (cs : List Value) (h : PkM 88 B Z w0 w p mb hv ov tys s) (ht : TyI (fun k => k < w0.heap.size ∨ Z k) d w cs t) (hok : Em.okS t = true) (hn : (Lit.int .i64 n).wf = true) (hl : s.b.length + 40040 * (2000 - s.ws.length) ≤ 100000000) (hop : t.op = Em.wList) (h1 : ¬ n = 1) (hp : ¬ Em.isPl t.op) (hi : Em.posK s.ws n = none) (hf : 2000 - s.ws.length < f + 1) (hblk : BlkKC B w0 p mb hv H f) :
    Calls Try.prog 45 #[.pointer (some ⟨p, 0, none⟩), .int .i64 n, .agg cs.toArray] w (ValKA 88 B Z w0 w p mb hv ov (Em.blkK (Em.valK H f) H n t 1 s)) := by
  cases d with
  | zero => exact ht.elim
  | succ d =>
    obtain ⟨tv, e0, hn0, hs0, hin0⟩ := id ht
    subst e0
    obtain ⟨A, c, e1, _⟩ := id hs0
    subst e1
    have HT0 := hide ht
    obtain ⟨o, m, ks⟩ := t
    simp only [Em.Ty.op, Em.Ty.n, Em.Ty.kids] at *
    obtain rfl : o = [108, 105, 115, 116] := hop
    have ka : Keep w (w.alloc (.cells #[.string (str [108, 105, 115, 116]), .int .i64 m, .slice A ks.length c] 25)) := (by repeat (first | exact Keep.rf _ | assumption | apply Keep.al | apply Keep.dr | apply Keep.dn))
    have HS1 := hide (show (w.alloc (.cells #[.string (str [108, 105, 115, 116]), .int .i64 m, .slice A ks.length c] 25)).heap.size = w.heap.size + 1 from by simp)
    have hB := heap_alloc_new w (.cells #[.string (str [108, 105, 115, 116]), .int .i64 m, .slice A ks.length c] 25)
    have b0 := top_cells hB 0
    have b1 := top_cells hB 1
    have b2 := top_cells hB 2
    simp only [List.getElem?_toArray, List.getElem?_cons_succ, List.getElem?_cons_zero] at b0 b1 b2
    have HM1 := hide (h.keep ka)
    have HT1 := hide (HT0.out.keep ka)
    have KA := hide ka
    have hO := opB [108, 105, 115, 116]
    have hl5 : s.b.length ≤ 500000000 := by omega
    have hlim := h.lim
    clear h ht ka hB hs0 hin0 hn0
    have hsv : seenV s.ws tys n = none := by unfold seenV; rw [hi]; rfl
    have hlk := (HM1.out.map.f).look_ok (P := Try.prog) Try.underlying86 Try.underlying36 (zeroCame _) n hn
    rw [hsv] at hlk
    have HPU := hide (fun W (k : Keep _ W) => hblk _ _ _ _ _ n _ _ _ (HM1.out.keep k) (HT1.out.keep k) hok hp hi hn hl hf)
    have hff : (Em.firstOf [108, 105, 115, 116]) = 1 := rfl
    have c2 := top_cells HM1.out.top 2
    simp only [List.getElem?_toArray, List.getElem?_cons_succ, List.getElem?_cons_zero, Option.getD_none, Option.isSome_none] at c2 hlk
    have h1b : (n == 1) = false := by simpa using h1
    clear hsv hblk
    go_enter Try.func45, Try.ntmps45
    go_wp2_with fail
    generalize World.alloc w _ = w1 at *
    refine (heapInt 0 w1).mono ?_
    rintro e w' ⟨rfl, rfl⟩
    rw [intW_0]
    have k2 : Keep w1 (w1.alloc (.cells #[.int .i64 0, .string ByteArray.empty, .int .i64 0, .slice none 0 0] 138)) := (by repeat (first | exact Keep.rf _ | assumption | apply Keep.al | apply Keep.dr | apply Keep.dn))
    have b0' := Keep.cell k2 b0
    have b1' := Keep.cell k2 b1
    have b2' := Keep.cell k2 b2
    have HPP := hide (HPU.out _ k2)
    have K2 := hide k2
    simp only [Em.Ty.op] at HPP
    rw [hff] at HPP
    clear k2 HPU b0 b1 b2
    go_wp2_with fail
    generalize World.alloc w1 _ = w2 at *
    refine HPP.out.mono ?_
    intro e w3 hA
    obtain ⟨cc, rfl⟩ := hA.code
    have HA := hide hA
    clear hA b0' b1' b2' c2 hlk
    go_wp2_with fail
    go_ret
    exact HA.out.pre (PWent.of_keep (Keep.tr KA.out K2.out))
set_option maxHeartbeats 8000000 in
theorem pkVal_newN (n : Int) (t : Ty) (d : Nat) (cs : List Value) (h : PkM 88 B Z w0 w p mb hv ov tys s) (ht : TyI (fun k => k < w0.heap.size ∨ Z k) d w cs t) (hok : Em.okS t = true) (hn : (Lit.int .i64 n).wf = true) (hl : s.b.length + 40040 * (2000 - s.ws.length) ≤ 100000000) (hop : ¬ t.op = Em.wList) (hp : ¬ Em.isPl t.op) (hi : Em.posK s.ws n = none) (hf : 2000 - s.ws.length < f + 1) (hblk : BlkKC B w0 p mb hv H f) :
    Calls Try.prog 45 #[.pointer (some ⟨p, 0, none⟩), .int .i64 n, .agg cs.toArray] w (ValKA 88 B Z w0 w p mb hv ov (Em.blkK (Em.valK H f) H n t 0 s)) := by
  cases d with
  | zero => exact ht.elim
  | succ d =>
    obtain ⟨tv, e0, hn0, hs0, hin0⟩ := id ht
    subst e0
    obtain ⟨A, c, e1, _⟩ := id hs0
    subst e1
    have HT0 := hide ht
    obtain ⟨o, m, ks⟩ := t
    simp only [Em.Ty.op, Em.Ty.n, Em.Ty.kids] at *
    have hnl : ¬ o = [108, 105, 115, 116] := hop
    obtain ⟨n1, n2, n3⟩ := plain_noK hp
    have ka : Keep w (w.alloc (.cells #[.string (str o), .int .i64 m, .slice A ks.length c] 25)) := (by repeat (first | exact Keep.rf _ | assumption | apply Keep.al | apply Keep.dr | apply Keep.dn))
    have HS1 := hide (show (w.alloc (.cells #[.string (str o), .int .i64 m, .slice A ks.length c] 25)).heap.size = w.heap.size + 1 from by simp)
    have hB := heap_alloc_new w (.cells #[.string (str o), .int .i64 m, .slice A ks.length c] 25)
    have b0 := top_cells hB 0
    have b1 := top_cells hB 1
    have b2 := top_cells hB 2
    simp only [List.getElem?_toArray, List.getElem?_cons_succ, List.getElem?_cons_zero] at b0 b1 b2
    have HM1 := hide (h.keep ka)
    have HT1 := hide (HT0.out.keep ka)
    have KA := hide ka
    have hO := opB o
    have hl5 : s.b.length ≤ 500000000 := by omega
    have hlim := h.lim
    clear h ht ka hB hs0 hin0 hn0
    have hsv : seenV s.ws tys n = none := by unfold seenV; rw [hi]; rfl
    have hlk := (HM1.out.map.f).look_ok (P := Try.prog) Try.underlying86 Try.underlying36 (zeroCame _) n hn
    rw [hsv] at hlk
    have HPU := hide (fun W (k : Keep _ W) => hblk _ _ _ _ _ n _ _ _ (HM1.out.keep k) (HT1.out.keep k) hok hp hi hn hl hf)
    have hff : (Em.firstOf o) = 0 := if_neg hop
    have c2 := top_cells HM1.out.top 2
    simp only [List.getElem?_toArray, List.getElem?_cons_succ, List.getElem?_cons_zero, Option.getD_none, Option.isSome_none] at c2 hlk
    clear hsv hblk
    go_enter Try.func45, Try.ntmps45
    go_wp2_with fail
    generalize World.alloc w _ = w1 at *
    have k2 : Keep w1 (w1.alloc (.cells #[.int .i64 0, .string ByteArray.empty, .int .i64 0, .slice none 0 0] 138)) := (by repeat (first | exact Keep.rf _ | assumption | apply Keep.al | apply Keep.dr | apply Keep.dn))
    have b0' := Keep.cell k2 b0
    have b1' := Keep.cell k2 b1
    have b2' := Keep.cell k2 b2
    have HPP := hide (HPU.out _ k2)
    have K2 := hide k2
    simp only [Em.Ty.op] at HPP
    rw [hff] at HPP
    clear k2 HPU b0 b1 b2
    go_wp2_with fail
    generalize World.alloc w1 _ = w2 at *
    refine HPP.out.mono ?_
    intro e w3 hA
    obtain ⟨cc, rfl⟩ := hA.code
    have HA := hide hA
    clear hA b0' b1' b2' c2 hlk
    go_wp2_with fail
    go_ret
    exact HA.out.pre (PWent.of_keep (Keep.tr KA.out K2.out))
theorem pkVal_step (hblk : BlkKC B w0 p mb hv H f) : ValKC B w0 p mb hv H (f + 1) := by
  intro Z w ov tys s n t d cs h ht hok hn hl hf
  by_cases hp : Em.isPl t.op
  · rw [show Em.valK H (f + 1) n t s = Em.numK (Em.manyOf t.op) n s by rw [Em.valK, if_pos hp]]
    exact pkVal_plain n t d cs h ht hok hn hl hp
  by_cases hop : t.op = Em.wList
  · by_cases h1 : n = 1
    · rw [show Em.valK H (f + 1) n t s = .ok (s.put 0) by rw [Em.valK, if_neg hp, if_pos ⟨hop, h1⟩]]
      exact pkVal_nil n t d cs h ht hok hn hl hop h1
    · have h0 : Em.firstOf t.op = 1 := if_pos hop
      cases hi : Em.posK s.ws n with
      | none =>
        rw [show Em.valK H (f + 1) n t s = Em.blkK (Em.valK H f) H n t 1 s by rw [Em.valK, if_neg hp, if_neg (fun h => h1 h.2), hi, h0]]
        exact pkVal_newL n t d cs h ht hok hn hl hop h1 hp hi hf hblk
      | some i =>
        obtain ⟨t', _, _, _, _, _, _, _, ht', _⟩ := h.at_ hi
        rw [show Em.valK H (f + 1) n t s = if Em.eqT t' t = true then .ok (s.put (i + 1 + 1)) else .err 1 by rw [Em.valK, if_neg hp, if_neg (fun h => h1 h.2), hi, h0]; simp only [ht']]
        exact pkVal_seenL n t d cs h ht hok hn hl hop h1 i hi t' ht' _ (hide rfl)
  · have h0 : Em.firstOf t.op = 0 := if_neg hop
    cases hi : Em.posK s.ws n with
    | none =>
      rw [show Em.valK H (f + 1) n t s = Em.blkK (Em.valK H f) H n t 0 s by rw [Em.valK, if_neg hp, if_neg (fun h => hop h.1), hi, h0]]
      exact pkVal_newN n t d cs h ht hok hn hl hop hp hi hf hblk
    | some i =>
      obtain ⟨t', _, _, _, _, _, _, _, ht', _⟩ := h.at_ hi
      rw [show Em.valK H (f + 1) n t s = if Em.eqT t' t = true then .ok (s.put (i + 0 + 1)) else .err 1 by rw [Em.valK, if_neg hp, if_neg (fun h => hop h.1), hi, h0]; simp only [ht']]
      exact pkVal_seenN n t d cs h ht hok hn hl hop hp i hi t' ht' _ (hide rfl)
end
end Go.Proofs.Ytoehaijmkmdggaa
