/- Walk: the type that comes next, of the reference (mark), whole. -/
import Derived.Test.YtcbkklfdeloeeaaMarkZ
namespace Go.Proofs.Ytcbkklfdeloeeaa
open Go.RowKit
open Em (Ty)
set_option linter.unusedVariables false
set_option linter.unusedSimpArgs false
set_option maxRecDepth 100000
theorem opAt_kids : ∀ x : Nat, 1 ≤ x → x < 11 → Em.kidsOf (Em.opAt x) = (Em.kidN (Em.opAt x) : Int) := by
  intro x h1 h2
  rcases x with _ | _ | _ | _ | _ | _ | _ | _ | _ | _ | _ | x
  all_goals first | omega | decide
/-- After the first byte was taken. -/
structure St4 (w2 W : World) (p : Nat) (o : List UInt8) (u : Value) (q : Int) : Prop where
  hp : W.heap[p]? = some (.cells #[u, .bool true, .int .i64 q] 115)
  hb : W.heap[w2.heap.size]? = some (.cells #[.string (str o), .int .i64 0, .slice none 0 0] 26)
  frm : Frm (· = p) w2 W
  size : W.heap.size = w2.heap.size + 1
theorem St4.mk' {w2 : World} {p : Nat} {o : List UInt8} {v u : Value} {n q : Int} (hp : w2.heap[p]? = some (.cells #[v, .bool true, .int .i64 n] 115)) :
    St4 w2 (World.setCell (World.alloc (w2.setCell ⟨p, 2, none⟩ (.int .i64 q)) (.cells #[.string (str o), .int .i64 0, .slice none 0 0] 26)) ⟨p, 0, none⟩ u) p o u q := by
  have hlt := (Array.getElem?_eq_some_iff.1 hp).1
  have h1 : Frm (· = p) w2 (w2.setCell ⟨p, 2, none⟩ (.int .i64 q)) := Frm.st (S := (· = p)) (p := ⟨p, 2, none⟩) (Frm.rf _ w2) (.inl rfl) _
  have hs : (w2.setCell ⟨p, 2, none⟩ (.int .i64 q)).heap.size = w2.heap.size := size_set _ _ _
  refine ⟨?_, ?_, Frm.st (S := (· = p)) (p := ⟨p, 0, none⟩) (h1.al _) (.inl rfl) _, by rw [size_set, size_alloc, hs]⟩
  · exact heap_setT (j := 0) (((Keep.al (Keep.rf _) _).frm fun _ => False).heap (fun h => h) (heap_setT (j := 2) hp (.int .i64 q))) u
  · exact heap_skip (new_behind hs _) (fun e => by have e : p = w2.heap.size := e; omega) u
set_option maxHeartbeats 16000000 in
theorem refRead (w0 : World) (f : Nat) : ∀ (s : Option (Nat × List UInt8)) (w : World) (p : Nat), (∀ L l, s = some (L, l) → L ≤ f) → Keep w0 w → w0.heap.size ≤ p → St12 w0 w p s →
    Calls Try.prog 86 #[.pointer (some ⟨p, 0, none⟩)] w (Rd12 w0 w p f s) := by
  induction f with
  | zero =>
    intro s w p hf hk hp0 hs
    cases s with
    | none =>
      obtain ⟨v, n, hb⟩ := hs
      exact refRead0 w0 w p 0 false v n none hk hp0 hb rfl (.inl rfl)
    | some x =>
      obtain ⟨L, l⟩ := x
      obtain ⟨A, c, h1, h2, hb⟩ := hs
      have := hf L l rfl
      obtain rfl : L = 0 := by omega
      exact refRead0 w0 w p 0 true _ _ _ hk hp0 hb rfl (.inr (.inl ⟨rfl, by omega⟩))
  | succ f ih =>
    intro s w p hf hk hp0 hs
    cases s with
    | none =>
      obtain ⟨v, n, hb⟩ := hs
      exact refRead0 w0 w p _ false v n none hk hp0 hb rfl (.inl rfl)
    | some x =>
    obtain ⟨L, l⟩ := x
    obtain ⟨A, c, h1, h2, hb⟩ := hs
    have hLf := hf L l rfl
    cases L with
    | zero =>
      refine refRead0 w0 w p _ true _ _ _ hk hp0 hb ?_ (.inr (.inl ⟨rfl, by omega⟩))
      show Em.rd (f + 1) 0 l = none
      cases l with
      | nil => rfl
      | cons x s => rw [Em.rd, if_pos (.inl rfl)]
    | succ L =>
    cases l with
    | nil => exact refRead0 w0 w p _ true _ _ _ hk hp0 hb rfl (.inr (.inr ⟨rfl, by omega, A, c, [], rfl, h1, fun x s e => by cases e⟩))
    | cons x s =>
    by_cases hxc : x.toNat < 1 ∨ 11 ≤ x.toNat
    · refine refRead0 w0 w p _ true _ _ _ hk hp0 hb ?_ (.inr (.inr ⟨rfl, by omega, A, c, x :: s, rfl, h1, fun y t e => by injection e with e1 e2; subst e1; exact hxc⟩))
      show Em.rd (f + 1) (L + 1) (x :: s) = none
      rw [Em.rd, if_pos (.inr hxc)]
    have hrd : Em.rd (f + 1) (L + 1) (x :: s) = match Em.rdV (Em.opAt x.toNat) s with
      | none => none
      | some (n, r1) => match Em.rdL (Em.rd f) (Em.kidN (Em.opAt x.toNat)) L r1 with
        | none => none
        | some (ts, L', r2) => some (.mk (Em.opAt x.toNat) n ts, L', r2) := by
      rw [Em.rd, if_neg (by omega)]
      rfl
    have HRD := hide hrd
    have IH := hide ih
    have hkids := opAt_kids x.toNat (by omega) (by omega)
    have HS := hide h1
    obtain ⟨-, ad, rfl, hx0⟩ := bs_first h1
    have hxa := Keep.cell hk hx0
    have hq : s.length + 1 ≤ c := by
      obtain ⟨A', c', e, q1, q2, _⟩ := h1
      injection e with e1 e2 e3
      subst e3
      simpa using q1
    have hxb : ad.block ≠ p := fun e => by have := World.block_lt_of_cell? _ _ hx0; omega
    have HLE := hide (show (x :: s).length = 1 + s.length from by rw [List.length_cons]; omega)
    have x256 : x.toNat < 256 := x.toNat_lt
    have hp := (Array.getElem?_eq_some_iff.1 hb).1
    have hn1 := heap_alloc_new w (.cells #[.string ⟨#[]⟩, .int .i64 0, .slice none 0 0] 26)
    have k1 : Keep w (w.alloc (.cells #[.string ⟨#[]⟩, .int .i64 0, .slice none 0 0] 26)) := (by repeat (first | exact Keep.rf _ | assumption | apply Keep.al | apply Keep.dr | apply Keep.dn))
    clear hrd ih hf h1 hx0
    generalize hn : (2000 - ((L + 1 : Nat) : Int)) = n at *
    have hn0 : 0 ≤ n ∧ n < 2000 := by omega
    have HNL := hide (show n + 1 = 2000 - (L : Int) from by omega)
    have hg2000 : decide (n + 1 > 2000) = false := by simp; omega
    generalize hxn : x.toNat = xn at *
    go_enter Try.func86, Try.ntmps86
    go_wp2_with fail
    generalize World.alloc w _ = W1 at *
    refine (refOps12b W1).mono ?_
    rintro e w2 ⟨g, rfl, hg1, hg2, hg3, k2⟩
    have k12 := Keep.tr k1 k2
    have hb2 := (k12.frm fun _ => False).heap (fun h => h) hb
    have hn2 := (k2.frm fun _ => False).heap (fun h => h) hn1
    have hw1 := (Array.getElem?_eq_some_iff.1 hn1).1
    have c0 := top_cells hb2 0
    have c1 := top_cells hb2 1
    have c2 := top_cells hb2 2
    have f0 := top_free hb2 0
    have f2 := top_free hb2 2
    have g3 := hg3 xn (by omega)
    simp only [List.getElem?_toArray, List.getElem?_cons_succ, List.getElem?_cons_zero, List.length_cons, Int.natCast_add, Int.cast_ofNat_Int] at c0 c1 c2
    have FS : Frm (· = p) w2 (w2.setCell ⟨p, 2, none⟩ (.int .i64 (n + 1))) := Frm.st (S := (· = p)) (p := ⟨p, 2, none⟩) (Frm.rf _ w2) (.inl rfl) _
    have hxs : (w2.setCell ⟨p, 2, none⟩ (.int .i64 (n + 1))).cell? ad = some (bv x) := FS.cell (fun e => hxb e) (Keep.cell k12 (by rw [hxa, bv, hxn]))
    have hgs : (w2.setCell ⟨p, 2, none⟩ (.int .i64 (n + 1))).cell? ⟨g, xn, none⟩ = some (.string (str (Em.opAt xn))) := FS.cell (fun e => by have e : g = p := e; omega) g3
    simp only [bv, hxn] at hxs
    have HB2 := hide hb2
    have HN2 := hide hn2
    have kx : Keep w0 w2 := Keep.tr hk k12
    have h12 : w.heap.size < w2.heap.size := by have := k2.size; omega
    have K12 := hide k12
    clear hb hb2 hn1 hn2 k1 k2 k12 hg3 FS hxa g3
    have hg0 : ((s.length : Int) + 1 == 0) = false := by simp; omega
    have hx1 : ((xn : Int) == 0) = false := by simp; omega
    have hx2 : decide ((xn : Int) ≥ 11) = false := by simp; omega
    have hx3 : (xn : Int) < 11 := by omega
    generalize Em.opAt xn = o at *
    have hA3 : (World.alloc (w2.setCell ⟨p, 2, none⟩ (.int .i64 (n + 1))) (.cells #[.string (str o), .int .i64 0, .slice none 0 0] 26)).heap[p]? = some (.cells #[.slice (some ad) (x :: s).length c, .bool true, .int .i64 (n + 1)] 115) :=
      ((Keep.al (Keep.rf _) _).frm fun _ => False).heap (fun h => h) (heap_setT (j := 2) HB2.out (.int .i64 (n + 1)))
    have a0 := top_cells hA3 0
    have b0 := top_free hA3 0
    simp only [List.getElem?_toArray, List.getElem?_cons_succ, List.getElem?_cons_zero, List.length_cons, Int.natCast_add, Int.cast_ofNat_Int] at a0
    clear hA3
    by_cases hv : o = Em.wVar
    · subst hv
      have hc1 : ((str Em.wVar).toList == [118, 97, 114]) = true := by rw [opB]; exact decide_eq_true rfl
      go_wp2_with (first
        | (refine slFrom0 rfl (.tmp 76) (.const (.int .i64 1)) _ _ rfl Try.underlying29 sizeB8 _ _ rfl HS.out _ _ rfl 1 rfl _ HLE.out ?_; intro A1 c1 hd hd1 hd2)
        | fail)
      have hST := St4.mk' (o := Em.wVar) (u := .slice A1 s.length c1) (q := n + 1) HB2.out
      clear a0 b0 hxs hgs
      generalize World.setCell (World.alloc _ _) _ _ = W4 at *
      have hS1 : Bs w0 (.slice A1 s.length c1) s := by simpa using hd
      have k04 : Keep w0 W4 := Frm.keep kx hST.frm fun i e => by have e : i = p := e; omega
      have hG := refGet (.slice A1 s.length c1) s W4 (hS1.keep k04)
      have hrdv : Em.rdV Em.wVar s = Em.rdN s := by rw [Em.rdV, if_pos rfl]
      have hk0 : Em.kidN Em.wVar = 0 := by decide
      have HN4 := hide (hST.frm.heap (fun e => by have e : w.heap.size = p := e; omega) HN2.out)
      have HST := hide hST
      have HS1 := hide hS1
      have hs4 : W4.heap.size = w2.heap.size + 1 := hST.size
      have HF4 := hide (show Frm (· = p) w W4 from (K12.out.frm _).tr hST.frm)
      clear hST hS1 hd k04
      have bad : ∀ W5, Keep W4 W5 → Em.rd (f + 1) (L + 1) (x :: s) = none →
          (W5.cell? ⟨p, 1, none⟩ = some (.bool true) ∧ W5.frozen? ⟨p, 1, none⟩ = false) ∧ (∀ W6, W6 = W5.setCell ⟨p, 1, none⟩ (.bool false) → W6.heap[w.heap.size]? = some (.cells #[.string ⟨#[]⟩, .int .i64 0, .slice none 0 0] 26) ∧
          (((W6.setCell ⟨w.heap.size, 0, none⟩ (.string ⟨#[]⟩)).setCell ⟨w.heap.size, 1, none⟩ (.int .i64 0)).setCell ⟨w.heap.size, 2, none⟩ (.slice none 0 0)).heap[w.heap.size]? = some (.cells #[.string ⟨#[]⟩, .int .i64 0, .slice none 0 0] 26) ∧
          Rd12 w0 w p (f + 1) (some (L + 1, x :: s)) (.returned (.agg #[.string ⟨#[]⟩, .int .i64 0, .slice none 0 0])) (((W6.setCell ⟨w.heap.size, 0, none⟩ (.string ⟨#[]⟩)).setCell ⟨w.heap.size, 1, none⟩ (.int .i64 0)).setCell ⟨w.heap.size, 2, none⟩ (.slice none 0 0))) := by
        intro W5 k5 hno
        have hp5 := (k5.frm fun _ => False).heap (fun h => h) HST.out.hp
        have hn5 := (k5.frm fun _ => False).heap (fun h => h) HN4.out
        refine ⟨⟨(top_cells hp5 1).trans rfl, top_free hp5 1⟩, fun W6 h6 => ?_⟩
        subst h6
        have hn6 := heap_skip (a := ⟨p, 1, none⟩) hn5 (fun e => by have e : p = w.heap.size := e; omega) (.bool false)
        refine ⟨hn6, heap_set3 hn6 _ _ _, Rd12.no (show rdS (f + 1) (some (L + 1, x :: s)) = none from hno) _ _ _ _ _ ?_ _ _ ((frm_set3 _ _ _ _ _).heap (fun e => by have e : p = w.heap.size := e; omega) (heap_setT (j := 1) hp5 (.bool false)))⟩
        exact (Frm.st (S := (· = p)) (p := ⟨p, 1, none⟩) (HF4.out.tr (k5.frm _)) (.inl rfl) (.bool false)).trn (frm_set3 _ _ _ _ _) fun i e => .inr (by have e : i = w.heap.size := e; omega)
      have BAD := hide bad
      clear bad
      cases hg : Em.getN s with
      | none =>
        have hT : getT s = .tuple #[.int .u64 0, .int .i64 0, .bool false] := by rw [getT, hg]
        have hno : Em.rd (f + 1) (L + 1) (x :: s) = none := by rw [HRD.out, hrdv, Em.rdN, hg]
        have HNO := hide hno
        rw [hT] at hG
        clear hT hg hno
        refine hG.mono ?_
        rintro e w5 ⟨rfl, k5⟩
        obtain ⟨⟨e1, e2⟩, h6⟩ := BAD.out w5 k5 HNO.out
        obtain ⟨hn6, h7, h8⟩ := h6 _ rfl
        have y0 := top_cells hn6 0
        have y1 := top_cells hn6 1
        have y2 := top_cells hn6 2
        have z0 := top_free hn6 0
        have z1 := top_free hn6 1
        have z2 := top_free hn6 2
        simp only [List.getElem?_toArray, List.getElem?_cons_succ, List.getElem?_cons_zero] at y0 y1 y2
        have H7 := hide h7
        have H8 := hide h8
        clear h6 hn6 h7 h8 hG
        go_wp2_with fail
        refine bodyPost_ret_by (results_cell_row rfl _ _ w.heap.size 26 _ (0, 0) _ rfl H7.out Try.underlying26 rfl ?_) rfl ?_
        · kernel_rfl
        · exact H8.out
      | some vn =>
        obtain ⟨y, m⟩ := vn
        have hgs := Em.get_some hg
        have hT : getT s = .tuple #[.int .u64 (y : Int), .int .i64 (m : Int), .bool true] := by rw [getT, hg]
        rw [hT] at hG
        have h64 := hide hgs.1
        have hnl := hgs.2.2.2
        by_cases hy : 2000 < y
        · have hno : Em.rd (f + 1) (L + 1) (x :: s) = none := by rw [HRD.out, hrdv, Em.rdN, hg]; simp [hy]
          have HNO := hide hno
          clear hT hg hno hgs
          refine hG.mono ?_
          rintro e w5 ⟨rfl, k5⟩
          obtain ⟨⟨e1, e2⟩, h6⟩ := BAD.out w5 k5 HNO.out
          obtain ⟨hn6, h7, h8⟩ := h6 _ rfl
          have y0 := top_cells hn6 0
          have y1 := top_cells hn6 1
          have y2 := top_cells hn6 2
          have z0 := top_free hn6 0
          have z1 := top_free hn6 1
          have z2 := top_free hn6 2
          simp only [List.getElem?_toArray, List.getElem?_cons_succ, List.getElem?_cons_zero] at y0 y1 y2
          have H7 := hide h7
          have H8 := hide h8
          clear h6 hn6 h7 h8 hG
          go_wp2_with fail
          refine bodyPost_ret_by (results_cell_row rfl _ _ w.heap.size 26 _ (0, 0) _ rfl H7.out Try.underlying26 rfl ?_) rfl ?_
          · kernel_rfl
          · exact H8.out
        · have hok : Em.rd (f + 1) (L + 1) (x :: s) = some (.mk Em.wVar y [], L, s.drop m) := by
            rw [HRD.out, hrdv, Em.rdN, hg]
            simp only [if_neg hy]
            rw [hk0]
            rfl
          have HOK := hide hok
          have hlen := hide (show s.length = m + (s.length - m) from by omega)
          have HDL := hide (show (s.drop m).length = s.length - m from List.length_drop)
          clear hT hg hok hgs
          refine hG.mono ?_
          rintro e w5 ⟨rfl, k5⟩
          have hp5 := (k5.frm fun _ => False).heap (fun h => h) HST.out.hp
          have hb5 := (k5.frm fun _ => False).heap (fun h => h) HST.out.hb
          have hn5 := (k5.frm fun _ => False).heap (fun h => h) HN4.out
          have hs5 := k5.size
          have e0 := top_cells hb5 1
          have e1 := top_free hb5 1
          have hp6 : (w5.setCell ⟨w2.heap.size, 1, none⟩ (.int .i64 y)).heap[p]? = _ := heap_skip hp5 (fun e => by have e : w2.heap.size = p := e; omega) _
          have hb6 : (w5.setCell ⟨w2.heap.size, 1, none⟩ (.int .i64 y)).heap[w2.heap.size]? = _ := heap_setT (j := 1) hb5 (.int .i64 y)
          have hn6 : (w5.setCell ⟨w2.heap.size, 1, none⟩ (.int .i64 y)).heap[w.heap.size]? = _ := heap_skip hn5 (fun e => by have e : w2.heap.size = w.heap.size := e; omega) _
          have e2 := top_cells hp6 0
          have e3 := top_free hp6 0
          simp only [List.getElem?_toArray, List.getElem?_cons_succ, List.getElem?_cons_zero] at e0 e2
          have F6 : Frm (· = p) w (w5.setCell ⟨w2.heap.size, 1, none⟩ (.int .i64 y)) := (HF4.out.tr (k5.frm _)).trn (Frm.st (S := (· = w2.heap.size)) (p := ⟨w2.heap.size, 1, none⟩) (Frm.rf _ w5) (.inl rfl) _) fun i e => .inr (by have e : i = w2.heap.size := e; omega)
          have HP6 := hide hp6
          have HB6 := hide hb6
          have HN6 := hide hn6
          have HF6 := hide F6
          have hKD := refKidsT Em.wVar
          rw [show Em.kidsOf Em.wVar = 0 from by decide] at hKD
          have HKD := hide hKD
          clear hp5 hb5 hn5 hp6 hb6 hn6 F6 hG hKD
          go_wp2_with (first
            | (refine slFrom0 rfl (.tmp 109) (.tmp 110) _ _ rfl Try.underlying29 sizeB8 _ _ rfl HS1.out _ _ rfl m rfl _ hlen.out ?_; intro A2 c2 he he1 he2)
            | fail)
          have hp7 := heap_setT (j := 0) HP6.out (.slice A2 (s.length - m) c2)
          have hb7 := heap_skip (a := ⟨p, 0, none⟩) HB6.out (fun e => by have e : p = w2.heap.size := e; omega) (.slice A2 (s.length - m) c2)
          have hn7 := heap_skip (a := ⟨p, 0, none⟩) HN6.out (fun e => by have e : p = w.heap.size := e; omega) (.slice A2 (s.length - m) c2)
          have hF7 := Frm.st (S := (· = p)) (p := ⟨p, 0, none⟩) HF6.out (.inl rfl) (.slice A2 (s.length - m) c2)
          clear e0 e1 e2 e3
          generalize World.setCell (World.setCell _ _ _) _ _ = W7 at *
          have x0 := top_cells hb7 0
          have x1 := top_cells hb7 1
          have x2 := top_cells hb7 2
          have y0 := top_cells hn7 0
          have y1 := top_cells hn7 1
          have y2 := top_cells hn7 2
          have z0 := top_free hn7 0
          have z1 := top_free hn7 1
          have z2 := top_free hn7 2
          simp only [List.getElem?_toArray, List.getElem?_cons_succ, List.getElem?_cons_zero, Array.setIfInBounds, List.set_toArray, List.set_cons_succ, List.set_cons_zero] at x0 x1 x2 y0 y1 y2
          have HP7 := hide hp7
          have HN7 := hide hn7
          have HF7 := hide hF7
          have HE := hide he
          clear hp7 hb7 hn7 hF7 he
          go_loop [8] (fun i => i = .int .i64 0) (fun _ => 0)
          case atStart => rfl
          case round =>
            subst hrel
            go_wp2_with fail
            refine (HKD.out _).mono ?_
            rintro e w' ⟨rfl, rfl⟩
            go_wp2_with fail
            refine bodyPost_ret_by (results_cell_row rfl _ _ w.heap.size 26 _ (0, 0) _ rfl (heap_set3 HN7.out _ _ _) Try.underlying26 rfl ?_) rfl ?_
            · kernel_rfl
            · have F8 := frm_set3 W7 w.heap.size (.string (str Em.wVar)) (.int .i64 y) (.slice none 0 0)
              refine ⟨_, _, _, _, _, rfl, HF7.out.trn F8 fun i e => .inr (by have e : i = w.heap.size := e; omega), ?_, fun t L' r e => ?_⟩
              · rw [show rdS (f + 1) (some (L + 1, x :: s)) = _ from HOK.out]
                exact ⟨A2, c2, by rw [HDL.out]; exact HE.out, by omega, by rw [HDL.out, ← HNL.out]; exact F8.heap (fun e => by have e : p = w.heap.size := e; omega) HP7.out⟩
              · have e : Em.rd (f + 1) (L + 1) (x :: s) = some (t, L', r) := e
                rw [HOK.out] at e
                injection e with e
                injection e with e1 e
                injection e with e2 e3
                subst e1 e2 e3
                exact ⟨_, rfl, (show (Lit.int .i64 (y : Int)).wf = true from by simp [Lit.wf, IntKind.min, IntKind.max, IntKind.bits, IntKind.signed]; omega), (fun k hk => by cases hk), Sl.nil _⟩
    · have hc1 : ((str o).toList == [118, 97, 114]) = false := by rw [opB]; exact decide_eq_false hv
      go_wp2_with (first
        | (refine slFrom0 rfl (.tmp 76) (.const (.int .i64 1)) _ _ rfl Try.underlying29 sizeB8 _ _ rfl HS.out _ _ rfl 1 rfl _ HLE.out ?_; intro A1 c1 hd hd1 hd2)
        | fail)
      have hST := St4.mk' (o := o) (u := .slice A1 s.length c1) (q := n + 1) HB2.out
      clear a0 b0 hxs hgs
      generalize World.setCell (World.alloc _ _) _ _ = W4 at *
      have hS1 : Bs w0 (.slice A1 s.length c1) s := by simpa using hd
      have hrdv : Em.rdV o s = some (0, s) := by rw [Em.rdV, if_neg hv]
      have hrd2 : Em.rd (f + 1) (L + 1) (x :: s) = match Em.rdL (Em.rd f) (Em.kidN o) L s with
        | none => none
        | some (ts, L', r2) => some (.mk o 0 ts, L', r2) := by
        rw [HRD.out, hrdv]
        rfl
      have HR2 := hide hrd2
      have hKD := refKidsT o
      rw [hkids] at hKD
      have HKD := hide hKD
      have hK2 := kidN_le o
      clear hrd2 hrdv hkids hKD HRD
      generalize Em.kidN o = K at *
      have hs4 : W4.heap.size = w2.heap.size + 1 := hST.size
      have hst : Kid12 w0 w W4 W4 p w2.heap.size f K L s o 0 (some (L, s)) (.slice none 0 0) (.slice none 0 0) [] :=
        ⟨(Row3.nil _ _ 0).own, hST.hb, hST.frm.heap (fun e => by have e : w.heap.size = p := e; omega) HN2.out, (K12.out.frm _).tr hST.frm, Nat.le_refl _, ⟨A1, c1, hS1, by omega, by rw [← HNL.out]; exact hST.hp⟩, (fun h => by cases h), fun Lj r e => by
          injection e with e
          injection e with e1 e2
          subst e1 e2
          exact ⟨Nat.le_refl _, [], Row3.nil _ _ _, rfl, by rw [Nat.sub_zero]; cases Em.rdL (Em.rd f) K L s <;> rfl⟩⟩
      have HST := hide hst
      clear hST hS1 hst hd
      go_loopw [8] (fun i W => ∃ (j : Nat) (st : Option (Nat × List UInt8)) (v : Value) (css : List (List Value)), i = .int .i64 j ∧ j ≤ K ∧ css.length = j ∧ Kid12 w0 w W4 W p w2.heap.size f K L s o j st v v css) (fun i _ => K - (intOf i).toNat)
      case atStart => exact ⟨0, _, _, [], rfl, Nat.zero_le _, rfl, HST.out⟩
      case round =>
        clear HST
        obtain ⟨j, st, v, css, rfl, hj, hcl, hI⟩ := hrel
        subst hcl
        obtain ⟨rA, rc, rfl⟩ := own_slice hI.own
        have HI := hide hI
        have hsz := hI.size
        have x0 := top_cells hI.blk 0
        have x1 := top_cells hI.blk 1
        have x2 := top_cells hI.blk 2
        have y0 := top_cells hI.zero 0
        have y1 := top_cells hI.zero 1
        have y2 := top_cells hI.zero 2
        have z0 := top_free hI.zero 0
        have z1 := top_free hI.zero 1
        have z2 := top_free hI.zero 2
        simp only [List.getElem?_toArray, List.getElem?_cons_succ, List.getElem?_cons_zero] at x0 x1 x2 y0 y1 y2
        have HN := hide hI.zero
        have hnb : ¬ TP12 p (.slice rA css.length rc) (⟨w2.heap.size, 2, none⟩ : Addr).block := by
          rintro (e | e)
          · have e : w2.heap.size = p := e
            omega
          · have := (World.ownsRow.lt hI.own _ e).1
            simp only at this
            omega
        clear hI
        go_wp2_with fail
        refine (HKD.out _).mono ?_
        rintro e w' ⟨rfl, rfl⟩
        by_cases hjK : css.length < K
        · have g5 : decide ((css.length : Int) < (K : Int)) = true := by simp; omega
          go_wp2_with fail
          apply region_last 7 _ (by kernel_rfl) Keep (Frm (TP12 p (.slice rA css.length rc))) krg ktg (Frm.rf _) (fun _ _ _ => Frm.tr) (fun _ _ h => Keep.frm h _) [some 121, some 122, some 123, some 124, some 125, some 126, some 127, none] [eqG _ , fun us _ v => v = .slice rA css.length rc, eqG _ , fun us W v => RdAt w0 wr p f st v W, fun us W v => LoneAt (us.getD 0 undef) W v, fun us W v => Psh12 w0 w W4 p w2.heap.size f K L s o (css.length + 1) ((rdS f st).map fun x => x.2) (.slice rA css.length rc) css W v, eqG _ , fun _ _ _ => True] [⟨[], [], false, false, false⟩, ⟨[0], [], false, false, false⟩, ⟨[], [], true, false, false⟩, ⟨[2], [], true, true, true⟩, ⟨[3], [], false, false, true⟩, ⟨[1, 3, 4], [], false, true, true⟩, ⟨[], [], false, false, false⟩, ⟨[5, 6], [], false, false, false⟩] [5, 6] (by kernel_rfl) (by kernel_rfl) (by kernel_rfl) rfl (by kernel_rfl)
          · refine ⟨?_, ?_, ?_, ?_, ?_, ?_, ?_, trivial⟩
            · (intro us W h9 hW hE hd hs K hK; obtain ⟨u0, u1, u2, u3, u4, u5, u6, u7, rfl⟩ := rog 8 h9 rfl; clear h9; clear hd; clear hs; simp only [fillG, List.set_cons_zero, List.set_cons_succ]; refine want_n rfl ?_; go_wp2_with (first | fail); simp only [DoneG, fillG, List.set_cons_zero, List.set_cons_succ, relG, eqG, eqG1, eqG2, eqG3, gdG, gdG1, gnG, gnG1, List.getD_cons_zero, List.getD_cons_succ, List.getElem?_cons_succ, List.getElem?_cons_zero, Option.map_some, Option.getD_some, valsG, List.map_cons, List.map_nil, List.length_cons, List.length_nil]; exact ⟨_, rfl, (by first | with_reducible assumption | exact krg _ | exact Keep.al (krg _) _), fun _ _ => rfl⟩)
            · (intro us W h9 hW hE hd hs K hK; obtain ⟨u0, u1, u2, u3, u4, u5, u6, u7, rfl⟩ := rog 8 h9 rfl; clear h9; simp only [DepG, AtG, and_true, relG, eqG, eqG1, eqG2, eqG3, gdG, gdG1, gnG, gnG1, List.getD_cons_zero, List.getD_cons_succ, List.getElem?_cons_succ, List.getElem?_cons_zero, Option.map_some, Option.getD_some, valsG, List.map_cons, List.map_nil, List.length_cons, List.length_nil] at hd; have d0 := hd; clear hd; subst d0; clear hs; simp only [fillG, List.set_cons_zero, List.set_cons_succ]; refine want_n rfl ?_; have b2 := (Frm.tr (Frm.dr (Frm.rf _ _)) hW).cell hnb x2; go_wp2_with fail; simp only [DoneG, fillG, List.set_cons_zero, List.set_cons_succ, relG, eqG, eqG1, eqG2, eqG3, gdG, gdG1, gnG, gnG1, List.getD_cons_zero, List.getD_cons_succ, List.getElem?_cons_succ, List.getElem?_cons_zero, Option.map_some, Option.getD_some, valsG, List.map_cons, List.map_nil, List.length_cons, List.length_nil]; exact ⟨_, rfl, (by first | with_reducible assumption | exact krg _ | exact Keep.al (krg _) _), fun _ _ => rfl⟩)
            · (intro us W h9 hW hE hd hs K hK; obtain ⟨u0, u1, u2, u3, u4, u5, u6, u7, rfl⟩ := rog 8 h9 rfl; clear h9; clear hd; clear hs; simp only [fillG, List.set_cons_zero, List.set_cons_succ]; refine want_n rfl ?_; go_wp2_with (first | fail); simp only [DoneG, fillG, List.set_cons_zero, List.set_cons_succ, relG, eqG, eqG1, eqG2, eqG3, gdG, gdG1, gnG, gnG1, List.getD_cons_zero, List.getD_cons_succ, List.getElem?_cons_succ, List.getElem?_cons_zero, Option.map_some, Option.getD_some, valsG, List.map_cons, List.map_nil, List.length_cons, List.length_nil]; exact ⟨_, rfl, (by first | with_reducible assumption | exact krg _ | exact Keep.al (krg _) _), fun _ _ => rfl⟩)
            · (intro us W h9 hW hE hd hs K hK; obtain ⟨u0, u1, u2, u3, u4, u5, u6, u7, rfl⟩ := rog 8 h9 rfl; clear h9; simp only [DepG, AtG, and_true, relG, eqG, eqG1, eqG2, eqG3, gdG, gdG1, gnG, gnG1, List.getD_cons_zero, List.getD_cons_succ, List.getElem?_cons_succ, List.getElem?_cons_zero, Option.map_some, Option.getD_some, valsG, List.map_cons, List.map_nil, List.length_cons, List.length_nil] at hd; have d2 := hd; clear hd; subst d2; clear hs; simp only [fillG, List.set_cons_zero, List.set_cons_succ]; have hKW := Keep.tr (Keep.dr (Keep.rf _)) (hE rfl); have x2 := Keep.cell hKW x2; refine want_n rfl ?_; go_wp2_with (first | (go_at_call 86; refine (IH.out st _ p (fun L' l' e => by have := (HI.out.yes L' l' e).1; omega) (Frm.keep hk (HI.out.frm.tr (hKW.frm _)) fun i e => by have e : i = p := e; omega) hp0 (HI.out.stt.frm (hKW.frm fun _ => False) (fun h => h))).mono ?_; rintro e w9 ⟨o9, n9, A9, m9, c9, rfl, f9, s9, t9⟩; have hrel : Frm (TP12 p (.slice rA css.length rc)) W w9 := f9.mono fun k _ e => .inl e) | fail); simp only [DoneG, fillG, List.set_cons_zero, List.set_cons_succ, relG, eqG, eqG1, eqG2, eqG3, gdG, gdG1, gnG, gnG1, List.getD_cons_zero, List.getD_cons_succ, List.getElem?_cons_succ, List.getElem?_cons_zero, Option.map_some, Option.getD_some, valsG, List.map_cons, List.map_nil, List.length_cons, List.length_nil]; exact ⟨_, rfl, (by first | with_reducible assumption | exact trivial), fun W9 hk9 => RdAt.keep ⟨o9, n9, A9, m9, c9, rfl, (hKW.frm _).tr f9, s9, fun t L' r e => (t9 t L' r e).mono fun q hq => ⟨Nat.le_trans (Below.size hKW) hq.1, hq.2⟩⟩ hk9⟩)
            · (intro us W h9 hW hE hd hs K hK; obtain ⟨u0, u1, u2, u3, u4, u5, u6, u7, rfl⟩ := rog 8 h9 rfl; clear h9; simp only [DepG, AtG, and_true, relG, eqG, eqG1, eqG2, eqG3, gdG, gdG1, gnG, gnG1, List.getD_cons_zero, List.getD_cons_succ, List.getElem?_cons_succ, List.getElem?_cons_zero, Option.map_some, Option.getD_some, valsG, List.map_cons, List.map_nil, List.length_cons, List.length_nil] at hd; have d3 := hd; clear hd; obtain ⟨o9, n9, A9, m9, c9, rfl, f9, s9, t9⟩ := d3; clear hs; simp only [fillG, List.set_cons_zero, List.set_cons_succ]; refine want_n rfl ?_; go_wp2_with (first | fail); simp only [DoneG, fillG, List.set_cons_zero, List.set_cons_succ, relG, eqG, eqG1, eqG2, eqG3, gdG, gdG1, gnG, gnG1, List.getD_cons_zero, List.getD_cons_succ, List.getElem?_cons_succ, List.getElem?_cons_zero, Option.map_some, Option.getD_some, valsG, List.map_cons, List.map_nil, List.length_cons, List.length_nil]; exact ⟨_, rfl, (by first | with_reducible assumption | exact krg _ | exact Keep.al (krg _) _), fun W9 hk9 => ⟨_, _, rfl, rfl, (hk9.frm fun _ => False).heap (fun h => h) (heap_alloc_new _ _)⟩⟩)
            · (intro us W h9 hW hE hd hs K hK; obtain ⟨u0, u1, u2, u3, u4, u5, u6, u7, rfl⟩ := rog 8 h9 rfl; clear h9; simp only [DepG, AtG, and_true, relG, eqG, eqG1, eqG2, eqG3, gdG, gdG1, gnG, gnG1, List.getD_cons_zero, List.getD_cons_succ, List.getElem?_cons_succ, List.getElem?_cons_zero, Option.map_some, Option.getD_some, valsG, List.map_cons, List.map_nil, List.length_cons, List.length_nil] at hd; obtain ⟨d1, d3, d4⟩ := hd; subst d1; obtain ⟨o9, n9, A9, m9, c9, rfl, f9, s9, t9⟩ := d3; obtain ⟨g5, cs5, rfl, e5, h5⟩ := d4; clear hs; simp only [fillG, List.set_cons_zero, List.set_cons_succ]; refine want_n rfl ?_; injection e5 with e5; subst e5; refine wp_app (.tmp 122) (.tmp 125) 24 rfl W4.heap.size 26 _ 3 48 Try.underlying24 typeInfo rfl (by omega) _ css.length css.flatten rfl (f9.own HI.out.own fun q hq e => by have e : q = p := e; have := (World.ownsRow.lt HI.out.own q hq).1; omega) _ 1 _ rfl (src3 h5) (one_type _ _ _ _ _) (by simp only [maxLen]; omega) (by omega) (Nat.le_trans hsz f9.size) ?_; intro v6 w6 ha; have hrel : Frm (TP12 p (.slice rA css.length rc)) W w6 := Frm.of_grown ha.2.1 fun _ e => .inr e; refine hK _ _ ?_; simp only [DoneG, fillG, List.set_cons_zero, List.set_cons_succ, relG, eqG, eqG1, eqG2, eqG3, gdG, gdG1, gnG, gnG1, List.getD_cons_zero, List.getD_cons_succ, List.getElem?_cons_succ, List.getElem?_cons_zero, Option.map_some, Option.getD_some, valsG, List.map_cons, List.map_nil, List.length_cons, List.length_nil]; exact ⟨_, rfl, (by first | with_reducible assumption | exact trivial), fun W9 hk9 => (HI.out.push hp h12 (by omega) hjK f9 s9 t9 ha).keep hk9⟩)
            · (intro us W h9 hW hE hd hs K hK; obtain ⟨u0, u1, u2, u3, u4, u5, u6, u7, rfl⟩ := rog 8 h9 rfl; clear h9; clear hd; clear hs; simp only [fillG, List.set_cons_zero, List.set_cons_succ]; refine want_n rfl ?_; go_wp2_with (first | fail); simp only [DoneG, fillG, List.set_cons_zero, List.set_cons_succ, relG, eqG, eqG1, eqG2, eqG3, gdG, gdG1, gnG, gnG1, List.getD_cons_zero, List.getD_cons_succ, List.getElem?_cons_succ, List.getElem?_cons_zero, Option.map_some, Option.getD_some, valsG, List.map_cons, List.map_nil, List.length_cons, List.length_nil]; exact ⟨_, rfl, (by first | with_reducible assumption | exact krg _ | exact Keep.al (krg _) _), fun _ _ => rfl⟩)
          (intro us W7 h9 hW hE hA hl9; obtain ⟨u0, u1, u2, u3, u4, u5, u6, u7, rfl⟩ := rog 8 h9 rfl; clear h9; clear hl9; simp only [AllG, AtG, and_true, relG, eqG, eqG1, eqG2, eqG3, gdG, gdG1, gnG, gnG1, List.getD_cons_zero, List.getD_cons_succ, List.getElem?_cons_succ, List.getElem?_cons_zero, Option.map_some, Option.getD_some, valsG, List.map_cons, List.map_nil, List.length_cons, List.length_nil] at hA; obtain ⟨d5, d6⟩ := hA; subst d6; simp only [fillG, List.set_cons_zero, List.set_cons_succ]; refine want_n rfl ?_)
          obtain ⟨cs7, A7, n7, c7, rfl, hk7⟩ := d5
          have tpc := top_cells hk7.blk 2
          have tpf := top_free hk7.blk 2
          simp only [List.getElem?_toArray, List.getElem?_cons_succ, List.getElem?_cons_zero] at tpc
          have HK7 := hide (hk7.put hp h12 (by omega))
          clear hk7 hW hE
          go_wp2
          go_roundw
          case rel => exact ⟨css.length + 1, _, _, css ++ [cs7], by go_num, by omega, by simp, HK7.out⟩
          case measure => simp [intOf]; omega
        · have g5 : decide ((css.length : Int) < (K : Int)) = false := by simp; omega
          go_wp2_with fail
          refine bodyPost_ret_by (results_cell_row rfl _ _ w.heap.size 26 _ (0, 0) _ rfl (heap_set3 HN.out _ _ _) Try.underlying26 rfl ?_) rfl ?_
          · kernel_rfl
          · exact HI.out.done (by omega) hp (by omega) HR2.out
end Go.Proofs.Ytcbkklfdeloeeaa
