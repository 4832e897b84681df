/- Walk: the type that comes next (package mark), whole. -/
import Derived.Test.YtcbkklfdeloeeaaMarkO
namespace Go.Proofs.Ytcbkklfdeloeeaa
open Go.RowKit
open Em (Ty)
set_option linter.unusedVariables false
set_option maxRecDepth 100000
theorem TyF.le {S : Nat → Prop} {d e : Nat} {w : World} {cs : List Value} {t : Ty} (h : TyF S d w cs t) (hle : d ≤ e) : TyF S e w cs t := by
  induction hle with
  | refl => exact h
  | step _ ih => exact ih.succ
/-- Where the loop over the kids stands. -/
structure KidI (w0 w W5 W : World) (p b5 f K L : Nat) (s o : List UInt8) (j : Nat) (ok : Bool) (v : Value) (css : List (List Value)) : Prop where
  own : W.ownsRow W5.heap.size 26 3 v css.length css.flatten
  blk : W.heap[b5]? = some (.cells #[.string (str o), .int .i64 0, v] 26)
  zero : W.heap[w.heap.size]? = some (.cells #[.string ⟨#[]⟩, .int .i64 0, .slice none 0 0] 26)
  frm : Frm (· = p) w W
  size : W5.heap.size ≤ W.heap.size
  no : ok = false → Em.rdL (Em.rd f) K L s = none
  yes : ok = true → ∃ A c r Lj ts, W.heap[p]? = some (.cells #[.slice A r.length c, .int .i64 ((Lj : Nat) : Int)] 111) ∧ Bs w0 (.slice A r.length c) r ∧ Lj ≤ L ∧ Row3 W5 W v css f ts ∧ ts.length = j ∧
    Em.rdL (Em.rd f) K L s = (match Em.rdL (Em.rd f) (K - j) Lj r with | none => none | some (us, L', r') => some (ts ++ us, L', r'))
theorem in_opsL (c : Nat) (h : c < 11) : ∃ h' : c < Em.opsL.length, Em.opsL[c] = Em.opAt c := by
  have h' : c < Em.opsL.length := by simpa [Em.opsL] using h
  exact ⟨h', by rw [Em.opAt, List.getD_eq_getElem?_getD, List.getElem?_eq_getElem h', Option.getD_some]⟩
theorem kidN_le (o : List UInt8) : Em.kidN o ≤ 2 := by
  unfold Em.kidN
  split
  · omega
  · split <;> omega
theorem size_alloc (w : World) (o : Obj) : (w.alloc o).heap.size = w.heap.size + 1 := by simp
/-- One struct that was written down, to be appended. -/
theorem src_new (W : World) (n : Nat) (a b c : Value) {t : TypeId} (h : W.heap.size = n) : Src (W.alloc (.cells #[a, b, c] t)) 3 (.slice (some ⟨n, 0, none⟩) 1 1) 1 [a, b, c] := by
  subst h
  refine ⟨rfl, _, _, rfl, fun _ => ⟨_, rfl, fun j u hu => ?_⟩⟩
  rw [add_pl]
  exact lit_cells rfl j (by simpa using hu)
/-- A cell elsewhere is as it was. -/
theorem lit_skip {w : World} {a : Addr} {x : Value} (b : Nat) (u v t : Value) (hb : a.block ≠ b) (h : w.cell? a = some x) : (((w.setCell ⟨b, 0, none⟩ u).setCell ⟨b, 1, none⟩ v).setCell ⟨b, 2, none⟩ t).cell? a = some x :=
  (frm_set3 w b u v t).cell (fun e => hb e) h
/-- One kid more. -/
theorem KidI.push {w0 w W5 wr w7 W6 w' : World} {p b5 f K L Lj : Nat} {s o r9 : List UInt8} {v v' A7 : Value} {css : List (List Value)} {o7 : ByteArray} {n7 : Int} {ts : List Ty} {z : Obj}
    (hI : KidI w0 w W5 wr p b5 f K L s o css.length true v css) (hF7 : Frm (· = p) (wr.alloc z) w7) (hp : p < w.heap.size) (hb5 : w.heap.size < b5) (h5 : b5 < W5.heap.size) (hjK : css.length < K)
    (hW6 : W6 = World.alloc (((w7.setCell ⟨wr.heap.size, 0, none⟩ (.string o7)).setCell ⟨wr.heap.size, 1, none⟩ (.int .i64 n7)).setCell ⟨wr.heap.size, 2, none⟩ A7) (.cells #[.string o7, .int .i64 n7, A7] 26))
    (hrow : Row3 W5 wr v css f ts) (hLj : Lj ≤ L) (htl : ts.length = css.length)
    (hrest : Em.rdL (Em.rd f) K L s = (match Em.rdL (Em.rd f) (K - css.length) Lj r9 with | none => none | some (us, L', r') => some (ts ++ us, L', r')))
    (hY : ∀ t L' r, Em.rd f Lj r9 = some (t, L', r) → TyF (fun k => (wr.alloc z).heap.size ≤ k ∧ k < w7.heap.size) f w7 [.string o7, .int .i64 n7, A7] t ∧
      ∃ A' c', Bs w0 (.slice A' r.length c') r ∧ w7.heap[p]? = some (.cells #[.slice A' r.length c', .int .i64 (L' : Int)] 111))
    (ha : App W6 W5.heap.size 26 3 v (css.length + 1) (css.flatten ++ [.string o7, .int .i64 n7, A7]) v' w') :
    w'.heap[b5]? = some (.cells #[.string (str o), .int .i64 0, v] 26) ∧ KidI w0 w W5 (w'.setCell ⟨b5, 2, none⟩ v') p b5 f K L s o (css.length + 1) (Em.rd f Lj r9).isSome v' (css ++ [[.string o7, .int .i64 n7, A7]]) := by
  have hsz : W5.heap.size ≤ wr.heap.size := hI.size
  have hown : ∀ k, v.ownBlock = some k → W5.heap.size ≤ k ∧ k < wr.heap.size := World.ownsRow.lt hI.own
  have F76 : Frm (· = wr.heap.size) w7 W6 := by rw [hW6]; exact (frm_set3 w7 wr.heap.size (.string o7) (.int .i64 n7) A7).al _
  have F7 : Frm (· = p) wr w7 := (((Keep.rf wr).al z).frm fun k => k = p).tr hF7
  have F6 : Frm (· = p) wr W6 := F7.trn F76 fun i e => .inr (by have e : i = wr.heap.size := e; omega)
  have Fa : Frm (fun k => v.ownBlock = some k) W6 w' := Frm.of_grown ha.2.1 fun _ e => e
  have FS : Frm (· = b5) w' (w'.setCell ⟨b5, 2, none⟩ v') := Frm.st (S := (· = b5)) (p := ⟨b5, 2, none⟩) (Frm.rf _ w') (.inl rfl) _
  have hz7 : wr.heap.size < w7.heap.size := by have := hF7.size; simp at this; omega
  have blk' : w'.heap[b5]? = some (.cells #[.string (str o), .int .i64 0, v] 26) := Fa.heap (fun e => by have := hown _ e; omega) (F6.heap (fun e => by have e : b5 = p := e; omega) hI.blk)
  have own2 : w'.ownsRow W5.heap.size 26 3 v' (css ++ [[.string o7, .int .i64 n7, A7]]).length (css ++ [[.string o7, .int .i64 n7, A7]]).flatten := by simpa using ha.1
  have hv' : ∀ k, v'.ownBlock = some k → W5.heap.size ≤ k := fun k hk => (World.ownsRow.lt own2 k hk).1
  have hFw : Frm (· = p) w (w'.setCell ⟨b5, 2, none⟩ v') :=
    ((hI.frm.trn F6 fun i e => .inl e).trn Fa fun i e => .inr (by have := hown _ e; have := hI.frm.size; omega)).trn FS fun i e => .inr (by have e : i = b5 := e; omega)
  have hs2 : W6.heap.size ≤ w'.heap.size := Fa.size
  have hs1 : wr.heap.size ≤ W6.heap.size := F6.size
  refine ⟨blk', FS.own own2 fun q hq e => by have e : q = b5 := e; have := hv' q hq; omega, heap_setT (j := 2) blk' v', ?_, hFw, by rw [size_set]; omega, fun h => ?_, fun h => ?_⟩
  · exact FS.heap (fun e => by have e : w.heap.size = b5 := e; omega) (Fa.heap (fun e => by have := hown _ e; omega) (F6.heap (fun e => by have e : w.heap.size = p := e; omega) hI.zero))
  · rw [hrest, show K - css.length = (K - (css.length + 1)) + 1 by omega, Em.rdL]
    cases hx : Em.rd f Lj r9 with
    | none => rfl
    | some y => rw [hx] at h; cases h
  · cases hx : Em.rd f Lj r9 with
    | none => rw [hx] at h; cases h
    | some y =>
      obtain ⟨t, L', r⟩ := y
      obtain ⟨ht, A', c', hbs, hp7⟩ := hY t L' r hx
      have hle := rd_le f _ _ _ _ _ hx
      have hr6 : Row3 W5 W6 v css f ts := hrow.frm F6 fun i e => by have e : i = p := e; omega
      have ht6 : TyF (fun k => (wr.alloc z).heap.size ≤ k ∧ k < w7.heap.size) f W6 [.string o7, .int .i64 n7, A7] t := ht.frm F76 fun k hk e => by
        have e : k = wr.heap.size := e
        have := hk.1
        simp at this
        omega
      have hps := hr6.push (cs := [.string o7, .int .i64 n7, A7]) (t := t) rfl ht6 (fun k hk => by
        have h1 := hk.1
        have h2 := F76.size
        simp at h1
        exact ⟨by omega, by omega, fun e => by have := hown _ e; omega⟩) ha
      refine ⟨A', c', r, L', ts ++ [t], FS.heap (fun e => by have e : p = b5 := e; omega) (Fa.heap (fun e => by have := hown _ e; omega) (F76.heap (fun e => by have e : p = wr.heap.size := e; omega) hp7)), hbs, by omega, hps.frm FS fun i e => by have e : i = b5 := e; omega, by simp [htl], ?_⟩
      rw [hrest, show K - css.length = (K - (css.length + 1)) + 1 by omega, Em.rdL, hx]
      simp only
      cases Em.rdL (Em.rd f) (K - (css.length + 1)) L' r with
      | none => rfl
      | some q =>
        obtain ⟨us, L2, r2⟩ := q
        simp
/-- All kids are there, or one was none. -/
theorem KidI.done {w0 w W5 wr : World} {p b5 f K L : Nat} {s o l : List UInt8} {v : Value} {j : Nat} {b : Bool} {css : List (List Value)}
    (hI : KidI w0 w W5 wr p b5 f K L s o j b v css) (hp : p < w.heap.size) (h5 : w.heap.size < W5.heap.size) (hj : b = true → j = K)
    (hr : Em.rd (f + 1) (L + 1) l = match Em.rdL (Em.rd f) K L s with
        | none => none
        | some (ts, L', r2) => some (.mk o 0 ts, L', r2)) :
    NodeR w0 w p (f + 1) (L + 1) l (.returned (.tuple #[.agg #[.string (str o), .int .i64 0, v], .bool b])) (((wr.setCell ⟨w.heap.size, 0, none⟩ (.string (str o))).setCell ⟨w.heap.size, 1, none⟩ (.int .i64 0)).setCell ⟨w.heap.size, 2, none⟩ v) := by
  obtain ⟨A, c, e⟩ := own_slice hI.own
  have F8 := frm_set3 wr w.heap.size (.string (str o)) (.int .i64 0) v
  have hF := hI.frm.trn F8 fun i e => .inr (by have e : i = w.heap.size := e; omega)
  cases b with
  | false =>
    subst e
    exact NodeR.no (by rw [hr, hI.no rfl]) _ _ _ _ _ rfl hF
  | true =>
    obtain ⟨A9, c9, r9, Lj, ts, hpj, hbj, hLj, hrow, htl, hrest⟩ := hI.yes rfl
    have hjK := hj rfl
    rw [hjK, Nat.sub_self, Em.rdL] at hrest
    simp only [List.append_nil] at hrest
    rw [hrest] at hr
    simp only at hr
    have hr2 := hrow.frm F8 fun i e => by have e : i = w.heap.size := e; omega
    have hs2 := hI.frm.size
    have hlt : ∀ k, v.ownBlock = some k → W5.heap.size ≤ k ∧ k < wr.heap.size := World.ownsRow.lt hI.own
    have hsz : (((wr.setCell ⟨w.heap.size, 0, none⟩ (.string (str o))).setCell ⟨w.heap.size, 1, none⟩ (.int .i64 0)).setCell ⟨w.heap.size, 2, none⟩ v).heap.size = wr.heap.size := by simp only [size_set]
    subst e
    refine ⟨_, _, _, _, _, by rw [hr]; rfl, hF, fun t L' r e => ?_⟩
    rw [hr] at e
    injection e with e
    injection e with e1 e
    injection e with e2 e3
    subst e1 e2 e3
    refine ⟨⟨_, rfl, (show (Lit.int .i64 0).wf = true from by decide), fun k hk => ?_, hr2.sl.mono fun _ _ h => h.mono fun k hk => ⟨by omega, hk.2⟩⟩, A9, c9, hbj, F8.heap (fun e => by have e : p = w.heap.size := e; omega) hpj⟩
    have := hlt k hk
    rw [hsz]
    exact ⟨by omega, this.2⟩
set_option maxHeartbeats 8000000 in
theorem markNode (w0 : World) (f : Nat) : ∀ (L : Nat) (l : List UInt8) (w : World) (p : Nat) (v : Value), L ≤ f → L ≤ 2000 → Keep w0 w → w0.heap.size ≤ p → w.heap[p]? = some (.cells #[v, .int .i64 (L : Int)] 111) → Bs w0 v l →
    Calls Try.prog 85 #[.pointer (some ⟨p, 0, none⟩)] w (NodeR w0 w p f L l) := by
  induction f with
  | zero => intro L l w p v hL h2 hk hp hb hs; exact markNode0 w0 w p 0 L v l hk hb hs (.inr (by omega))
  | succ f ih =>
    intro L l w p v hL h2 hk hp0 hb hs
    cases L with
    | zero => exact markNode0 w0 w p _ 0 v l hk hb hs (.inr rfl)
    | succ L =>
    cases l with
    | nil => exact markNode0 w0 w p _ _ v [] hk hb hs (.inl rfl)
    | cons x s =>
    by_cases hxc : x.toNat < 1 ∨ 11 ≤ x.toNat
    · exact markNodeB w0 w p _ L v x s hk hp0 hb hs (by omega) hxc
    have hrd : Em.rd (f + 1) (L + 1) (x :: s) = match Em.rdV (Em.opAt x.toNat) s with
      | none => none
      | some (n, r1) => match Em.rdL (Em.rd f) (Em.kidN (Em.opAt x.toNat)) L r1 with
        | none => none
        | some (ts, L', r2) => some (.mk (Em.opAt x.toNat) n ts, L', r2) := by
      rw [Em.rd, if_neg (by omega)]
      rfl
    have HRD := hide hrd
    have IH := hide ih
    obtain ⟨hxl, hxo⟩ := in_opsL x.toNat (by omega)
    have hs0 := hs
    obtain ⟨A, c, rfl, q1, q2, _⟩ := hs
    obtain ⟨-, ad, rfl, hx0⟩ := bs_first hs0
    have hx := Keep.cell hk hx0
    have hp := (Array.getElem?_eq_some_iff.1 hb).1
    have HLE := hide (show (x :: s).length = 1 + s.length from by rw [List.length_cons]; omega)
    have c0 := top_cells hb 0
    have c1 := top_cells hb 1
    have f0 := top_free hb 0
    have f1 := top_free hb 1
    simp only [List.getElem?_toArray, List.getElem?_cons_succ, List.getElem?_cons_zero, List.length_cons, Int.natCast_add, Int.cast_ofNat_Int] at c0 c1 q1
    have HB := hide hb
    have HS := hide hs0
    have x256 : x.toNat < 256 := x.toNat_lt
    have hxa : (w.alloc (.cells #[.string ⟨#[]⟩, .int .i64 0, .slice none 0 0] 26)).cell? ad = some (.int .u8 (x.toNat : Int)) := Keep.cell (Keep.al (Keep.rf _) _) hx
    clear hb hx0 hs0 hx hrd ih
    generalize hxn : x.toNat = xn at *
    have hK2 := kidN_le (Em.opAt xn)
    generalize Em.opAt xn = o at *
    have g1 : ((s.length : Int) + 1 == 0) = false := by simp; omega
    have g2 : ((L : Int) + 1 == 0) = false := by simp; omega
    have g3 : decide ((xn : Int) < 1) = false := by simp; omega
    have g4 : decide ((xn : Int) < 11) = true := by simp; omega
    go_enter Try.func85, Try.ntmps85
    go_wp2_with (first
        | (refine slFrom0 rfl (.tmp 34) (.const (.int .i64 1)) _ _ rfl Try.underlying29 sizeB8 _ _ rfl HS.out _ _ rfl 1 rfl _ HLE.out ?_; intro A1 c1 hd hd1 hd2)
        | fail)
    have hF := (frm_two w p (.slice A1 s.length c1) (.int .i64 L)).al (.cells #[.string ⟨#[]⟩, .int .i64 0, .slice none 0 0] 26)
    have hn : (World.alloc ((w.setCell ⟨p, 0, none⟩ (.slice A1 s.length c1)).setCell ⟨p, 1, none⟩ (.int .i64 L)) (.cells #[.string ⟨#[]⟩, .int .i64 0, .slice none 0 0] 26)).heap[w.heap.size]? = some (.cells #[.string ⟨#[]⟩, .int .i64 0, .slice none 0 0] 26) := new_behind (by simp only [size_set]) _
    have hpb : (World.alloc ((w.setCell ⟨p, 0, none⟩ (.slice A1 s.length c1)).setCell ⟨p, 1, none⟩ (.int .i64 L)) (.cells #[.string ⟨#[]⟩, .int .i64 0, .slice none 0 0] 26)).heap[p]? = some (.cells #[.slice A1 s.length c1, .int .i64 L] 111) :=
      ((Keep.al (Keep.rf _) _).frm fun _ => False).heap (fun h => h) (heap_setT (j := 1) (heap_setT (j := 0) HB.out (.slice A1 s.length c1)) (.int .i64 L))
    clear hxa
    generalize World.alloc (World.setCell _ _ _) _ = W1 at *
    refine (markOps W1).mono ?_
    rintro e w2 ⟨A2, c2, rfl, hs2, k2⟩
    go_wp2_with fail
    refine (markOps w2).mono ?_
    rintro e w3 ⟨A3, c3, rfl, hs3, k3⟩
    obtain ⟨A3', c3', e3, -, -, hr3⟩ := hs3
    injection e3 with e31 e32 e33
    subst e31 e33
    obtain ⟨ad3, rfl, hcell3⟩ := hr3 (by decide)
    obtain ⟨cs3, hcs3, hcl3, hkt3⟩ := hcell3 xn hxl
    have hkt3 : cs3 = [.string (str Em.opsL[xn])] := hkt3
    subst hkt3
    have c9 := hcl3 0 _ rfl
    rw [Nat.add_zero, Nat.mul_one, hxo] at c9
    have k13 := Keep.tr k2 k3
    have hn3 := (k13.frm fun _ => False).heap (fun h => h) hn
    have hp3 := (k13.frm fun _ => False).heap (fun h => h) hpb
    have hF3 := hF.tr (k13.frm _)
    have hS1 : Bs w0 (.slice A1 s.length c1) s := by simpa using hd
    have hlt3 := (Array.getElem?_eq_some_iff.1 hn3).1
    clear hn hpb hF hs2 hr3 hcell3 hcl3 hcs3 k13 k2 k3 hd e32 hxo hkt3 hxl
    by_cases hv : o = Em.wVar
    · subst hv
      have h1c : ((str Em.wVar).toList == [118, 97, 114]) = true := by rw [opB]; exact decide_eq_true rfl
      go_wp2_with fail
      have hn4 : (w3.alloc (.cells #[.string (str Em.wVar), .int .i64 0, .slice none 0 0] 26)).heap[w.heap.size]? = _ := ((Keep.al (Keep.rf _) _).frm fun _ => False).heap (fun h => h) hn3
      have hp4 : (w3.alloc (.cells #[.string (str Em.wVar), .int .i64 0, .slice none 0 0] 26)).heap[p]? = _ := ((Keep.al (Keep.rf _) _).frm fun _ => False).heap (fun h => h) hp3
      have hb4 := heap_alloc_new w3 (.cells #[.string (str Em.wVar), .int .i64 0, .slice none 0 0] 26)
      have hF4 := hF3.al (.cells #[.string (str Em.wVar), .int .i64 0, .slice none 0 0] 26)
      have hs3 := hF3.size
      generalize World.alloc _ _ = w4 at *
      have hnn := markNumber w0 w4 p _ L s (Frm.keep hk hF4 fun i e => by have e : i = p := e; omega) hp4 hS1
      refine hnn.mono ?_
      rintro e w5 hN
      have hrdv : Em.rdV Em.wVar s = Em.rdN s := by rw [Em.rdV, if_pos rfl]
      have hk0 : Em.kidN Em.wVar = 0 := by decide
      obtain ⟨n, b, rfl, hF45, hNO, hYES⟩ : ∃ (n : Int) (b : Bool), e = .returned (.tuple #[.int .i64 n, .bool b]) ∧ Frm (· = p) w4 w5 ∧ (b = false → Em.rd (f + 1) (L + 1) (x :: s) = none) ∧
          (b = true → (Lit.int .i64 n).wf = true ∧ ∃ r A c, Em.rd (f + 1) (L + 1) (x :: s) = some (.mk Em.wVar n [], L, r) ∧ Bs w0 (.slice A r.length c) r ∧ w5.heap[p]? = some (.cells #[.slice A r.length c, .int .i64 (L : Int)] 111)) := by
        unfold NumR at hN
        cases hrn : Em.rdN s with
        | none =>
          rw [hrn] at hN
          obtain ⟨rfl, k5⟩ := hN
          exact ⟨_, _, rfl, k5.frm _, fun _ => by rw [HRD.out, hrdv, hrn], fun h => by cases h⟩
        | some nr =>
          obtain ⟨n, r⟩ := nr
          rw [hrn] at hN
          obtain ⟨rfl, A9, c9, hb9, hp9, hf9⟩ := hN
          have hn2 : n ≤ 2000 := by
            unfold Em.rdN at hrn
            split at hrn
            · cases hrn
            · split at hrn
              · cases hrn
              · injection hrn with hrn
                injection hrn with h1 h2
                omega
          exact ⟨(n : Int), true, rfl, hf9, (fun h => by cases h), fun _ => ⟨by simp [Lit.wf, IntKind.min, IntKind.max, IntKind.bits, IntKind.signed]; omega, r, A9, c9, by rw [HRD.out, hrdv, hrn]; simp only; rw [hk0]; rfl, hb9, hp9⟩⟩
      have hpn : w.heap.size ≠ p := by omega
      have hp5 : w3.heap.size ≠ p := by omega
      have hb5 := hF45.heap (fun e => hp5 e) hb4
      have hn5 := hF45.heap (fun e => hpn e) hn4
      have hF5 := hF4.tr hF45
      have x0 := top_cells hb5 0
      have x1 := top_cells hb5 1
      have x2 := top_cells hb5 2
      have y1 := top_free hb5 1
      simp only [List.getElem?_toArray, List.getElem?_cons_succ, List.getElem?_cons_zero] at x0 x1 x2
      have HB5 := hide hb5
      have HN5 := hide hn5
      have HF5 := hide hF5
      have HNO := hide hNO
      have HYES := hide hYES
      have HOK := markKids Em.wVar
      rw [hk0] at HOK
      have h35 : w3.heap.size < w5.heap.size := (Array.getElem?_eq_some_iff.1 hb5).1
      clear hrdv hn3 hp3 hF3 hn4 hp4 hb4 hF4 hnn hN hF45 hb5 hn5 hF5 c9 hNO hYES hk0
      go_wp2_with fail
      go_loopw [6, 7] (fun ok i W => ok = .bool b ∧ i = .int .i64 0 ∧ W = w5.setCell ⟨w3.heap.size, 1, none⟩ (.int .i64 n)) (fun _ _ _ => 0)
      case atStart => exact ⟨rfl, rfl, rfl⟩
      case round =>
        obtain ⟨rfl, rfl, hW6⟩ := hrel
        have hb6 : wr.heap[w3.heap.size]? = some (.cells #[.string (str Em.wVar), .int .i64 n, .slice none 0 0] 26) := by rw [hW6]; exact heap_setT (j := 1) HB5.out (.int .i64 n)
        have hF56 : Frm (· = w3.heap.size) w5 wr := by rw [hW6]; exact Frm.st (S := (· = w3.heap.size)) (p := ⟨w3.heap.size, 1, none⟩) (Frm.rf _ w5) (.inl rfl) _
        clear hW6 x0 x1 x2 y1
        have hn6 := hF56.heap (fun e => by have e : w.heap.size = w3.heap.size := e; omega) HN5.out
        have hF6 := HF5.out.trn hF56 fun i e => .inr (by have e : i = w3.heap.size := e; omega)
        have x0 := top_cells hb6 0
        have x1 := top_cells hb6 1
        have x2 := top_cells hb6 2
        have y0 := top_cells hn6 0
        have y1 := top_cells hn6 1
        have y2 := top_cells hn6 2
        have z0 := top_free hn6 0
        have z1 := top_free hn6 1
        have z2 := top_free hn6 2
        simp only [List.getElem?_toArray, List.getElem?_cons_succ, List.getElem?_cons_zero] at x0 x1 x2 y0 y1 y2
        have HN6 := hide hn6
        have HF6 := hide hF6
        have HF56 := hide hF56
        clear hb6 hF56 hn6 hF6
        go_wp2_with fail
        refine (HOK _).mono ?_
        rintro e w' ⟨rfl, rfl⟩
        go_wp2_with fail
        refine bodyPost_ret_by (results_cell2 rfl _ _ w.heap.size 26 _ (0, 0) _ rfl (heap_set3 HN6.out _ _ _) Try.underlying26 rfl ?_) rfl ?_
        · kernel_rfl
        · have hF := HF6.out.trn (frm_set3 wr w.heap.size (.string (str Em.wVar)) (.int .i64 n) (.slice none 0 0)) fun i e => .inr (by have e : i = w.heap.size := e; omega)
          cases b with
          | false => exact NodeR.no (HNO.out rfl) _ _ _ _ _ rfl hF
          | true =>
            obtain ⟨hwf, r, A9, c9, hr, hb9, hp9⟩ := HYES.out rfl
            refine ⟨_, _, _, _, _, by rw [hr]; rfl, hF, fun t L' r' e => ?_⟩
            rw [hr] at e
            injection e with e
            injection e with e1 e
            injection e with e2 e3
            subst e1 e2 e3
            exact ⟨⟨_, rfl, hwf, (fun k hk => by cases hk), Sl.nil _⟩, A9, c9, hb9, (frm_set3 _ _ _ _ _).heap (fun e => hpn e.symm) (HF56.out.heap (fun e => hp5 e.symm) hp9)⟩
    · have h1c : ((str o).toList == [118, 97, 114]) = false := by rw [opB]; exact decide_eq_false hv
      have hrdv : Em.rdV o s = some (0, s) := by rw [Em.rdV, if_neg hv]
      have hrd2 : Em.rd (f + 1) (L + 1) (x :: s) = match Em.rdL (Em.rd f) (Em.kidN o) L s with
        | none => none
        | some (ts, L', r2) => some (.mk o 0 ts, L', r2) := by
        rw [HRD.out, hrdv]
        rfl
      have HR2 := hide hrd2
      have HOK := markKids o
      generalize Em.kidN o = K at *
      have hn4 : (w3.alloc (.cells #[.string (str o), .int .i64 0, .slice none 0 0] 26)).heap[w.heap.size]? = _ := ((Keep.al (Keep.rf _) _).frm fun _ => False).heap (fun h => h) hn3
      have hp4 : (w3.alloc (.cells #[.string (str o), .int .i64 0, .slice none 0 0] 26)).heap[p]? = _ := ((Keep.al (Keep.rf _) _).frm fun _ => False).heap (fun h => h) hp3
      have hb4 := heap_alloc_new w3 (.cells #[.string (str o), .int .i64 0, .slice none 0 0] 26)
      have hF4 := hF3.al (.cells #[.string (str o), .int .i64 0, .slice none 0 0] 26)
      have h34 : w3.heap.size < (w3.alloc (.cells #[.string (str o), .int .i64 0, .slice none 0 0] 26)).heap.size := by simp
      have hst : KidI w0 w (w3.alloc (.cells #[.string (str o), .int .i64 0, .slice none 0 0] 26)) (w3.alloc (.cells #[.string (str o), .int .i64 0, .slice none 0 0] 26)) p w3.heap.size f K L s o 0 true (.slice none 0 0) [] :=
        ⟨(Row3.nil _ _ 0).own, hb4, hn4, hF4, Nat.le_refl _, (fun h => by cases h), fun _ => ⟨A1, c1, s, L, [], hp4, hS1, Nat.le_refl _, Row3.nil _ _ _, rfl, by rw [Nat.sub_zero]; cases Em.rdL (Em.rd f) K L s <;> rfl⟩⟩
      have HST := hide hst
      have H34 := hide h34
      clear hrdv hrd2 hn3 hp3 hF3 hn4 hp4 hb4 hF4 hS1 hst h34
      go_wp2_with fail
      generalize World.alloc w3 _ = W5 at *
      go_loopw [6, 7] (fun ok i W => ∃ (j : Nat) (b : Bool) (v : Value) (css : List (List Value)), ok = .bool b ∧ i = .int .i64 j ∧ j ≤ K ∧ css.length = j ∧ KidI w0 w W5 W p w3.heap.size f K L s o j b v css) (fun _ i _ => K - (intOf i).toNat)
      case atStart => exact ⟨0, true, _, [], rfl, rfl, Nat.zero_le _, rfl, HST.out⟩
      case round =>
        clear HST
        obtain ⟨j, b, v, css, rfl, rfl, hj, hcl, hI⟩ := hrel
        subst hcl
        obtain ⟨rA, rc, rfl⟩ := own_slice hI.own
        have HI := hide hI
        have hsz := hI.size
        have x0 := top_cells hI.blk 0
        have x1 := top_cells hI.blk 1
        have x2 := top_cells hI.blk 2
        have y0 := top_cells hI.zero 0
        have y1 := top_cells hI.zero 1
        have y2 := top_cells hI.zero 2
        have z0 := top_free hI.zero 0
        have z1 := top_free hI.zero 1
        have z2 := top_free hI.zero 2
        simp only [List.getElem?_toArray, List.getElem?_cons_succ, List.getElem?_cons_zero] at x0 x1 x2 y0 y1 y2
        have HN := hide hI.zero
        have h34 := H34.out
        clear hI
        go_wp2_with fail
        refine (HOK _).mono ?_
        rintro e w' ⟨rfl, rfl⟩
        by_cases hjK : css.length < K
        · have g5 : decide ((css.length : Int) < (K : Int)) = true := by simp; omega
          cases b with
          | true =>
            go_wp2_with fail
            obtain ⟨A9, c9, r9, Lj, ts, hpj, hbj, hLj, hrow, htl, hrest⟩ := HI.out.yes rfl
            have hF6 := HI.out.frm.al (.cells #[.string ⟨#[]⟩, .int .i64 0, .slice none 0 0] 26)
            have hp6 := ((Keep.al (Keep.rf wr) (.cells #[.string ⟨#[]⟩, .int .i64 0, .slice none 0 0] 26)).frm fun _ => False).heap (fun h => h) hpj
            have hblk6 := ((Keep.al (Keep.rf wr) (.cells #[.string ⟨#[]⟩, .int .i64 0, .slice none 0 0] 26)).frm fun _ => False).heap (fun h => h) HI.out.blk
            have hz6 := heap_alloc_new wr (.cells #[.string ⟨#[]⟩, .int .i64 0, .slice none 0 0] 26)
            have hk6 := Frm.keep hk hF6 fun i e => by have e : i = p := e; omega
            refine (IH.out Lj r9 _ p _ (by omega) (by omega) hk6 hp0 hp6 hbj).mono ?_
            rintro e w7 ⟨o7, n7, A7, m7, c7, rfl, hF7, hY7⟩
            have hblk7 := hF7.heap (fun e => by have e : w3.heap.size = p := e; omega) hblk6
            have hz7 := hF7.heap (fun e => by have e : wr.heap.size = p := e; omega) hz6
            have v2 := top_cells hblk7 2
            have v3 := top_free hblk7 2
            have t0 := top_cells hz7 0
            have t1 := top_cells hz7 1
            have t2 := top_cells hz7 2
            have q0 := top_free hz7 0
            have q1 := top_free hz7 1
            have q2 := top_free hz7 2
            simp only [List.getElem?_toArray, List.getElem?_cons_succ, List.getElem?_cons_zero] at v2 t0 t1 t2
            have HY7 := hide hY7
            have HF7 := hide hF7
            have HR0 := hide hrest
            have HROW := hide hrow
            have HBLK7 := hide hblk7
            have HZ7 := hide hz7
            have hpw : p < w.heap.size := hp
            have hw7 : wr.heap.size < w7.heap.size := by have := HF7.out.size; simp at this; omega
            have hwb : w.heap.size < w3.heap.size := hlt3
            have hown9 : (World.alloc (((w7.setCell ⟨wr.heap.size, 0, none⟩ (.string o7)).setCell ⟨wr.heap.size, 1, none⟩ (.int .i64 n7)).setCell ⟨wr.heap.size, 2, none⟩ (.slice A7 m7 c7)) (.cells #[.string o7, .int .i64 n7, .slice A7 m7 c7] 26)).ownsRow W5.heap.size 26 3 (.slice rA css.length rc) css.length css.flatten :=
              (((HF7.out.mono (T := fun k => k = p ∨ k = wr.heap.size) fun k _ e => .inl e).trn ((frm_set3 w7 wr.heap.size (.string o7) (.int .i64 n7) (.slice A7 m7 c7)).al (.cells #[.string o7, .int .i64 n7, .slice A7 m7 c7] 26)) (T := fun k => k = wr.heap.size) (S := fun k => k = p ∨ k = wr.heap.size) (fun i e => .inl (.inr e))).own (own_keep HI.out.own ((Keep.rf wr).al _)) fun q hq e => by
                have := World.ownsRow.lt HI.out.own q hq
                omega)
            clear hY7 hF7 hrest hrow hblk7 hz7 hp6 hblk6 hz6 hF6 hk6 hpj hbj
            generalize hb7 : (Em.rd f Lj r9).isSome = b7
            go_wp2_with (first
              | (at_builtin; go_loud (refine wpList_app rfl (.tmp 84) (.tmp 86) 24 rfl W5.heap.size 26 _ 3 48 Try.underlying24 typeInfo rfl (by omega) _ css.length css.flatten rfl hown9 _ 1 [.string o7, .int .i64 n7, .slice A7 m7 c7] rfl (src_new _ _ _ _ _ (by simp only [size_set])) (one_type _ _ _ _ _) (by simp only [maxLen]; omega) (by omega) (by simp only [size_alloc, size_set]; omega) ?_; intro v' w' ha; obtain ⟨vA, vc, rfl⟩ := own_slice ha.1; have hpu := HI.out.push HF7.out hpw hwb h34 hjK rfl HROW.out hLj htl HR0.out HY7.out ha; rw [hb7] at hpu; have yc := top_cells hpu.1 2; have yf := top_free hpu.1 2; simp only [List.getElem?_toArray, List.getElem?_cons_succ, List.getElem?_cons_zero] at yc; have HPU := hide hpu.2; clear hpu ha hown9; generalize hwx : World.alloc (World.setCell _ _ _) _ = W6 at *))
              | fail)
            go_roundw
            case rel => exact ⟨css.length + 1, b7, _, css ++ [[.string o7, .int .i64 n7, .slice A7 m7 c7]], rfl, by go_num, by omega, by simp, HPU.out⟩
            case measure => simp [intOf]; omega
          | false =>
            go_wp2_with fail
            refine bodyPost_ret_by (results_cell2 rfl _ _ w.heap.size 26 _ (0, 0) _ rfl (heap_set3 HN.out _ _ _) Try.underlying26 rfl ?_) rfl ?_
            · kernel_rfl
            · exact HI.out.done hp (by omega) (fun h => by cases h) HR2.out
        · have g5 : decide ((css.length : Int) < (K : Int)) = false := by simp; omega
          go_wp2_with fail
          refine bodyPost_ret_by (results_cell2 rfl _ _ w.heap.size 26 _ (0, 0) _ rfl (heap_set3 HN.out _ _ _) Try.underlying26 rfl ?_) rfl ?_
          · kernel_rfl
          · exact HI.out.done hp (by omega) (fun _ => by omega) HR2.out
end Go.Proofs.Ytcbkklfdeloeeaa
