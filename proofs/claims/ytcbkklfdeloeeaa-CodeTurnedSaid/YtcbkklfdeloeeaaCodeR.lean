/- Walk: bytes read as a program (package code). -/
import Derived.Test.YtcbkklfdeloeeaaCodeQ
import Derived.Test.YtcbkklfdeloeeaaLibE
import Derived.Deep.DeepCutAuto
import Derived.Deep.CutBlock
import Derived.Deep.Cut
namespace Go.Proofs.Ytcbkklfdeloeeaa
open Go.RowKit
open Em (Prg)
set_option linter.unusedVariables false
set_option linter.unusedSimpArgs false
set_option maxRecDepth 100000
theorem strInfo : (Try.prog.info? 9).map (fun i => (i.zero, i.size, i.bytes)) = some (some (.string ByteArray.empty), 1, 16) := by kernel_rfl
theorem insInfo : (Try.prog.info? 91).map (fun i => (i.zero, i.size, i.bytes)) = some (some (.agg #[.int .i64 0, .int .i64 0]), 2, 16) := by kernel_rfl
theorem funInfo : (Try.prog.info? 89).map (fun i => (i.zero, i.size, i.bytes)) = some (some (.slice none 0 0), 1, 24) := by kernel_rfl
abbrev noPrg : Prg := ⟨0, [], []⟩
theorem noPrg_k (w : World) : PrgK w [.int .i64 0, .slice none 0 0, .slice none 0 0] noPrg := ⟨_, _, rfl, by decide, Sl.nil _, Sl.nil _⟩
theorem noPrg_in : PrgIn noPrg := fun f hf => by cases hf
/-- What Read gives. -/
def ReadPR (w : World) (l : List UInt8) (e : Ending) (w' : World) : Prop :=
  ∃ d fA fn fc sA sn sc, e = .returned (.tuple #[.agg #[.int .i64 d, .slice fA fn fc, .slice sA sn sc], .bool (Em.readP l).isSome]) ∧ Keep w w' ∧ PrgK w' [.int .i64 d, .slice fA fn fc, .slice sA sn sc] ((Em.readP l).getD noPrg) ∧ PrgIn ((Em.readP l).getD noPrg)
theorem ReadPR.no {w w' : World} {l : List UInt8} (h : Em.readP l = none) (k : Keep w w') : ReadPR w l (.returned (.tuple #[.agg #[.int .i64 0, .slice none 0 0, .slice none 0 0], .bool false])) w' :=
  ⟨_, _, _, _, _, _, _, by rw [h]; rfl, k, by rw [h]; exact noPrg_k w', by rw [h]; exact noPrg_in⟩
theorem ReadPR.yes {w w' : World} {l : List UInt8} {p : Prg} {d : Int} {fA : Option Addr} {fn fc : Nat} {sA : Option Addr} {sn sc : Nat} (h : Em.readP l = some p) (k : Keep w w') (hp : PrgK w' [.int .i64 d, .slice fA fn fc, .slice sA sn sc] p) : ReadPR w l (.returned (.tuple #[.agg #[.int .i64 d, .slice fA fn fc, .slice sA sn sc], .bool true])) w' :=
  ⟨_, _, _, _, _, _, _, by rw [h]; rfl, k, by rw [h]; exact hp, by rw [h]; exact rdP_in (readP_some h).1⟩
/-- What a region's operations may change. -/
def TPC (p : Nat) (v : Value) (k : Nat) : Prop := k = p ∨ v.ownBlock = some k
/-- A count was read. -/
def CntAt (tt : Nat) (w wr : World) (p most : Nat) (st : Option (List UInt8)) (W : World) (v : Value) : Prop := v = .int .i64 (cntV most st : Int) ∧ StC tt w W p ((cntS most st).map fun x => x.2) ∧ Frm (· = p) wr W
theorem CntAt.keep {tt : Nat} {w wr W W' : World} {p most : Nat} {st : Option (List UInt8)} {v : Value} (h : CntAt tt w wr p most st W v) (k : Keep W W') : CntAt tt w wr p most st W' v := ⟨h.1, h.2.1.keep k, h.2.2.tr (k.frm _)⟩
/-- A text's bytes were taken. -/
def TexAt (tt : Nat) (w wr : World) (p : Nat) (st : Option (List UInt8)) (W : World) (v : Value) : Prop :=
  ∃ A m c x, v = .slice A m c ∧ Bs w (.slice A m c) x ∧ x.length ≤ 2000 ∧ (∀ t r, texS st = some (t, r) → x = t) ∧ StC tt w W p ((texS st).map fun x => x.2) ∧ Frm (· = p) wr W
theorem TexAt.keep {tt : Nat} {w wr W W' : World} {p : Nat} {st : Option (List UInt8)} {v : Value} (h : TexAt tt w wr p st W v) (k : Keep W W') : TexAt tt w wr p st W' v := by
  obtain ⟨A, m, c, x, h1, h2, h3, h4, h5, h6⟩ := h
  exact ⟨A, m, c, x, h1, h2, h3, h4, h5.keep k, h6.tr (k.frm _)⟩
/-- A text. -/
def SAt (st : Option (List UInt8)) (v : Value) : Prop := ∃ x, v = sv x ∧ x.length ≤ 2000 ∧ ∀ t r, texS st = some (t, r) → x = t
/-- A value alone in a row of its own. -/
def LoneV (tt : Nat) (u : Value) (W : World) (v : Value) : Prop := ∃ g, v = .slice (some ⟨g, 0, none⟩) 1 1 ∧ W.heap[g]? = some (.cells #[u] tt)
theorem src1 {W : World} {g : Nat} {u : Value} {t : TypeId} (h : W.heap[g]? = some (.cells #[u] t)) : Src W 1 (.slice (some ⟨g, 0, none⟩) 1 1) 1 [u] :=
  ⟨rfl, _, _, rfl, fun _ => ⟨_, rfl, fun j x hx => by
    rw [add_pl, top_cells h, List.getElem?_toArray]
    exact hx⟩⟩
theorem src_lit (W : World) (n : Nat) (us : List Value) {t : TypeId} {sz : Nat} (h : W.heap.size = n) (hs : us.length = 1 * sz) : Src (W.alloc (.cells us.toArray t)) sz (.slice (some ⟨n, 0, none⟩) 1 1) 1 us := by
  subst h
  refine ⟨hs, _, _, rfl, fun _ => ⟨_, rfl, fun j u hu => ?_⟩⟩
  rw [add_pl]
  exact lit_cells rfl j (by simpa using hu)
theorem one_str (x : List UInt8) : ∀ u ∈ [sv x], u.oneCell' = true := by
  intro u hu
  rw [List.mem_singleton.1 hu]
  rfl
theorem one_ins (o n : Int) : ∀ u ∈ [Value.int .i64 o, .int .i64 n], u.oneCell' = true := by
  intro u hu
  simp only [List.mem_cons, List.not_mem_nil, or_false] at hu
  rcases hu with rfl | rfl <;> rfl
theorem one_sl (A : Option Addr) (n c : Nat) : ∀ u ∈ [Value.slice A n c], u.oneCell' = true := by
  intro u hu
  rw [List.mem_singleton.1 hu]
  rfl
theorem heap_set3p {w : World} {b : Nat} {x y z : Value} {ty : TypeId} (h : w.heap[b]? = some (.cells #[x, y, z] ty)) (u v t : Value) : (((w.setCell ⟨b, 0, none⟩ u).setCell ⟨b, 1, none⟩ v).setCell ⟨b, 2, none⟩ t).heap[b]? = some (.cells #[u, v, t] ty) := heap_setT (j := 2) (heap_setT (j := 1) (heap_setT (j := 0) h u) v) t
set_option maxHeartbeats 32000000 in
theorem codeRead (w : World) (v : Value) (l : List UInt8) (hs : Bs w v l) : Calls Try.prog 24 #[v] w (ReadPR w l) := by
  have HS := hide hs
  obtain ⟨A, c, rfl, hlc, hcm, _⟩ := hs
  have hz := heap_alloc_new w (.cells #[.int .i64 0, .slice none 0 0, .slice none 0 0] 36)
  have hz2 : ((w.alloc (.cells #[.int .i64 0, .slice none 0 0, .slice none 0 0] 36)).alloc (.cells #[.slice A l.length c, .bool true] 87)).heap[w.heap.size]? = some (.cells #[.int .i64 0, .slice none 0 0, .slice none 0 0] 36) := ((Keep.al (Keep.rf _) _).frm fun _ => False).heap (fun h => h) hz
  have hp2 := new_second w (.cells #[.int .i64 0, .slice none 0 0, .slice none 0 0] 36) (.cells #[.slice A l.length c, .bool true] 87)
  have k2 : Keep w ((w.alloc (.cells #[.int .i64 0, .slice none 0 0, .slice none 0 0] 36)).alloc (.cells #[.slice A l.length c, .bool true] 87)) := (by repeat (first | exact Keep.rf _ | assumption | apply Keep.al | apply Keep.dr | apply Keep.dn))
  have hst2 : StC 87 w _ (w.heap.size + 1) (some l) := ⟨A, c, HS.out, hp2⟩
  have HC := hide (codeCnt w _ (w.heap.size + 1) 4 (some l) (by omega) k2 hst2)
  clear hz hp2 hst2
  go_enter Try.func24, Try.ntmps24
  go_wp2_with fail
  generalize World.alloc (World.alloc w _) _ = W2 at *
  refine HC.out.mono ?_
  rintro e w3 ⟨rfl, hst3, hF3⟩
  have hz3 := hF3.heap (fun e => by have e : w.heap.size = w.heap.size + 1 := e; omega) hz2
  have k3 : Keep w w3 := Frm.keep k2 hF3 fun i e => by have e : i = w.heap.size + 1 := e; omega
  have hlt3 : w.heap.size + 1 < w3.heap.size := hst3.lt
  have hdv := cntV_le 4 (some l)
  generalize hd : cntV 4 (some l) = d at *
  generalize hs1 : (cntS 4 (some l)).map (fun x => x.2) = st1 at *
  have HD := hide hd
  have HS1 := hide hs1
  clear hz2 k2 HC hF3 hd hs1
  go_wp2_with fail
  have k34 : Keep w3 (w3.alloc (.cells #[.int .i64 (d : Int), .slice none 0 0, .slice none 0 0] 36)) := (by repeat (first | exact Keep.rf _ | assumption | apply Keep.al | apply Keep.dr | apply Keep.dn))
  have hz4 := (k34.frm fun _ => False).heap (fun h => h) hz3
  have hb4 := heap_alloc_new w3 (.cells #[.int .i64 (d : Int), .slice none 0 0, .slice none 0 0] 36)
  have hst4 := hst3.keep k34
  have k4 := Keep.tr k3 k34
  have hs4 : (w3.alloc (.cells #[.int .i64 (d : Int), .slice none 0 0, .slice none 0 0] 36)).heap.size = w3.heap.size + 1 := size_alloc _ _
  clear hz3 hst3 k34 k3
  generalize World.alloc w3 _ = W5 at *
  have HC := hide (codeCnt w W5 (w.heap.size + 1) 2000 st1 (by omega) k4 hst4)
  refine HC.out.mono ?_
  rintro e w6 ⟨rfl, hst6, hF6⟩
  have hnv := cntV_le 2000 st1
  generalize hn0 : cntV 2000 st1 = n0 at *
  generalize hs2 : (cntS 2000 st1).map (fun x => x.2) = st2 at *
  have HN0 := hide hn0
  have HS2 := hide hs2
  generalize hpp : w.heap.size + 1 = p at *
  generalize hbb : w3.heap.size = b5 at *
  have hwp : w.heap.size < p := by omega
  have hpb : p < b5 := by omega
  have hb5 : b5 < W5.heap.size := by omega
  have hst : RdS 87 w W5 w6 p b5 (d : Int) n0 st2 st2 (.slice none 0 0) (.slice none 0 0) [] :=
    ⟨⟨by simp, .inl ⟨rfl, rfl⟩⟩, hF6.heap (fun e => by have e : b5 = p := e; omega) hb4, hF6.heap (fun e => by have e : w.heap.size = p := e; omega) hz4, Frm.keep k4 hF6 fun i e => by have e : i = p := e; omega, hF6.size, hst6, (fun h => by rw [h]; rfl), fun x e => by
      rw [e]
      show Em.rdMany Em.rdTx n0 x = _
      simp only [List.length_nil, Nat.sub_zero]
      cases Em.rdMany Em.rdTx n0 x <;> rfl⟩
  have HST := hide hst
  clear HC hz4 hb4 hst4 hst6 hF6 hn0 hs2 hst hs4 hlt3 hbb
  go_upto_block 0 with fail
  go_cut [6] (fun i W => ∃ (st : Option (List UInt8)) (rA : Option Addr) (rc : Nat) (xs : List (List UInt8)), RdS 87 w W5 W p b5 (d : Int) n0 st2 st (.slice rA xs.length rc) (.slice rA xs.length rc) xs ∧ (st = none ∨ xs.length = n0) ∧ xs.length ≤ n0)
  case first =>
    go_wp2_with fail
    go_loopw [6] (fun i W => ∃ (k : Nat) (st : Option (List UInt8)) (v : Value) (xs : List (List UInt8)), i = .int .i64 (k : Int) ∧ k + xs.length = n0 ∧ RdS 87 w W5 W p b5 (d : Int) n0 st2 st v v xs) (fun i _ => (intOf i).toNat)
    case atStart => exact ⟨n0, _, _, [], rfl, by simp, HST.out⟩
    case round =>
      clear HST
      obtain ⟨k, st, v, xs, rfl, hkn, hI⟩ := hrel
      obtain ⟨rA, rc, rfl⟩ := own_slice hI.own
      have HI := hide hI
      have hsz := hI.size
      have x2 := top_cells hI.blk 2
      have hc1 := hI.stt.cell1
      simp only [List.getElem?_toArray, List.getElem?_cons_succ, List.getElem?_cons_zero] at x2
      have hnb : ¬ TPC p (.slice rA xs.length rc) (⟨b5, 2, none⟩ : Addr).block := by
        rintro (e | e)
        · have e : b5 = p := e
          omega
        · have := (World.ownsRow.lt hI.own _ e).1
          simp only at this
          omega
      clear hI
      by_cases hgo : 0 < k ∧ st.isSome = true
      · have g1 : decide ((k : Int) > 0) = true := decide_eq_true (by omega)
        rw [hgo.2] at hc1
        go_wp2_with fail
        apply region_last 10 _ (by kernel_rfl) Keep (Frm (TPC p (.slice rA xs.length rc))) krg ktg (Frm.rf _) (fun _ _ _ => Frm.tr) (fun _ _ h => Keep.frm h _) [some 28, some 29, some 30, some 31, some 32, some 33, some 34, some 35, some 36, some 37, none] [eqG _ , fun us _ v => v = .slice rA xs.length rc, eqG _ , eqG _ , fun us W v => CntAt 87 w wr p 2000 st W v, fun us W v => TexAt 87 w wr p st W v, fun us W v => SAt st v, fun us W v => LoneV 9 (us.getD 0 undef) W v, fun us W v => PshS 87 w W5 p b5 (d : Int) n0 st2 ((texS st).map fun x => x.2) (.slice rA xs.length rc) (xs.length + 1) W v, eqG _ , fun _ _ _ => True] [⟨[], [], false, false, false⟩, ⟨[0], [], false, false, false⟩, ⟨[], [], false, false, false⟩, ⟨[], [], true, false, false⟩, ⟨[3], [], true, true, true⟩, ⟨[2, 4], [], false, true, true⟩, ⟨[5], [], false, false, false⟩, ⟨[6], [], false, false, true⟩, ⟨[1, 5, 6, 7], [], false, true, true⟩, ⟨[], [], false, false, false⟩, ⟨[8, 9], [], false, false, false⟩] [6, 8, 9] (by kernel_rfl) (by kernel_rfl) (by kernel_rfl) rfl (by kernel_rfl)
        · refine ⟨?_, ?_, ?_, ?_, ?_, ?_, ?_, ?_, ?_, ?_, trivial⟩
          · (intro us W h9 hW hE hd hs K hK; obtain ⟨u0, u1, u2, u3, u4, u5, u6, u7, u8, u9, u10, rfl⟩ := rog 11 h9 rfl; clear h9; clear hd; clear hs; simp only [fillG, List.set_cons_zero, List.set_cons_succ]; refine want_n rfl ?_; go_wp2_with (first | fail); simp only [DoneG, fillG, List.set_cons_zero, List.set_cons_succ, relG, eqG, eqG1, eqG2, eqG3, gdG, gdG1, gnG, gnG1, List.getD_cons_zero, List.getD_cons_succ, List.getElem?_cons_succ, List.getElem?_cons_zero, Option.map_some, Option.getD_some, valsG, List.map_cons, List.map_nil, List.length_cons, List.length_nil]; exact ⟨_, rfl, (by first | with_reducible assumption | exact krg _ | exact Keep.al (krg _) _), fun _ _ => rfl⟩)
          · (intro us W h9 hW hE hd hs K hK; obtain ⟨u0, u1, u2, u3, u4, u5, u6, u7, u8, u9, u10, rfl⟩ := rog 11 h9 rfl; clear h9; simp only [DepG, AtG, and_true, relG, eqG, eqG1, eqG2, eqG3, gdG, gdG1, gnG, gnG1, List.getD_cons_zero, List.getD_cons_succ, List.getElem?_cons_succ, List.getElem?_cons_zero, Option.map_some, Option.getD_some, valsG, List.map_cons, List.map_nil, List.length_cons, List.length_nil] at hd; have d0 := hd; clear hd; subst d0; clear hs; simp only [fillG, List.set_cons_zero, List.set_cons_succ]; refine want_n rfl ?_; have b2 := (Frm.tr (Frm.dr (Frm.rf _ _)) hW).cell hnb x2; go_wp2_with fail; simp only [DoneG, fillG, List.set_cons_zero, List.set_cons_succ, relG, eqG, eqG1, eqG2, eqG3, gdG, gdG1, gnG, gnG1, List.getD_cons_zero, List.getD_cons_succ, List.getElem?_cons_succ, List.getElem?_cons_zero, Option.map_some, Option.getD_some, valsG, List.map_cons, List.map_nil, List.length_cons, List.length_nil]; exact ⟨_, rfl, (by first | with_reducible assumption | exact krg _ | exact Keep.al (krg _) _), fun _ _ => rfl⟩)
          · (intro us W h9 hW hE hd hs K hK; obtain ⟨u0, u1, u2, u3, u4, u5, u6, u7, u8, u9, u10, rfl⟩ := rog 11 h9 rfl; clear h9; clear hd; clear hs; simp only [fillG, List.set_cons_zero, List.set_cons_succ]; refine want_n rfl ?_; go_wp2_with (first | fail); simp only [DoneG, fillG, List.set_cons_zero, List.set_cons_succ, relG, eqG, eqG1, eqG2, eqG3, gdG, gdG1, gnG, gnG1, List.getD_cons_zero, List.getD_cons_succ, List.getElem?_cons_succ, List.getElem?_cons_zero, Option.map_some, Option.getD_some, valsG, List.map_cons, List.map_nil, List.length_cons, List.length_nil]; exact ⟨_, rfl, (by first | with_reducible assumption | exact krg _ | exact Keep.al (krg _) _), fun _ _ => rfl⟩)
          · (intro us W h9 hW hE hd hs K hK; obtain ⟨u0, u1, u2, u3, u4, u5, u6, u7, u8, u9, u10, rfl⟩ := rog 11 h9 rfl; clear h9; clear hd; clear hs; simp only [fillG, List.set_cons_zero, List.set_cons_succ]; refine want_n rfl ?_; go_wp2_with (first | fail); simp only [DoneG, fillG, List.set_cons_zero, List.set_cons_succ, relG, eqG, eqG1, eqG2, eqG3, gdG, gdG1, gnG, gnG1, List.getD_cons_zero, List.getD_cons_succ, List.getElem?_cons_succ, List.getElem?_cons_zero, Option.map_some, Option.getD_some, valsG, List.map_cons, List.map_nil, List.length_cons, List.length_nil]; exact ⟨_, rfl, (by first | with_reducible assumption | exact krg _ | exact Keep.al (krg _) _), fun _ _ => rfl⟩)
          · (intro us W h9 hW hE hd hs K hK; obtain ⟨u0, u1, u2, u3, u4, u5, u6, u7, u8, u9, u10, rfl⟩ := rog 11 h9 rfl; clear h9; simp only [DepG, AtG, and_true, relG, eqG, eqG1, eqG2, eqG3, gdG, gdG1, gnG, gnG1, List.getD_cons_zero, List.getD_cons_succ, List.getElem?_cons_succ, List.getElem?_cons_zero, Option.map_some, Option.getD_some, valsG, List.map_cons, List.map_nil, List.length_cons, List.length_nil] at hd; have d3 := hd; clear hd; subst d3; clear hs; simp only [fillG, List.set_cons_zero, List.set_cons_succ]; have hKW := Keep.tr (Keep.dr (Keep.rf _)) (hE rfl); have x2 := Keep.cell hKW x2; refine want_n rfl ?_; go_wp2_with (first | (go_at_call 63; refine (codeCnt w _ p 2000 st (by omega) (Keep.tr HI.out.keep hKW) (HI.out.stt.keep hKW)).mono ?_; rintro e w9 ⟨rfl, s9, f9⟩; have hrel : Frm (TPC p (.slice rA xs.length rc)) W w9 := f9.mono fun k _ e => .inl e) | fail); simp only [DoneG, fillG, List.set_cons_zero, List.set_cons_succ, relG, eqG, eqG1, eqG2, eqG3, gdG, gdG1, gnG, gnG1, List.getD_cons_zero, List.getD_cons_succ, List.getElem?_cons_succ, List.getElem?_cons_zero, Option.map_some, Option.getD_some, valsG, List.map_cons, List.map_nil, List.length_cons, List.length_nil]; exact ⟨_, rfl, (by first | with_reducible assumption | exact trivial), fun W9 hk9 => CntAt.keep ⟨rfl, s9, (hKW.frm _).tr f9⟩ hk9⟩)
          · (intro us W h9 hW hE hd hs K hK; obtain ⟨u0, u1, u2, u3, u4, u5, u6, u7, u8, u9, u10, rfl⟩ := rog 11 h9 rfl; clear h9; simp only [DepG, AtG, and_true, relG, eqG, eqG1, eqG2, eqG3, gdG, gdG1, gnG, gnG1, List.getD_cons_zero, List.getD_cons_succ, List.getElem?_cons_succ, List.getElem?_cons_zero, Option.map_some, Option.getD_some, valsG, List.map_cons, List.map_nil, List.length_cons, List.length_nil] at hd; obtain ⟨d2, d4⟩ := hd; subst d2; obtain ⟨rfl, s4, f4⟩ := d4; clear hs; simp only [fillG, List.set_cons_zero, List.set_cons_succ]; refine want_n rfl ?_; go_wp2_with (first | (go_at_call 64; refine (codeTake w _ p (cntV 2000 st) _ (Nat.le_trans (cntV_le 2000 st) (by omega)) (Frm.keep HI.out.keep f4 fun i e => by have e : i = p := e; omega) s4).mono ?_; rintro e w9 ⟨⟨A9, m9, c9, x9, rfl, q9, l9, e9⟩, s9, f9⟩; rw [tak_tex] at e9 s9; have hrel : Frm (TPC p (.slice rA xs.length rc)) W w9 := f9.mono fun k _ e => .inl e) | fail); simp only [DoneG, fillG, List.set_cons_zero, List.set_cons_succ, relG, eqG, eqG1, eqG2, eqG3, gdG, gdG1, gnG, gnG1, List.getD_cons_zero, List.getD_cons_succ, List.getElem?_cons_succ, List.getElem?_cons_zero, Option.map_some, Option.getD_some, valsG, List.map_cons, List.map_nil, List.length_cons, List.length_nil]; exact ⟨_, rfl, (by first | with_reducible assumption | exact trivial), fun W9 hk9 => TexAt.keep ⟨A9, m9, c9, x9, rfl, q9, Nat.le_trans l9 (cntV_le 2000 st), e9, s9, f4.tr f9⟩ hk9⟩)
          · (intro us W h9 hW hE hd hs K hK; obtain ⟨u0, u1, u2, u3, u4, u5, u6, u7, u8, u9, u10, rfl⟩ := rog 11 h9 rfl; clear h9; simp only [DepG, AtG, and_true, relG, eqG, eqG1, eqG2, eqG3, gdG, gdG1, gnG, gnG1, List.getD_cons_zero, List.getD_cons_succ, List.getElem?_cons_succ, List.getElem?_cons_zero, Option.map_some, Option.getD_some, valsG, List.map_cons, List.map_nil, List.length_cons, List.length_nil] at hd; have d5 := hd; clear hd; obtain ⟨A5, m5, c5, x5, rfl, q5, l5, e5, s5, f5⟩ := d5; clear hs; simp only [fillG, List.set_cons_zero, List.set_cons_succ]; refine want_n rfl ?_; have hc := run_conv_bs (P := Try.prog) (q5.keep (Frm.keep HI.out.keep f5 fun i e => by have e : i = p := e; omega)) 29 5 9 Try.underlying29 Try.underlying5 Try.underlying9; go_wp2_with fail; simp only [DoneG, fillG, List.set_cons_zero, List.set_cons_succ, relG, eqG, eqG1, eqG2, eqG3, gdG, gdG1, gnG, gnG1, List.getD_cons_zero, List.getD_cons_succ, List.getElem?_cons_succ, List.getElem?_cons_zero, Option.map_some, Option.getD_some, valsG, List.map_cons, List.map_nil, List.length_cons, List.length_nil]; exact ⟨_, rfl, (by first | with_reducible assumption | exact krg _ | exact Keep.al (krg _) _), fun W9 hk9 => ⟨x5, rfl, l5, e5⟩⟩)
          · (intro us W h9 hW hE hd hs K hK; obtain ⟨u0, u1, u2, u3, u4, u5, u6, u7, u8, u9, u10, rfl⟩ := rog 11 h9 rfl; clear h9; simp only [DepG, AtG, and_true, relG, eqG, eqG1, eqG2, eqG3, gdG, gdG1, gnG, gnG1, List.getD_cons_zero, List.getD_cons_succ, List.getElem?_cons_succ, List.getElem?_cons_zero, Option.map_some, Option.getD_some, valsG, List.map_cons, List.map_nil, List.length_cons, List.length_nil] at hd; have d6 := hd; clear hd; obtain ⟨x6, rfl, l6, e6⟩ := d6; clear hs; simp only [fillG, List.set_cons_zero, List.set_cons_succ]; refine want_n rfl ?_; go_wp2_with (first | fail); simp only [DoneG, fillG, List.set_cons_zero, List.set_cons_succ, relG, eqG, eqG1, eqG2, eqG3, gdG, gdG1, gnG, gnG1, List.getD_cons_zero, List.getD_cons_succ, List.getElem?_cons_succ, List.getElem?_cons_zero, Option.map_some, Option.getD_some, valsG, List.map_cons, List.map_nil, List.length_cons, List.length_nil]; exact ⟨_, rfl, (by first | with_reducible assumption | exact krg _ | exact Keep.al (krg _) _), fun W9 hk9 => ⟨_, rfl, (hk9.frm fun _ => False).heap (fun h => h) (heap_alloc_new _ _)⟩⟩)
          · (intro us W h9 hW hE hd hs K hK; obtain ⟨u0, u1, u2, u3, u4, u5, u6, u7, u8, u9, u10, rfl⟩ := rog 11 h9 rfl; clear h9; simp only [DepG, AtG, and_true, relG, eqG, eqG1, eqG2, eqG3, gdG, gdG1, gnG, gnG1, List.getD_cons_zero, List.getD_cons_succ, List.getElem?_cons_succ, List.getElem?_cons_zero, Option.map_some, Option.getD_some, valsG, List.map_cons, List.map_nil, List.length_cons, List.length_nil] at hd; obtain ⟨d1, d5, d6, d7⟩ := hd; subst d1; obtain ⟨A5, m5, c5, x5, rfl, q5, l5, e5, s5, f5⟩ := d5; obtain ⟨x6, rfl, l6, e6⟩ := d6; obtain ⟨g7, rfl, h7⟩ := d7; clear hs; simp only [fillG, List.set_cons_zero, List.set_cons_succ]; refine want_n rfl ?_; refine wp_app (.tmp 29) (.tmp 35) 34 rfl W5.heap.size 9 _ 1 16 Try.underlying34 strInfo rfl (by omega) _ xs.length (xs.map sv) rfl (f5.own HI.out.own fun q hq e => by have e : q = p := e; have := (World.ownsRow.lt HI.out.own q hq).1; omega) _ 1 [sv x6] rfl (src1 h7) (one_str x6) (by simp only [maxLen]; omega) (by omega) (Nat.le_trans hsz f5.size) ?_; intro v6 w6 ha; have hrel : Frm (TPC p (.slice rA xs.length rc)) W w6 := Frm.of_grown ha.2.1 fun _ e => .inr e; refine hK _ _ ?_; simp only [DoneG, fillG, List.set_cons_zero, List.set_cons_succ, relG, eqG, eqG1, eqG2, eqG3, gdG, gdG1, gnG, gnG1, List.getD_cons_zero, List.getD_cons_succ, List.getElem?_cons_succ, List.getElem?_cons_zero, Option.map_some, Option.getD_some, valsG, List.map_cons, List.map_nil, List.length_cons, List.length_nil]; exact ⟨_, rfl, (by first | with_reducible assumption | exact trivial), fun W9 hk9 => (HI.out.push hwp hpb hb5 (by omega) f5 s5 e6 ha).keep hk9⟩)
          · (intro us W h9 hW hE hd hs K hK; obtain ⟨u0, u1, u2, u3, u4, u5, u6, u7, u8, u9, u10, rfl⟩ := rog 11 h9 rfl; clear h9; clear hd; clear hs; simp only [fillG, List.set_cons_zero, List.set_cons_succ]; refine want_n rfl ?_; go_wp2_with (first | fail); simp only [DoneG, fillG, List.set_cons_zero, List.set_cons_succ, relG, eqG, eqG1, eqG2, eqG3, gdG, gdG1, gnG, gnG1, List.getD_cons_zero, List.getD_cons_succ, List.getElem?_cons_succ, List.getElem?_cons_zero, Option.map_some, Option.getD_some, valsG, List.map_cons, List.map_nil, List.length_cons, List.length_nil]; exact ⟨_, rfl, (by first | with_reducible assumption | exact krg _ | exact Keep.al (krg _) _), fun _ _ => rfl⟩)
        (intro us W7 h9 hW hE hA hl9; obtain ⟨u0, u1, u2, u3, u4, u5, u6, u7, u8, u9, u10, rfl⟩ := rog 11 h9 rfl; clear h9; clear hl9; simp only [AllG, AtG, and_true, relG, eqG, eqG1, eqG2, eqG3, gdG, gdG1, gnG, gnG1, List.getD_cons_zero, List.getD_cons_succ, List.getElem?_cons_succ, List.getElem?_cons_zero, Option.map_some, Option.getD_some, valsG, List.map_cons, List.map_nil, List.length_cons, List.length_nil] at hA; obtain ⟨d6, d8, d9⟩ := hA; obtain ⟨x6, rfl, l6, e6⟩ := d6; subst d9; simp only [fillG, List.set_cons_zero, List.set_cons_succ]; refine want_n rfl ?_)
        obtain ⟨xs7, A7, c7, rfl, hx7, hk7⟩ := d8
        have tpc := top_cells hk7.blk 2
        have tpf := top_free hk7.blk 2
        simp only [List.getElem?_toArray, List.getElem?_cons_succ, List.getElem?_cons_zero] at tpc
        have HK7 := hide (hk7.put hwp hpb hb5)
        clear hk7 hW hE
        go_wp2
        go_roundw
        case rel => exact ⟨k - 1, _, _, xs7, by go_num, by omega, HK7.out⟩
        case measure => simp [intOf]; omega
      · have hst : st = none ∨ xs.length = n0 := by
          rcases Nat.eq_zero_or_pos k with e | e
          · exact .inr (by omega)
          · left
            cases st with
            | none => rfl
            | some x => exact (hgo ⟨e, rfl⟩).elim
        have HSTT := hide hst
        have hgo2 : k = 0 ∨ (0 < k ∧ wr.cell? ⟨p, 1, none⟩ = some (.bool false)) := by
          rcases Nat.eq_zero_or_pos k with e | e
          · exact .inl e
          · refine .inr ⟨e, ?_⟩
            rw [hc1]
            cases st with
            | none => rfl
            | some x => exact (hgo ⟨e, rfl⟩).elim
        have hxn : xs.length ≤ n0 := by omega
        clear hst hgo hc1 hkn
        rcases hgo2 with rfl | ⟨g1, hc1⟩
        · go_wp2_with fail
          go_meet
          exact ⟨st, rA, rc, xs, HI.out, HSTT.out, hxn⟩
        · go_wp2_with fail
          go_meet
          exact ⟨st, rA, rc, xs, HI.out, HSTT.out, hxn⟩
  case rest =>
    clear HST
    obtain ⟨st, rA, rc, xs, hI, hst, hxn⟩ := hcut
    have HI := hide hI
    have hsz := hI.size
    have hxl : xs.length ≤ 2000 := by omega
    have h3n := hI.no
    have h3y : ∀ x, st = some x → st2.bind (Em.rdMany Em.rdTx n0) = some (xs, x) := by
      intro x e
      have hx := hI.yes x e
      rcases hst with h | h
      · rw [h] at e; cases e
      · rw [h, Nat.sub_self, Em.rdMany] at hx
        simpa using hx
    have H3N := hide h3n
    have H3Y := hide h3y
    have HC := hide (codeCnt w wc p 200 st (by omega) hI.keep hI.stt)
    have hmv := cntV_le 200 st
    generalize hm0 : cntV 200 st = m0 at *
    generalize hs4 : (cntS 200 st).map (fun x => x.2) = st4 at *
    have HM0 := hide hm0
    have HS4 := hide hs4
    clear h3n h3y hst hm0 hs4 hI
    go_wp2_with fail
    refine HC.out.mono ?_
    rintro e w7 ⟨rfl, hst7, hF7⟩
    have hstart : RdF 87 w w7 w7 p b5 (d : Int) (.slice rA xs.length rc) xs m0 st4 st4 (.slice none 0 0) [] [] := by
      have hown : ∀ k, (Value.slice rA xs.length rc).ownBlock = some k → W5.heap.size ≤ k ∧ k < wc.heap.size := World.ownsRow.lt HI.out.own
      have hs7 := hF7.size
      refine ⟨RowF.nil _ _, ⟨hF7.own (own_lower HI.out.own (Nat.zero_le _)) fun q hq e => by have e : q = p := e; have := hown q hq; omega, fun q hq => by have := hown q hq; omega⟩, hF7.heap (fun e => by have e : b5 = p := e; omega) HI.out.blk, hF7.heap (fun e => by have e : w.heap.size = p := e; omega) HI.out.zero,
        Frm.keep HI.out.keep hF7 fun i e => by have e : i = p := e; omega, Nat.le_refl _, hst7, (fun h => by rw [h]; rfl), fun x e => by
          rw [e]
          show Em.rdMany Em.rdF m0 x = _
          simp only [List.length_nil, Nat.sub_zero]
          cases Em.rdMany Em.rdF m0 x <;> rfl⟩
    have hb57 : b5 < w7.heap.size := by have := hF7.size; omega
    have HST := hide hstart
    clear hstart hst7 hF7 HC hsz
    go_upto_block 2 with fail
    go_cut [7] (fun i W => ∃ (st : Option (List UInt8)) (fA : Option Addr) (fc : Nat) (us : List Value) (fs : List (List (Int × Int))), RdF 87 w w7 W p b5 (d : Int) (.slice rA xs.length rc) xs m0 st4 st (.slice fA us.length fc) us fs ∧ (st = none ∨ fs.length = m0))
    case first =>
      go_wp2_with fail
      go_loopw [7] (fun i W => ∃ (k : Nat) (st : Option (List UInt8)) (v : Value) (us : List Value) (fs : List (List (Int × Int))), i = .int .i64 (k : Int) ∧ k + fs.length = m0 ∧ RdF 87 w w7 W p b5 (d : Int) (.slice rA xs.length rc) xs m0 st4 st v us fs) (fun i _ => (intOf i).toNat)
      case atStart => exact ⟨m0, _, _, [], [], rfl, by simp, HST.out⟩
      case round =>
        clear HST
        rename World => wq
        obtain ⟨k2, stf, vf, us, fs, rfl, hkm, hJ⟩ := hrel
        obtain ⟨fA, fc, rfl⟩ := own_slice hJ.row.own
        have HJ := hide hJ
        have hsz2 := hJ.size
        have y1 := top_cells hJ.blk 1
        have hc2 := hJ.stt.cell1
        simp only [List.getElem?_toArray, List.getElem?_cons_succ, List.getElem?_cons_zero] at y1
        have hus : us.length ≤ 200 := by have := hJ.row.len; omega
        have hpr : p < wq.heap.size := by omega
        clear hJ
        by_cases hgo : 0 < k2 ∧ stf.isSome = true
        · have e1 : decide ((k2 : Int) > 0) = true := decide_eq_true (by omega)
          rw [hgo.2] at hc2
          have HC := hide (codeCnt w wq p 4000 stf (by omega) HJ.out.keep HJ.out.stt)
          have hqv := cntV_le 4000 stf
          generalize hm1 : cntV 4000 stf = m1 at *
          generalize hs5 : (cntS 4000 stf).map (fun x => x.2) = st5 at *
          have HM1 := hide hm1
          have HS5 := hide hs5
          clear hm1 hs5
          go_wp2_with fail
          refine HC.out.mono ?_
          rintro e w8 ⟨rfl, hst8, hF8⟩
          have hK : RdI 87 w wq w8 p m1 st5 st5 (.slice none 0 0) [] :=
            ⟨⟨by simp, .inl ⟨rfl, rfl⟩⟩, hF8, by simp, hst8, (fun h => by rw [h]; rfl), fun x e => by
              rw [e]
              show Em.rdMany Em.rdI m1 x = _
              simp only [List.length_nil, Nat.sub_zero]
              cases Em.rdMany Em.rdI m1 x <;> rfl⟩
          have HK := hide hK
          clear hK hst8 hF8 HC
          go_upto_block 4 with fail
          go_cut [8, 9] (fun v i W => ∃ (sti : Option (List UInt8)) (iA : Option Addr) (ic : Nat) (ys : List (Int × Int)), v = .slice iA ys.length ic ∧ ys.length ≤ 4000 ∧ RdI 87 w wq W p m1 st5 sti (.slice iA ys.length ic) ys ∧ (sti = none ∨ ys.length = m1))
          case first =>
            go_wp2_with fail
            go_loopw [8, 9] (fun v i W => ∃ (k : Nat) (st : Option (List UInt8)) (ys : List (Int × Int)), i = .int .i64 (k : Int) ∧ k + ys.length = m1 ∧ RdI 87 w wq W p m1 st5 st v ys) (fun _ i _ => (intOf i).toNat)
            case atStart => exact ⟨m1, _, [], rfl, by simp, HK.out⟩
            case round =>
              clear HK
              obtain ⟨k3, sti, ys, rfl, hki, hL⟩ := hrel
              obtain ⟨iA, ic, rfl⟩ := own_slice hL.own
              have HL := hide hL
              have hc3 := hL.stt.cell1
              have hlo3 := World.ownsRow.lt hL.own
              have kwL : Keep w wq := HJ.out.keep
              have kw3 := Frm.keep kwL hL.frm fun i e => by have e : i = p := e; omega
              have hsL := hL.frm.size
              clear hL
              by_cases hgi : 0 < k3 ∧ sti.isSome = true
              · have e2 : decide ((k3 : Int) > 0) = true := decide_eq_true (by omega)
                rw [hgi.2] at hc3
                have HIN := hide (codeInstr w _ p sti kw3 (by omega) HL.out.stt)
                go_wp2_with fail
                refine HIN.out.mono ?_
                rintro e w9 ⟨o9, n9, rfl, hwo, hwn, hx9, hs9, hF9⟩
                have hown9 : (w9.alloc (.cells #[.int .i64 o9, .int .i64 n9] 91)).ownsRow wq.heap.size 91 2 (.slice iA ys.length ic) ys.length (ys.map encI).flatten :=
                  own_keep (hF9.own HL.out.own fun q hq e => by have e : q = p := e; have := hlo3 q hq; omega) (by repeat (first | exact Keep.rf _ | assumption | apply Keep.al | apply Keep.dr | apply Keep.dn))
                have HX9 := hide hx9
                have HS9 := hide hs9
                have HF9 := hide hF9
                have hs9z := hF9.size
                have HOW := hide hown9
                clear hx9 hs9 hF9 hown9 HIN
                go_wp2_with (first
                  | (at_builtin; go_loud (refine wpList_app rfl (.tmp 62) (.tmp 65) 89 rfl wq.heap.size 91 _ 2 16 Try.underlying89 insInfo rfl (by omega) _ ys.length (ys.map encI).flatten rfl HOW.out _ 1 [.int .i64 o9, .int .i64 n9] rfl (src_lit _ _ [.int .i64 o9, .int .i64 n9] rfl rfl) (one_ins _ _) (by simp only [maxLen]; omega) (by omega) (by simp only [size_alloc]; omega) ?_; intro v10 w10 ha; obtain ⟨jA, jc, rfl⟩ := own_slice ha.1; have hpu := HL.out.push hpr (by omega) HF9.out (by repeat (first | exact Keep.rf _ | assumption | apply Keep.al | apply Keep.dr | apply Keep.dn)) hwo hwn HX9.out HS9.out ha; have HPU := hide hpu; clear hpu ha))
                  | fail)
                go_roundw
                case rel => exact ⟨k3 - 1, _, ys ++ [(o9, n9)], by go_num, by simp; omega, HPU.out⟩
                case measure => simp [intOf]; omega
              · have hsti : sti = none ∨ ys.length = m1 := by
                  rcases Nat.eq_zero_or_pos k3 with e | e
                  · exact .inr (by omega)
                  · left
                    cases sti with
                    | none => rfl
                    | some x => exact (hgi ⟨e, rfl⟩).elim
                have hgi2 : k3 = 0 ∨ (0 < k3 ∧ wr.cell? ⟨p, 1, none⟩ = some (.bool false)) := by
                  rcases Nat.eq_zero_or_pos k3 with e | e
                  · exact .inl e
                  · refine .inr ⟨e, ?_⟩
                    rw [hc3]
                    cases sti with
                    | none => rfl
                    | some x => exact (hgi ⟨e, rfl⟩).elim
                have HSTI := hide hsti
                have hyl : ys.length ≤ 4000 := by omega
                clear hsti hgi hc3 hki
                rcases hgi2 with rfl | ⟨q1, hc3⟩
                · go_wp2_with fail
                  go_meet
                  exact ⟨sti, iA, ic, ys, rfl, hyl, HL.out, HSTI.out⟩
                · go_wp2_with fail
                  go_meet
                  exact ⟨sti, iA, ic, ys, rfl, hyl, HL.out, HSTI.out⟩
          case rest =>
            clear HK
            obtain ⟨sti, iA, ic, ys, rfl, hyl, hL, hsti⟩ := hcut
            have HL := hide hL
            have hfun : funS stf = st5.bind (Em.rdMany Em.rdI m1) := by rw [fun_parts, ← cnt_many, HM1.out, HS5.out]
            have hfn : sti = none → funS stf = none := fun e => by rw [hfun]; exact hL.no e
            have hfy : ∀ x, sti = some x → funS stf = some (ys, x) := fun x e => by
              rw [hfun, hL.yes x e]
              rcases hsti with h | h
              · rw [h] at e; cases e
              · rw [h, Nat.sub_self, Em.rdMany]
                simp
            have HFN := hide hfn
            have HFY := hide hfy
            have z1 := hL.frm.cell (a := ⟨b5, 1, none⟩) (fun e => by have e : b5 = p := e; omega) y1
            have hsL := hL.frm.size
            clear hfun hfn hfy hsti
            have hownf := own_keep (hL.frm.own HJ.out.row.own fun q hq e => by have e : q = p := e; have := World.ownsRow.lt HJ.out.row.own q hq; omega) (Keep.al (Keep.rf _) (.cells #[.slice iA ys.length ic] 89))
            have HOWF := hide hownf
            clear hownf hL
            go_wp2_with (first
              | (at_builtin; go_loud (refine wpList_app rfl (.tmp 68) (.tmp 70) 33 rfl w7.heap.size 89 _ 1 24 Try.underlying33 funInfo rfl (by omega) _ us.length us rfl HOWF.out _ 1 [.slice iA ys.length ic] rfl (src_lit _ _ [.slice iA ys.length ic] rfl rfl) (one_sl _ _ _) (by simp only [maxLen]; omega) (by omega) (by simp only [size_alloc]; omega) ?_; intro v11 w11 ha; obtain ⟨jA, jc, rfl⟩ := own_slice ha.1; have hpu := HJ.out.push hwp hpb hb57 (by omega) HL.out.frm (by repeat (first | exact Keep.rf _ | assumption | apply Keep.al | apply Keep.dr | apply Keep.dn)) HL.out.own HL.out.wf HL.out.stt HFN.out HFY.out ha; have v1 := top_cells hpu.1 1; have v2 := top_free hpu.1 1; simp only [List.getElem?_toArray, List.getElem?_cons_succ, List.getElem?_cons_zero] at v1; have HPU := hide hpu.2; clear hpu ha))
              | fail)
            go_roundw
            case rel => exact ⟨k2 - 1, _, _, us ++ [.slice iA ys.length ic], fs ++ [ys], by go_num, by simp; omega, HPU.out⟩
            case measure => simp [intOf]; omega
        · have hstf : stf = none ∨ fs.length = m0 := by
            rcases Nat.eq_zero_or_pos k2 with e | e
            · exact .inr (by omega)
            · left
              cases stf with
              | none => rfl
              | some x => exact (hgo ⟨e, rfl⟩).elim
          have hgi2 : k2 = 0 ∨ (0 < k2 ∧ wq.cell? ⟨p, 1, none⟩ = some (.bool false)) := by
            rcases Nat.eq_zero_or_pos k2 with e | e
            · exact .inl e
            · refine .inr ⟨e, ?_⟩
              rw [hc2]
              cases stf with
              | none => rfl
              | some x => exact (hgo ⟨e, rfl⟩).elim
          have HSTF := hide hstf
          clear hstf hgo hc2 hkm
          rcases hgi2 with rfl | ⟨q1, hc2⟩
          · go_wp2_with fail
            go_meet
            exact ⟨stf, fA, fc, us, fs, HJ.out, HSTF.out⟩
          · go_wp2_with fail
            go_meet
            exact ⟨stf, fA, fc, us, fs, HJ.out, HSTF.out⟩
    case rest =>
      clear HST
      obtain ⟨stf, fA, fc, us, fs, hJ, hstf⟩ := hcut
      rename World => wq
      have HJ := hide hJ
      have h5y : ∀ x, stf = some x → st4.bind (Em.rdMany Em.rdF m0) = some (fs, x) := by
        intro x e
        have hx := hJ.yes x e
        rcases hstf with h | h
        · rw [h] at e; cases e
        · rw [h, Nat.sub_self, Em.rdMany] at hx
          simpa using hx
      have hch := rdP_chain l xs fs st2 st st4 stf n0 m0 d HD.out.symm (by rw [HS1.out]; exact HN0.out.symm) (by rw [HS1.out]; exact HS2.out.symm) H3N.out H3Y.out HM0.out.symm HS4.out.symm hJ.no h5y
      have HCH := hide hch
      have hc2 := hJ.stt.cell1
      have k0q : Keep w wq := hJ.keep
      have a0 := top_cells hJ.zero 0
      have a1 := top_cells hJ.zero 1
      have a2 := top_cells hJ.zero 2
      have q0 := top_free hJ.zero 0
      have q1 := top_free hJ.zero 1
      have q2 := top_free hJ.zero 2
      have d0 := top_cells hJ.blk 0
      have d1 := top_cells hJ.blk 1
      have d2 := top_cells hJ.blk 2
      simp only [List.getElem?_toArray, List.getElem?_cons_succ, List.getElem?_cons_zero] at a0 a1 a2 d0 d1 d2
      clear h5y hch hstf hJ
      cases hsf : stf with
      | none =>
        subst hsf
        have hno : Em.readP l = none := by rw [Em.readP, HCH.out.1 rfl]
        have HNO := hide hno
        simp only [Option.isSome_none] at hc2
        clear hno HCH
        go_wp2_with fail
        refine bodyPost_ret_by (results_cell2 rfl _ _ w.heap.size 36 _ (0, 0) _ rfl (heap_set3p HJ.out.zero _ _ _) Try.underlying36 rfl ?_) rfl ?_
        · kernel_rfl
        · exact ReadPR.no HNO.out (Frm.keep k0q (frm_set3 _ _ _ _ _) fun i e => by have e : i = w.heap.size := e; omega)
      | some r =>
        subst hsf
        have hrp := HCH.out.2 r rfl
        have hpin := rdP_in hrp
        have hpk : PrgK wq [.int .i64 (d : Int), .slice fA us.length fc, .slice rA xs.length rc] ⟨(d : Int), fs, xs⟩ := ⟨_, _, rfl, wf_of ⟨by simp only; omega, by simp only; omega⟩, HJ.out.row.sl, sl_of_strs HJ.out.strs.1 rfl⟩
        have HPK := hide hpk
        have hdq := readP_bytes hrp
        have hrd : Em.readP l = if decide (Em.bytesP ⟨(d : Int), fs, xs⟩ = l) = true then some ⟨(d : Int), fs, xs⟩ else none := by rw [hdq, Em.readP, hrp]
        have HRD := hide hrd
        have HB := hide (codeBytes wq _ _ hpk hpin)
        simp only [Option.isSome_some] at hc2
        clear HCH hrp hpin hpk hdq hrd
        generalize Em.bytesP ⟨(d : Int), fs, xs⟩ = bt at *
        have hpkf : ∀ (W : World) (a b c : Value), Keep wq W → PrgK (((W.setCell ⟨w.heap.size, 0, none⟩ a).setCell ⟨w.heap.size, 1, none⟩ b).setCell ⟨w.heap.size, 2, none⟩ c) [.int .i64 (d : Int), .slice fA us.length fc, .slice rA xs.length rc] ⟨(d : Int), fs, xs⟩ := by
          intro W a b c k
          have F := frm_set3 W w.heap.size a b c
          refine ⟨_, _, rfl, wf_of ⟨by simp only; omega, by simp only; omega⟩, ((HJ.out.row.frm (k.frm fun _ => False) fun _ h => h.elim).frm F fun i e => .inl (by have e : i = w.heap.size := e; omega)).sl, sl_of_strs (F.own (own_keep HJ.out.strs.1 k) fun q hq e => ?_) rfl⟩
          have := HJ.out.strs.2 q hq
          have e : q = w.heap.size := e
          omega
        have HPKF := hide hpkf
        clear hpkf
        go_wp2_with fail
        refine HB.out.mono ?_
        rintro e w8 ⟨v8, rfl, o8, k8⟩
        obtain ⟨A8, c8, rfl⟩ := own_slice (show w8.ownsRow _ _ _ _ _ _ from o8)
        have k08 := Keep.tr k0q k8
        have HE := hide (bytesEqual _ _ _ _ w8 o8.bs (HS.out.keep k08))
        have hz8 := (k8.frm fun _ => False).heap (fun h => h) HJ.out.zero
        replace a0 := Keep.cell k8 a0
        replace a1 := Keep.cell k8 a1
        replace a2 := Keep.cell k8 a2
        replace q0 := top_free hz8 0
        replace q1 := top_free hz8 1
        replace q2 := top_free hz8 2
        replace d0 := Keep.cell k8 d0
        replace d1 := Keep.cell k8 d1
        replace d2 := Keep.cell k8 d2
        have HZ8 := hide hz8
        have K8 := hide k8
        clear o8 hz8 HB k8
        go_wp2_with fail
        refine HE.out.mono ?_
        rintro e w9 ⟨rfl, rfl⟩
        generalize hdc : decide (bt = l) = dc at *
        clear hdc
        cases dc with
        | true =>
          have HY := hide (show Em.readP l = some ⟨(d : Int), fs, xs⟩ from HRD.out)
          go_wp2_with fail
          refine bodyPost_ret_by (results_cell2 rfl _ _ w.heap.size 36 _ (0, 0) _ rfl (heap_set3p HZ8.out _ _ _) Try.underlying36 rfl ?_) rfl ?_
          · kernel_rfl
          · exact ReadPR.yes HY.out (Frm.keep k08 (frm_set3 _ _ _ _ _) fun i e => by have e : i = w.heap.size := e; omega) (HPKF.out _ _ _ _ K8.out)
        | false =>
          have HNO := hide (show Em.readP l = none from HRD.out)
          go_wp2_with fail
          refine bodyPost_ret_by (results_cell2 rfl _ _ w.heap.size 36 _ (0, 0) _ rfl (heap_set3p HZ8.out _ _ _) Try.underlying36 rfl ?_) rfl ?_
          · kernel_rfl
          · exact ReadPR.no HNO.out (Frm.keep k08 (frm_set3 _ _ _ _ _) fun i e => by have e : i = w.heap.size := e; omega)
end Go.Proofs.Ytcbkklfdeloeeaa
