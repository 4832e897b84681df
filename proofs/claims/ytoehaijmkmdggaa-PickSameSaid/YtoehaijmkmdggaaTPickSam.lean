/- The law PickSame: walk. -/
import Derived.Test.YtoehaijmkmdggaaTPickGra
import Derived.Test.YtoehaijmkmdggaaTShapeR
set_option linter.unusedSimpArgs false
set_option linter.unusedVariables false
namespace Go.Proofs.Ytoehaijmkmdggaa
open Go.RowKit
open Em (Ty)
set_option linter.unusedVariables false
set_option linter.unusedSimpArgs false
set_option maxRecDepth 100000
theorem Em.bytes_inj {a b : List UInt8} {t : Ty} {g : Em.Gr} (h : Em.graphP a t = (g, 0)) (k : Em.graphP b t = (g, 0)) : a = b := by
  have e1 := Em.bytes_build h (Em.lain_build [] [] g.blocks)
  have e2 := Em.bytes_build k (Em.lain_build [] [] g.blocks)
  rw [e1] at e2
  exact congrArg Prod.fst e2
/-- A heap that came later than a world. -/
def KN (wb W : World) (p sz : Nat) (S : List Nat) (H : Em.Hp) : Prop := HRep W p S sz H ∧ (∀ i ∈ S, wb.heap.size ≤ i) ∧ Keep wb W
theorem KN.keep {wb W W' : World} {p sz : Nat} {S : List Nat} {H : Em.Hp} (h : KN wb W p sz S H) (k : Keep W W') : KN wb W' p sz S H := ⟨h.1.keep k, h.2.1, Keep.tr h.2.2 k⟩
theorem KN.ext {wb W W' : World} {p sz : Nat} {S S' : List Nat} {H H' : Em.Hp} (h : KN wb W p sz S H) (r : HRep W' p S' sz H') (x : Ext W W' S S') : KN wb W' p sz S' H' := by
  refine ⟨r, fun i hi => ?_, Frm.keep h.2.2 x.1 fun i hi => h.2.1 i hi⟩
  rcases x.2 i hi with e | e
  · exact h.2.1 i e
  · exact Nat.le_trans (Below.size h.2.2) e
theorem KN.put {wb W : World} {p sz : Nat} {S : List Nat} {H : Em.Hp} (h : KN wb W p sz S H) (s : List UInt8) (hs : s.length ≤ 100000) (n : Int) (H' : Em.Hp) (ha : Em.alloc sz H 1 (wordsOf s) = some (n, H')) :
    Calls Try.prog 15 #[.pointer (some ⟨p, 0, none⟩), .string (str s)] W fun e w' => e = .returned (.tuple #[.int .i64 n, .bool true]) ∧ ∃ S', KN wb w' p sz S' H' := by
  refine (shapePut W h.1 s hs).mono ?_
  rintro e w' ⟨w1, k1, hal⟩
  unfold AllocH at hal
  rw [ha] at hal
  obtain ⟨rfl, S', r, F, m⟩ := hal
  exact ⟨rfl, S', (h.keep k1).ext r ⟨F, m⟩⟩
theorem KN.build {wb W : World} {p sz : Nat} {S : List Nat} {H : Em.Hp} (h : KN wb W p sz S H) (gv : Value) (g : Em.Gr) (hg : GrV wb gv g) (hne : Em.needN g.blocks ≤ 100000) (n : Int) (H' : Em.Hp) (hb : Em.buildG sz H g = (n, 0, H')) :
    Calls Try.prog 16 #[.pointer (some ⟨p, 0, none⟩), gv] W fun e w' => e = .returned (.tuple #[.int .i64 n, .int .i64 0]) ∧ ∃ S', KN wb w' p sz S' H' := by
  refine (shapeBuild W h.1 gv g (GrS.of hg h.2.2 h.2.1) hne).mono ?_
  rintro e w' ⟨rfl, S', r, x⟩
  rw [hb] at r ⊢
  exact ⟨rfl, S', h.ext r x⟩
def aheadB : List UInt8 := [97, 104, 101, 97, 100]
theorem ahead_alloc : Em.alloc 9000 [] 1 (wordsOf aheadB) = some (0, [(1, wordsOf aheadB)]) := by kernel_rfl
theorem ahead_used : Em.used [(1, wordsOf aheadB)] = 6 := by decide
set_option maxHeartbeats 16000000 in
theorem PickSame_walk (w : World) (v : Value) (a : List UInt8) (ha : Bs w v a) (_hz : a.length ≤ 140737488351232) (v' : Value) (b : List UInt8) (hb : Bs w v' b) (_hz' : b.length ≤ 140737488351232) (tv : Value) (t : Ty) (ht0 : TyV w tv t) (_ht1 : True) : Calls Try.prog 3 #[v, v', tv] w fun e w' => e = .returned (.bool true) ∧ Keep w w' := by
  obtain ⟨d, cs, rfl, ht⟩ := ht0
  cases d with
  | zero => exact ht.elim
  | succ d =>
    have HT := hide ht
    obtain ⟨v9, rfl, hn, hs⟩ := ht
    obtain ⟨Ak, ck, rfl, _⟩ := id hs
    have HA := hide ha
    have HB := hide hb
    obtain ⟨Aa, ca, rfl, hlca, hcma, _⟩ := ha
    obtain ⟨Ab, cb, rfl, hlcb, hcmb, _⟩ := hb
    have SZ := hide fun W (k : Keep w W) => refSizeT (d + 1) t W _ 100 (HT.out.keep k) (by omega) (by omega)
    have GA := hide fun W (k : Keep w W) => refGraph23 a t (d + 1) _ W _ (HA.out.keep k) (HT.out.keep k)
    have GB := hide fun W (k : Keep w W) => refGraph23 b t (d + 1) _ W _ (HB.out.keep k) (HT.out.keep k)
    have HEQ := hide fun (g k : Em.Gr) (h1 : Em.graphP a t = (g, 0)) (h2 : Em.graphP b t = (k, 0)) => (by
      constructor
      · rintro rfl
        rw [h1] at h2
        exact congrArg Prod.fst h2
      · rintro rfl
        exact Em.bytes_inj h1 h2 : a = b ↔ g = k)
    have HPA := hide fun (g : Em.Gr) (h : Em.graphP a t = (g, 0)) (hl : a.length ≤ 200) => And.intro (Em.graphP_need h) (Em.pick_built h 9000 [(1, wordsOf aheadB)] (by rw [ahead_used]; omega) (by omega))
    have HPB := hide fun (g : Em.Gr) (h : Em.graphP b t = (g, 0)) (hl : b.length ≤ 200) H (hu : Em.used H ≤ 1000) => And.intro (Em.graphP_need h) (Em.pick_built h 9000 H (by omega) (by omega))
    generalize hgo : Em.graphP a t = go at *
    generalize hgp : Em.graphP b t = gp at *
    clear hgo hgp hs hn
    by_cases g1 : 200 < a.length
    · go_enter Try.func3, Try.ntmps3
      go_wp2_with fail
      go_ret
      exact ⟨rfl, (by repeat (first | exact Keep.rf _ | assumption | apply Keep.al | apply Keep.dr | apply Keep.dn))⟩
    by_cases g2 : 200 < b.length
    · go_enter Try.func3, Try.ntmps3
      go_wp2_with fail
      go_ret
      exact ⟨rfl, (by repeat (first | exact Keep.rf _ | assumption | apply Keep.al | apply Keep.dr | apply Keep.dn))⟩
    have hla : a.length ≤ 200 := by omega
    have hlb : b.length ≤ 200 := by omega
    have hB := heap_alloc_new w (.cells #[.string (str t.op), .int .i64 t.n, .slice Ak t.kids.length ck] 25)
    have kB : Keep w (w.alloc (.cells #[.string (str t.op), .int .i64 t.n, .slice Ak t.kids.length ck] 25)) := (by repeat (first | exact Keep.rf _ | assumption | apply Keep.al | apply Keep.dr | apply Keep.dn))
    have HBX := hide hB
    have KB := hide kB
    clear hB kB
    go_enter Try.func3, Try.ntmps3
    go_wp2_with fail
    generalize World.alloc w _ = wa at *
    refine (SZ.out _ KB.out).mono ?_
    rintro e w1 ⟨rfl, k1⟩
    generalize hsz : Em.sz 100 t = sz
    have K1 := hide (Keep.tr KB.out k1)
    have hB1 := (k1.frm fun _ => False).heap (fun h => h) HBX.out
    have b0 := top_cells hB1 0
    have b1 := top_cells hB1 1
    have b2 := top_cells hB1 2
    simp only [List.getElem?_toArray, List.getElem?_cons_succ, List.getElem?_cons_zero] at b0 b1 b2
    have HB1 := hide hB1
    clear k1 hB1 hsz HBX
    by_cases g3 : 50 < sz
    · go_wp2_with fail
      go_ret
      exact ⟨rfl, K1.out⟩
    have GAX := hide (GA.out w1 K1.out)
    go_wp2_with fail
    refine GAX.out.mono ?_
    intro e w3 hG
    obtain ⟨A3, c3, rfl, hg3, k3⟩ := hG.outV
    clear hG
    obtain ⟨gg, cc⟩ := go
    simp only at hg3 ⊢
    have ka : Keep w3 (w3.alloc (.cells #[.bool gg.root.1, .int .i64 gg.root.2, .slice A3 gg.blocks.length c3] 31)) := (by repeat (first | exact Keep.rf _ | assumption | apply Keep.al | apply Keep.dr | apply Keep.dn))
    have ha := heap_alloc_new w3 (.cells #[.bool gg.root.1, .int .i64 gg.root.2, .slice A3 gg.blocks.length c3] 31)
    have HGA := hide (hg3.keep ka)
    have HCA := hide ha
    have HB4 := hide (((Keep.tr k3 ka).frm fun _ => False).heap (fun h => h) HB1.out)
    have K4 := hide (Keep.tr K1.out (Keep.tr k3 ka))
    have b0 := top_cells HB4.out 0
    have b1 := top_cells HB4.out 1
    have b2 := top_cells HB4.out 2
    simp only [List.getElem?_toArray, List.getElem?_cons_succ, List.getElem?_cons_zero] at b0 b1 b2
    have GBX := hide (GB.out _ K4.out)
    clear ka ha k3 hg3 HB1 GAX GA GB SZ K1
    go_wp2_with fail
    generalize World.alloc w3 _ = Wa at *
    refine GBX.out.mono ?_
    intro e w5 hG
    obtain ⟨A5, c5, rfl, hg5, k5⟩ := hG.outV
    clear hG
    obtain ⟨gk, ck'⟩ := gp
    simp only at hg5 ⊢
    have ka : Keep w5 (w5.alloc (.cells #[.bool gk.root.1, .int .i64 gk.root.2, .slice A5 gk.blocks.length c5] 31)) := (by repeat (first | exact Keep.rf _ | assumption | apply Keep.al | apply Keep.dr | apply Keep.dn))
    have ha := heap_alloc_new w5 (.cells #[.bool gk.root.1, .int .i64 gk.root.2, .slice A5 gk.blocks.length c5] 31)
    have HGK := hide (hg5.keep ka)
    have HGG := hide (HGA.out.keep (Keep.tr k5 ka))
    have HCK := hide ha
    have HCG := hide (((Keep.tr k5 ka).frm fun _ => False).heap (fun h => h) HCA.out)
    have HB6 := hide (((Keep.tr k5 ka).frm fun _ => False).heap (fun h => h) HB4.out)
    have K6 := hide (Keep.tr K4.out (Keep.tr k5 ka))
    clear ka ha k5 hg5 HB4 GBX K4 HGA HCA b0 b1 b2
    by_cases hc : cc = 0
    · subst hc
      by_cases hc : ck' = 0
      · subst hc
        obtain ⟨hneA, n, X, hbu, hbk, hus, hwf⟩ := HPA.out gg rfl hla
        rw [ahead_used] at hus
        obtain ⟨hneB, n', Y, hbu', hbk', hus', hwf'⟩ := HPB.out gk rfl hlb ([(1, wordsOf aheadB)] ++ X) (by omega)
        have HBKA := hide (hbk Y)
        have HBKB := hide (hbk' [])
        rw [List.append_nil] at HBKB
        have HBU := hide hbu
        have HBU' := hide hbu'
        have HWF := hide hwf
        have HWF' := hide hwf'
        have HNA := hide (show Em.needN gg.blocks ≤ 100000 by omega)
        have HNB := hide (show Em.needN gk.blocks ≤ 100000 by omega)
        have HQ := hide (HEQ.out gg gk rfl rfl)
        clear hbk hbk' hbu hbu' hwf hwf' hus hus' hneA hneB HPA HPB HEQ
        generalize hHA : ([(1, wordsOf aheadB)] ++ X : Em.Hp) = HA' at *
        generalize hHB : HA' ++ Y = HB' at *
        clear hHA hHB
        go_wp2_with fail
        generalize World.alloc w5 _ = wb at *
        refine (heapNew 9000 _ (by omega)).mono ?_
        rintro e w7 ⟨p, S, rfl, hR, hS, k7⟩
        have KP := hide ((show KN wb w7 p 9000 S [] from ⟨hR, hS, k7⟩).put aheadB (by decide) 0 _ ahead_alloc)
        clear hR hS k7
        go_wp2_with fail
        refine KP.out.mono ?_
        rintro e w8 ⟨rfl, S8, h8⟩
        have HCK8 := (h8.2.2.frm fun _ => False).heap (fun h => h) HCK.out
        have HCG8 := (h8.2.2.frm fun _ => False).heap (fun h => h) HCG.out
        have q0 := top_cells HCG8 0
        have q1 := top_cells HCG8 1
        have q2 := top_cells HCG8 2
        simp only [List.getElem?_toArray, List.getElem?_cons_succ, List.getElem?_cons_zero] at q0 q1 q2
        have KA := hide (h8.build _ gg HGG.out HNA.out n HA' HBU.out)
        clear h8 HCK8 HCG8 KP
        go_wp2_with fail
        refine KA.out.mono ?_
        rintro e w9 ⟨rfl, S9, h9'⟩
        have HCK9 := (h9'.2.2.frm fun _ => False).heap (fun h => h) HCK.out
        have q0 := top_cells HCK9 0
        have q1 := top_cells HCK9 1
        have q2 := top_cells HCK9 2
        simp only [List.getElem?_toArray, List.getElem?_cons_succ, List.getElem?_cons_zero] at q0 q1 q2
        have KBB := hide (h9'.build _ gk HGK.out HNB.out n' HB' HBU'.out)
        clear h9' HCK9 KA
        go_wp2_with fail
        refine KBB.out.mono ?_
        rintro e w10 ⟨rfl, S10, h10⟩
        have KN10 := hide h10
        have hB10 := (h10.2.2.frm fun _ => False).heap (fun h => h) HB6.out
        have b0 := top_cells hB10 0
        have b1 := top_cells hB10 1
        have b2 := top_cells hB10 2
        simp only [List.getElem?_toArray, List.getElem?_cons_succ, List.getElem?_cons_zero] at b0 b1 b2
        have hpb := pickBytes w10 h10.1 n HWF.out t (d + 1) _ (HT.out.keep (Keep.tr K6.out h10.2.2))
        rw [HBKA.out] at hpb
        have HPB := hide hpb
        clear hpb h10 hB10 q0 q1 q2 KBB
        go_wp2_with fail
        refine HPB.out.mono ?_
        rintro e w11 ⟨A11, c11, rfl, hb11, k11⟩
        have hb11 : Bs w11 (.slice A11 a.length c11) a := hb11
        have HBA := hide hb11
        have KN11 := hide (KN10.out.keep k11)
        have b0 := Keep.cell k11 b0
        have b1 := Keep.cell k11 b1
        have b2 := Keep.cell k11 b2
        have hpb := pickBytes w11 KN11.out.1 n' HWF'.out t (d + 1) _ (HT.out.keep (Keep.tr K6.out KN11.out.2.2))
        rw [HBKB.out] at hpb
        have HPB := hide hpb
        clear hpb hb11 k11 KN10
        go_wp2_with fail
        refine HPB.out.mono ?_
        rintro e w12 ⟨A12, c12, rfl, hb12, k12⟩
        have hb12 : Bs w12 (.slice A12 b.length c12) b := hb12
        have HBB := hide hb12
        have HBA2 := hide (HBA.out.keep k12)
        have KN12 := hide (KN11.out.keep k12).2.2
        have HCK12 := (KN12.out.frm fun _ => False).heap (fun h => h) HCK.out
        have HCG12 := (KN12.out.frm fun _ => False).heap (fun h => h) HCG.out
        have p0 := top_cells HCG12 0
        have p1 := top_cells HCG12 1
        have p2 := top_cells HCG12 2
        have q0 := top_cells HCK12 0
        have q1 := top_cells HCK12 1
        have q2 := top_cells HCK12 2
        simp only [List.getElem?_toArray, List.getElem?_cons_succ, List.getElem?_cons_zero] at p0 p1 p2 q0 q1 q2
        have hqb : ((str a).toList == (str b).toList) = decide (gg = gk) := by
          rw [str_lbeq]
          by_cases h : a = b
          · rw [decide_eq_true (HQ.out.1 h), decide_eq_true h]
          · rw [decide_eq_false (fun e => h (HQ.out.2 e)), decide_eq_false h]
        clear HCK12 HCG12 k12 hb12 KN11 HPB HBA b0 b1 b2 HBKA HBKB HBU HBU' HWF HWF' HNA HNB HQ HB6
        have HSM := hide fun W (k : Keep w12 W) => refSame18 gg gk W _ _ (HGG.out.keep (Keep.tr KN12.out k)) (HGK.out.keep (Keep.tr KN12.out k))
        generalize decide (gg = gk) = qq at *
        have hqq : (qq == qq) = true := by simp
        go_wp2_with fail
        apply region_all (by kernel_rfl) Keep Keep krg ktg krg ktg (fun _ _ h => h) [some 80, some 81, some 82, some 83, some 84, some 85, some 86, some 87, some 88, some 89, some 90, some 91, some 92, some 93, some 94, some 95, some 96, some 97, some 98, some 99, some 100, some 101, some 102, some 103, some 104, some 105, some 106, some 107, some 6] [eqG _ , eqG _ , eqG _ , eqG _ , eqG _ , eqG _ , eqG _ , eqG _ , eqG _ , eqG _ , eqG _ , eqG _ , eqG _ , eqG _ , eqG _ , eqG _ , fun us _ v => v = .string (str a), eqG _ , fun us _ v => v = .string (str b), fun us _ v => v = .bool qq, eqG _ , eqG _ , fun us _ v => v = .bool qq, fun us _ v => v = .bool true, eqG _ , eqG _ , fun us _ v => v = .bool true, eqG _ , eqG _ ] [⟨[], [], true, false, false⟩, ⟨[0], [], true, false, false⟩, ⟨[1], [], true, false, false⟩, ⟨[2], [], true, false, false⟩, ⟨[2, 3], [], true, false, false⟩, ⟨[2, 4], [], true, false, false⟩, ⟨[5], [], true, false, false⟩, ⟨[6], [], true, false, false⟩, ⟨[6, 7], [], true, false, false⟩, ⟨[6, 8], [], true, false, false⟩, ⟨[9], [], true, false, false⟩, ⟨[10], [], true, false, false⟩, ⟨[10, 11], [], true, false, false⟩, ⟨[10, 12], [], true, false, false⟩, ⟨[13], [], true, false, false⟩, ⟨[14], [], true, false, false⟩, ⟨[14, 15], [], true, false, false⟩, ⟨[14], [], true, false, false⟩, ⟨[14, 17], [], true, false, false⟩, ⟨[14, 16, 18], [], true, false, false⟩, ⟨[14], [], true, false, false⟩, ⟨[14], [], true, false, false⟩, ⟨[14, 20, 21], [], true, false, false⟩, ⟨[14, 19, 22], [], true, false, false⟩, ⟨[14, 23], [], true, false, false⟩, ⟨[24], [], true, false, false⟩, ⟨[25], [], true, false, false⟩, ⟨[25, 26], [], true, false, false⟩, ⟨[27], [], true, false, false⟩] [28] (by kernel_rfl) (by kernel_rfl) 
        · refine ⟨?_, ?_, ?_, ?_, ?_, ?_, ?_, ?_, ?_, ?_, ?_, ?_, ?_, ?_, ?_, ?_, ?_, ?_, ?_, ?_, ?_, ?_, ?_, ?_, ?_, ?_, ?_, ?_, ?_, trivial⟩ <;> (intro us W h9 hW hE hd hs K hK; obtain ⟨u0, u1, u2, u3, u4, u5, u6, u7, u8, u9, u10, u11, u12, u13, u14, u15, u16, u17, u18, u19, u20, u21, u22, u23, u24, u25, u26, u27, u28, rfl⟩ := rog 29 h9 rfl; clear h9; try simp only [DepG, AtG, and_true, relG, eqG, eqG1, eqG2, eqG3, gdG, gdG1, gnG, gnG1, List.getD_cons_zero, List.getD_cons_succ, List.getElem?_cons_succ, List.getElem?_cons_zero, Option.map_some, Option.getD_some, valsG, List.map_cons, List.map_nil, List.length_cons, List.length_nil] at hd)
          · ((try clear hd); clear hs; simp only [fillG, List.set_cons_zero, List.set_cons_succ]; refine want_n rfl ?_; go_wp2_with (first | fail); simp only [DoneG, fillG, List.set_cons_zero, List.set_cons_succ, relG, eqG, eqG1, eqG2, eqG3, gdG, gdG1, gnG, gnG1, List.getD_cons_zero, List.getD_cons_succ, List.getElem?_cons_succ, List.getElem?_cons_zero, Option.map_some, Option.getD_some, valsG, List.map_cons, List.map_nil, List.length_cons, List.length_nil]; exact ⟨_, rfl, (by first | with_reducible assumption | exact krg _ | exact Keep.al (krg _) _), fun _ _ => rfl⟩)
          · (have d0 := hd; clear hd; subst d0; clear hs; simp only [fillG, List.set_cons_zero, List.set_cons_succ]; refine want_n rfl ?_; go_wp2_with (first | fail); simp only [DoneG, fillG, List.set_cons_zero, List.set_cons_succ, relG, eqG, eqG1, eqG2, eqG3, gdG, gdG1, gnG, gnG1, List.getD_cons_zero, List.getD_cons_succ, List.getElem?_cons_succ, List.getElem?_cons_zero, Option.map_some, Option.getD_some, valsG, List.map_cons, List.map_nil, List.length_cons, List.length_nil]; exact ⟨_, rfl, (by first | with_reducible assumption | exact krg _ | exact Keep.al (krg _) _), fun _ _ => rfl⟩)
          · (have d1 := hd; clear hd; subst d1; clear hs; simp only [fillG, List.set_cons_zero, List.set_cons_succ]; refine want_n rfl ?_; go_wp2_with (first | fail); simp only [DoneG, fillG, List.set_cons_zero, List.set_cons_succ, relG, eqG, eqG1, eqG2, eqG3, gdG, gdG1, gnG, gnG1, List.getD_cons_zero, List.getD_cons_succ, List.getElem?_cons_succ, List.getElem?_cons_zero, Option.map_some, Option.getD_some, valsG, List.map_cons, List.map_nil, List.length_cons, List.length_nil]; exact ⟨_, rfl, (by first | with_reducible assumption | exact krg _ | exact Keep.al (krg _) _), fun _ _ => rfl⟩)
          · (have d2 := hd; clear hd; subst d2; clear hs; simp only [fillG, List.set_cons_zero, List.set_cons_succ]; refine want_y rfl ?_; go_wp2_with (first | fail); simp only [DoneG, fillG, List.set_cons_zero, List.set_cons_succ, relG, eqG, eqG1, eqG2, eqG3, gdG, gdG1, gnG, gnG1, List.getD_cons_zero, List.getD_cons_succ, List.getElem?_cons_succ, List.getElem?_cons_zero, Option.map_some, Option.getD_some, valsG, List.map_cons, List.map_nil, List.length_cons, List.length_nil]; exact ⟨_, rfl, (by first | with_reducible assumption | exact krg _ | exact Keep.al (krg _) _), fun _ _ => rfl⟩)
          · (obtain ⟨d2, d3⟩ := hd; subst d2; subst d3; clear hs; simp only [fillG, List.set_cons_zero, List.set_cons_succ]; refine want_y rfl ?_; go_wp2_with (first | fail); simp only [DoneG, fillG, List.set_cons_zero, List.set_cons_succ, relG, eqG, eqG1, eqG2, eqG3, gdG, gdG1, gnG, gnG1, List.getD_cons_zero, List.getD_cons_succ, List.getElem?_cons_succ, List.getElem?_cons_zero, Option.map_some, Option.getD_some, valsG, List.map_cons, List.map_nil, List.length_cons, List.length_nil]; exact ⟨_, rfl, (by first | with_reducible assumption | exact krg _ | exact Keep.al (krg _) _), fun _ _ => rfl⟩)
          · (obtain ⟨d2, d4⟩ := hd; subst d2; subst d4; clear hs; simp only [fillG, List.set_cons_zero, List.set_cons_succ]; refine want_n rfl ?_; go_wp2_with (first | fail); simp only [DoneG, fillG, List.set_cons_zero, List.set_cons_succ, relG, eqG, eqG1, eqG2, eqG3, gdG, gdG1, gnG, gnG1, List.getD_cons_zero, List.getD_cons_succ, List.getElem?_cons_succ, List.getElem?_cons_zero, Option.map_some, Option.getD_some, valsG, List.map_cons, List.map_nil, List.length_cons, List.length_nil]; exact ⟨_, rfl, (by first | with_reducible assumption | exact krg _ | exact Keep.al (krg _) _), fun _ _ => rfl⟩)
          · (have d5 := hd; clear hd; subst d5; clear hs; simp only [fillG, List.set_cons_zero, List.set_cons_succ]; refine want_n rfl ?_; go_wp2_with (first | fail); simp only [DoneG, fillG, List.set_cons_zero, List.set_cons_succ, relG, eqG, eqG1, eqG2, eqG3, gdG, gdG1, gnG, gnG1, List.getD_cons_zero, List.getD_cons_succ, List.getElem?_cons_succ, List.getElem?_cons_zero, Option.map_some, Option.getD_some, valsG, List.map_cons, List.map_nil, List.length_cons, List.length_nil]; exact ⟨_, rfl, (by first | with_reducible assumption | exact krg _ | exact Keep.al (krg _) _), fun _ _ => rfl⟩)
          · (have d6 := hd; clear hd; subst d6; clear hs; simp only [fillG, List.set_cons_zero, List.set_cons_succ]; refine want_y rfl ?_; go_wp2_with (first | fail); simp only [DoneG, fillG, List.set_cons_zero, List.set_cons_succ, relG, eqG, eqG1, eqG2, eqG3, gdG, gdG1, gnG, gnG1, List.getD_cons_zero, List.getD_cons_succ, List.getElem?_cons_succ, List.getElem?_cons_zero, Option.map_some, Option.getD_some, valsG, List.map_cons, List.map_nil, List.length_cons, List.length_nil]; exact ⟨_, rfl, (by first | with_reducible assumption | exact krg _ | exact Keep.al (krg _) _), fun _ _ => rfl⟩)
          · (obtain ⟨d6, d7⟩ := hd; subst d6; subst d7; clear hs; simp only [fillG, List.set_cons_zero, List.set_cons_succ]; refine want_y rfl ?_; go_wp2_with (first | fail); simp only [DoneG, fillG, List.set_cons_zero, List.set_cons_succ, relG, eqG, eqG1, eqG2, eqG3, gdG, gdG1, gnG, gnG1, List.getD_cons_zero, List.getD_cons_succ, List.getElem?_cons_succ, List.getElem?_cons_zero, Option.map_some, Option.getD_some, valsG, List.map_cons, List.map_nil, List.length_cons, List.length_nil]; exact ⟨_, rfl, (by first | with_reducible assumption | exact krg _ | exact Keep.al (krg _) _), fun _ _ => rfl⟩)
          · (obtain ⟨d6, d8⟩ := hd; subst d6; subst d8; clear hs; simp only [fillG, List.set_cons_zero, List.set_cons_succ]; refine want_n rfl ?_; go_wp2_with (first | fail); simp only [DoneG, fillG, List.set_cons_zero, List.set_cons_succ, relG, eqG, eqG1, eqG2, eqG3, gdG, gdG1, gnG, gnG1, List.getD_cons_zero, List.getD_cons_succ, List.getElem?_cons_succ, List.getElem?_cons_zero, Option.map_some, Option.getD_some, valsG, List.map_cons, List.map_nil, List.length_cons, List.length_nil]; exact ⟨_, rfl, (by first | with_reducible assumption | exact krg _ | exact Keep.al (krg _) _), fun _ _ => rfl⟩)
          · (have d9 := hd; clear hd; subst d9; clear hs; simp only [fillG, List.set_cons_zero, List.set_cons_succ]; refine want_n rfl ?_; go_wp2_with (first | fail); simp only [DoneG, fillG, List.set_cons_zero, List.set_cons_succ, relG, eqG, eqG1, eqG2, eqG3, gdG, gdG1, gnG, gnG1, List.getD_cons_zero, List.getD_cons_succ, List.getElem?_cons_succ, List.getElem?_cons_zero, Option.map_some, Option.getD_some, valsG, List.map_cons, List.map_nil, List.length_cons, List.length_nil]; exact ⟨_, rfl, (by first | with_reducible assumption | exact krg _ | exact Keep.al (krg _) _), fun _ _ => rfl⟩)
          · (have d10 := hd; clear hd; subst d10; clear hs; simp only [fillG, List.set_cons_zero, List.set_cons_succ]; refine want_y rfl ?_; go_wp2_with (first | fail); simp only [DoneG, fillG, List.set_cons_zero, List.set_cons_succ, relG, eqG, eqG1, eqG2, eqG3, gdG, gdG1, gnG, gnG1, List.getD_cons_zero, List.getD_cons_succ, List.getElem?_cons_succ, List.getElem?_cons_zero, Option.map_some, Option.getD_some, valsG, List.map_cons, List.map_nil, List.length_cons, List.length_nil]; exact ⟨_, rfl, (by first | with_reducible assumption | exact krg _ | exact Keep.al (krg _) _), fun _ _ => rfl⟩)
          · (obtain ⟨d10, d11⟩ := hd; subst d10; subst d11; clear hs; simp only [fillG, List.set_cons_zero, List.set_cons_succ]; refine want_y rfl ?_; go_wp2_with (first | fail); simp only [DoneG, fillG, List.set_cons_zero, List.set_cons_succ, relG, eqG, eqG1, eqG2, eqG3, gdG, gdG1, gnG, gnG1, List.getD_cons_zero, List.getD_cons_succ, List.getElem?_cons_succ, List.getElem?_cons_zero, Option.map_some, Option.getD_some, valsG, List.map_cons, List.map_nil, List.length_cons, List.length_nil]; exact ⟨_, rfl, (by first | with_reducible assumption | exact krg _ | exact Keep.al (krg _) _), fun _ _ => rfl⟩)
          · (obtain ⟨d10, d12⟩ := hd; subst d10; subst d12; clear hs; simp only [fillG, List.set_cons_zero, List.set_cons_succ]; refine want_n rfl ?_; go_wp2_with (first | fail); simp only [DoneG, fillG, List.set_cons_zero, List.set_cons_succ, relG, eqG, eqG1, eqG2, eqG3, gdG, gdG1, gnG, gnG1, List.getD_cons_zero, List.getD_cons_succ, List.getElem?_cons_succ, List.getElem?_cons_zero, Option.map_some, Option.getD_some, valsG, List.map_cons, List.map_nil, List.length_cons, List.length_nil]; exact ⟨_, rfl, (by first | with_reducible assumption | exact krg _ | exact Keep.al (krg _) _), fun _ _ => rfl⟩)
          · (have d13 := hd; clear hd; subst d13; clear hs; simp only [fillG, List.set_cons_zero, List.set_cons_succ]; refine want_n rfl ?_; go_wp2_with (first | fail); simp only [DoneG, fillG, List.set_cons_zero, List.set_cons_succ, relG, eqG, eqG1, eqG2, eqG3, gdG, gdG1, gnG, gnG1, List.getD_cons_zero, List.getD_cons_succ, List.getElem?_cons_succ, List.getElem?_cons_zero, Option.map_some, Option.getD_some, valsG, List.map_cons, List.map_nil, List.length_cons, List.length_nil]; exact ⟨_, rfl, (by first | with_reducible assumption | exact krg _ | exact Keep.al (krg _) _), fun _ _ => rfl⟩)
          · (have d14 := hd; clear hd; subst d14; clear hs; simp only [fillG, List.set_cons_zero, List.set_cons_succ]; refine want_y rfl ?_; go_wp2_with (first | fail); simp only [DoneG, fillG, List.set_cons_zero, List.set_cons_succ, relG, eqG, eqG1, eqG2, eqG3, gdG, gdG1, gnG, gnG1, List.getD_cons_zero, List.getD_cons_succ, List.getElem?_cons_succ, List.getElem?_cons_zero, Option.map_some, Option.getD_some, valsG, List.map_cons, List.map_nil, List.length_cons, List.length_nil]; exact ⟨_, rfl, (by first | with_reducible assumption | exact krg _ | exact Keep.al (krg _) _), fun _ _ => rfl⟩)
          · (obtain ⟨d14, d15⟩ := hd; subst d14; subst d15; clear hs; simp only [fillG, List.set_cons_zero, List.set_cons_succ]; have hKW := Keep.tr (Keep.dr (Keep.rf _)) (hE rfl); have p0 := Keep.cell hKW p0; have p1 := Keep.cell hKW p1; have p2 := Keep.cell hKW p2; have q0 := Keep.cell hKW q0; have q1 := Keep.cell hKW q1; have q2 := Keep.cell hKW q2; refine want_y rfl ?_; have hc := run_conv_bs (P := Try.prog) (HBA2.out.keep hKW) 22 5 9 Try.underlying22 Try.underlying5 Try.underlying9; go_wp2_with fail; simp only [DoneG, fillG, List.set_cons_zero, List.set_cons_succ, relG, eqG, eqG1, eqG2, eqG3, gdG, gdG1, gnG, gnG1, List.getD_cons_zero, List.getD_cons_succ, List.getElem?_cons_succ, List.getElem?_cons_zero, Option.map_some, Option.getD_some, valsG, List.map_cons, List.map_nil, List.length_cons, List.length_nil]; exact ⟨_, rfl, (by first | with_reducible assumption | exact krg _ | exact Keep.al (krg _) _), fun _ _ => rfl⟩)
          · (have d14 := hd; clear hd; subst d14; clear hs; simp only [fillG, List.set_cons_zero, List.set_cons_succ]; refine want_y rfl ?_; go_wp2_with (first | fail); simp only [DoneG, fillG, List.set_cons_zero, List.set_cons_succ, relG, eqG, eqG1, eqG2, eqG3, gdG, gdG1, gnG, gnG1, List.getD_cons_zero, List.getD_cons_succ, List.getElem?_cons_succ, List.getElem?_cons_zero, Option.map_some, Option.getD_some, valsG, List.map_cons, List.map_nil, List.length_cons, List.length_nil]; exact ⟨_, rfl, (by first | with_reducible assumption | exact krg _ | exact Keep.al (krg _) _), fun _ _ => rfl⟩)
          · (obtain ⟨d14, d17⟩ := hd; subst d14; subst d17; clear hs; simp only [fillG, List.set_cons_zero, List.set_cons_succ]; have hKW := Keep.tr (Keep.dr (Keep.rf _)) (hE rfl); have p0 := Keep.cell hKW p0; have p1 := Keep.cell hKW p1; have p2 := Keep.cell hKW p2; have q0 := Keep.cell hKW q0; have q1 := Keep.cell hKW q1; have q2 := Keep.cell hKW q2; refine want_y rfl ?_; have hc := run_conv_bs (P := Try.prog) (HBB.out.keep hKW) 22 5 9 Try.underlying22 Try.underlying5 Try.underlying9; go_wp2_with fail; simp only [DoneG, fillG, List.set_cons_zero, List.set_cons_succ, relG, eqG, eqG1, eqG2, eqG3, gdG, gdG1, gnG, gnG1, List.getD_cons_zero, List.getD_cons_succ, List.getElem?_cons_succ, List.getElem?_cons_zero, Option.map_some, Option.getD_some, valsG, List.map_cons, List.map_nil, List.length_cons, List.length_nil]; exact ⟨_, rfl, (by first | with_reducible assumption | exact krg _ | exact Keep.al (krg _) _), fun _ _ => rfl⟩)
          · (obtain ⟨d14, d16, d18⟩ := hd; subst d14; subst d16; subst d18; clear hs; simp only [fillG, List.set_cons_zero, List.set_cons_succ]; have hKW := Keep.tr (Keep.dr (Keep.rf _)) (hE rfl); have p0 := Keep.cell hKW p0; have p1 := Keep.cell hKW p1; have p2 := Keep.cell hKW p2; have q0 := Keep.cell hKW q0; have q1 := Keep.cell hKW q1; have q2 := Keep.cell hKW q2; refine want_y rfl ?_; go_wp2_with (first | fail); simp only [DoneG, fillG, List.set_cons_zero, List.set_cons_succ, relG, eqG, eqG1, eqG2, eqG3, gdG, gdG1, gnG, gnG1, List.getD_cons_zero, List.getD_cons_succ, List.getElem?_cons_succ, List.getElem?_cons_zero, Option.map_some, Option.getD_some, valsG, List.map_cons, List.map_nil, List.length_cons, List.length_nil]; exact ⟨_, rfl, (by first | with_reducible assumption | exact krg _ | exact Keep.al (krg _) _), fun _ _ => rfl⟩)
          · (have d14 := hd; clear hd; subst d14; clear hs; simp only [fillG, List.set_cons_zero, List.set_cons_succ]; have hKW := Keep.tr (Keep.dr (Keep.rf _)) (hE rfl); have p0 := Keep.cell hKW p0; have p1 := Keep.cell hKW p1; have p2 := Keep.cell hKW p2; have q0 := Keep.cell hKW q0; have q1 := Keep.cell hKW q1; have q2 := Keep.cell hKW q2; refine want_y rfl ?_; go_wp2_with (first | fail); simp only [DoneG, fillG, List.set_cons_zero, List.set_cons_succ, relG, eqG, eqG1, eqG2, eqG3, gdG, gdG1, gnG, gnG1, List.getD_cons_zero, List.getD_cons_succ, List.getElem?_cons_succ, List.getElem?_cons_zero, Option.map_some, Option.getD_some, valsG, List.map_cons, List.map_nil, List.length_cons, List.length_nil]; exact ⟨_, rfl, (by first | with_reducible assumption | exact krg _ | exact Keep.al (krg _) _), fun _ _ => rfl⟩)
          · (have d14 := hd; clear hd; subst d14; clear hs; simp only [fillG, List.set_cons_zero, List.set_cons_succ]; have hKW := Keep.tr (Keep.dr (Keep.rf _)) (hE rfl); have p0 := Keep.cell hKW p0; have p1 := Keep.cell hKW p1; have p2 := Keep.cell hKW p2; have q0 := Keep.cell hKW q0; have q1 := Keep.cell hKW q1; have q2 := Keep.cell hKW q2; refine want_y rfl ?_; go_wp2_with (first | fail); simp only [DoneG, fillG, List.set_cons_zero, List.set_cons_succ, relG, eqG, eqG1, eqG2, eqG3, gdG, gdG1, gnG, gnG1, List.getD_cons_zero, List.getD_cons_succ, List.getElem?_cons_succ, List.getElem?_cons_zero, Option.map_some, Option.getD_some, valsG, List.map_cons, List.map_nil, List.length_cons, List.length_nil]; exact ⟨_, rfl, (by first | with_reducible assumption | exact krg _ | exact Keep.al (krg _) _), fun _ _ => rfl⟩)
          · (obtain ⟨d14, d20, d21⟩ := hd; subst d14; subst d20; subst d21; clear hs; simp only [fillG, List.set_cons_zero, List.set_cons_succ]; have hKW := Keep.tr (Keep.dr (Keep.rf _)) (hE rfl); have p0 := Keep.cell hKW p0; have p1 := Keep.cell hKW p1; have p2 := Keep.cell hKW p2; have q0 := Keep.cell hKW q0; have q1 := Keep.cell hKW q1; have q2 := Keep.cell hKW q2; refine want_y rfl ?_; go_wp2_with (first | (go_at_call 18; refine (HSM.out _ hKW).mono ?_; rintro e w9 ⟨rfl, hk9⟩) | fail); simp only [DoneG, fillG, List.set_cons_zero, List.set_cons_succ, relG, eqG, eqG1, eqG2, eqG3, gdG, gdG1, gnG, gnG1, List.getD_cons_zero, List.getD_cons_succ, List.getElem?_cons_succ, List.getElem?_cons_zero, Option.map_some, Option.getD_some, valsG, List.map_cons, List.map_nil, List.length_cons, List.length_nil]; exact ⟨_, rfl, (by first | with_reducible assumption | exact krg _ | exact Keep.al (krg _) _), fun _ _ => rfl⟩)
          · (obtain ⟨d14, d19, d22⟩ := hd; subst d14; subst d19; subst d22; clear hs; simp only [fillG, List.set_cons_zero, List.set_cons_succ]; have hKW := Keep.tr (Keep.dr (Keep.rf _)) (hE rfl); have p0 := Keep.cell hKW p0; have p1 := Keep.cell hKW p1; have p2 := Keep.cell hKW p2; have q0 := Keep.cell hKW q0; have q1 := Keep.cell hKW q1; have q2 := Keep.cell hKW q2; refine want_y rfl ?_; go_wp2_with (first | fail); simp only [DoneG, fillG, List.set_cons_zero, List.set_cons_succ, relG, eqG, eqG1, eqG2, eqG3, gdG, gdG1, gnG, gnG1, List.getD_cons_zero, List.getD_cons_succ, List.getElem?_cons_succ, List.getElem?_cons_zero, Option.map_some, Option.getD_some, valsG, List.map_cons, List.map_nil, List.length_cons, List.length_nil]; exact ⟨_, rfl, (by first | with_reducible assumption | exact krg _ | exact Keep.al (krg _) _), fun _ _ => rfl⟩)
          · (obtain ⟨d14, d23⟩ := hd; subst d14; subst d23; clear hs; simp only [fillG, List.set_cons_zero, List.set_cons_succ]; refine want_n rfl ?_; go_wp2_with (first | fail); simp only [DoneG, fillG, List.set_cons_zero, List.set_cons_succ, relG, eqG, eqG1, eqG2, eqG3, gdG, gdG1, gnG, gnG1, List.getD_cons_zero, List.getD_cons_succ, List.getElem?_cons_succ, List.getElem?_cons_zero, Option.map_some, Option.getD_some, valsG, List.map_cons, List.map_nil, List.length_cons, List.length_nil]; exact ⟨_, rfl, (by first | with_reducible assumption | exact krg _ | exact Keep.al (krg _) _), fun _ _ => rfl⟩)
          · (have d24 := hd; clear hd; subst d24; clear hs; simp only [fillG, List.set_cons_zero, List.set_cons_succ]; refine want_n rfl ?_; go_wp2_with (first | fail); simp only [DoneG, fillG, List.set_cons_zero, List.set_cons_succ, relG, eqG, eqG1, eqG2, eqG3, gdG, gdG1, gnG, gnG1, List.getD_cons_zero, List.getD_cons_succ, List.getElem?_cons_succ, List.getElem?_cons_zero, Option.map_some, Option.getD_some, valsG, List.map_cons, List.map_nil, List.length_cons, List.length_nil]; exact ⟨_, rfl, (by first | with_reducible assumption | exact krg _ | exact Keep.al (krg _) _), fun _ _ => rfl⟩)
          · (have d25 := hd; clear hd; subst d25; clear hs; simp only [fillG, List.set_cons_zero, List.set_cons_succ]; have hKW := Keep.tr (Keep.dr (Keep.rf _)) (hE rfl); have p0 := Keep.cell hKW p0; have p1 := Keep.cell hKW p1; have p2 := Keep.cell hKW p2; have q0 := Keep.cell hKW q0; have q1 := Keep.cell hKW q1; have q2 := Keep.cell hKW q2; refine want_y rfl ?_; go_wp2_with (first | (go_at_call 19; refine (law22Known _).mono ?_; rintro e w9 ⟨rfl, hk9⟩) | fail); simp only [DoneG, fillG, List.set_cons_zero, List.set_cons_succ, relG, eqG, eqG1, eqG2, eqG3, gdG, gdG1, gnG, gnG1, List.getD_cons_zero, List.getD_cons_succ, List.getElem?_cons_succ, List.getElem?_cons_zero, Option.map_some, Option.getD_some, valsG, List.map_cons, List.map_nil, List.length_cons, List.length_nil]; exact ⟨_, rfl, (by first | with_reducible assumption | exact krg _ | exact Keep.al (krg _) _), fun _ _ => rfl⟩)
          · (obtain ⟨d25, d26⟩ := hd; subst d25; subst d26; clear hs; simp only [fillG, List.set_cons_zero, List.set_cons_succ]; refine want_n rfl ?_; go_wp2_with (first | fail); simp only [DoneG, fillG, List.set_cons_zero, List.set_cons_succ, relG, eqG, eqG1, eqG2, eqG3, gdG, gdG1, gnG, gnG1, List.getD_cons_zero, List.getD_cons_succ, List.getElem?_cons_succ, List.getElem?_cons_zero, Option.map_some, Option.getD_some, valsG, List.map_cons, List.map_nil, List.length_cons, List.length_nil]; exact ⟨_, rfl, (by first | with_reducible assumption | exact krg _ | exact Keep.al (krg _) _), fun _ _ => rfl⟩)
          · (have d27 := hd; clear hd; subst d27; clear hs; simp only [fillG, List.set_cons_zero, List.set_cons_succ]; refine want_n rfl ?_; go_wp2_with (first | fail); simp only [DoneG, fillG, List.set_cons_zero, List.set_cons_succ, relG, eqG, eqG1, eqG2, eqG3, gdG, gdG1, gnG, gnG1, List.getD_cons_zero, List.getD_cons_succ, List.getElem?_cons_succ, List.getElem?_cons_zero, Option.map_some, Option.getD_some, valsG, List.map_cons, List.map_nil, List.length_cons, List.length_nil]; exact ⟨_, rfl, (by first | with_reducible assumption | exact krg _ | exact Keep.al (krg _) _), fun _ _ => rfl⟩)
        (intro us WZ h9 hW hE hA; obtain ⟨u0, u1, u2, u3, u4, u5, u6, u7, u8, u9, u10, u11, u12, u13, u14, u15, u16, u17, u18, u19, u20, u21, u22, u23, u24, u25, u26, u27, u28, rfl⟩ := rog 29 h9 rfl; clear h9; simp only [AllG, AtG, and_true, relG, eqG, eqG1, eqG2, eqG3, gdG, gdG1, gnG, gnG1, List.getD_cons_zero, List.getD_cons_succ, List.getElem?_cons_succ, List.getElem?_cons_zero, Option.map_some, Option.getD_some, valsG, List.map_cons, List.map_nil, List.length_cons, List.length_nil] at hA; have d28 := hA; clear hA; subst d28; simp only [fillG, List.set_cons_zero, List.set_cons_succ]; have kZ := Keep.tr (Keep.dr (Keep.rf _)) hW; clear hW hE)
        go_wp2_with fail
        go_ret
        exact ⟨rfl, Keep.tr K6.out (Keep.tr KN12.out kZ)⟩
      · have hcb : (ck' != 0) = true := by rw [bne_iff_ne]; exact hc
        clear HPA HPB HEQ
        go_wp2_with fail
        go_ret
        exact ⟨rfl, K6.out⟩
    · have hcb : (cc != 0) = true := by rw [bne_iff_ne]; exact hc
      clear HPA HPB HEQ
      go_wp2_with fail
      go_ret
      exact ⟨rfl, K6.out⟩
end Go.Proofs.Ytoehaijmkmdggaa
