/- The law UnpickTurned: walk. -/
import Derived.Test.YtoehaijmkmdggaaUnpGra
import Derived.Test.YtoehaijmkmdggaaRdTu
namespace Go.Proofs.Ytoehaijmkmdggaa
open Go.RowKit
open Em (Ty)
set_option linter.unusedVariables false
set_option linter.unusedSimpArgs false
set_option maxRecDepth 100000
theorem and_low23 (n : Int) : ∃ m : Nat, m ≤ 65535 ∧ bits .and .i64 n 65535 = (m : Int) := by
  refine ⟨(BitVec.ofInt 64 n &&& BitVec.ofInt 64 65535).toNat, ?_, ?_⟩
  · rw [BitVec.toNat_and]
    exact Nat.le_trans Nat.and_le_right (by decide)
  · have h : (BitVec.ofInt 64 n &&& BitVec.ofInt 64 65535).toNat ≤ 65535 := by
      rw [BitVec.toNat_and]
      exact Nat.le_trans Nat.and_le_right (by decide)
    show IntKind.i64.wrap ((BitVec.ofInt 64 n &&& BitVec.ofInt 64 65535).toNat : Int) = _
    rw [IntKind.wrap_i64]
    generalize (BitVec.ofInt 64 n &&& BitVec.ofInt 64 65535).toNat = m at h
    omega
set_option maxHeartbeats 16000000 in
theorem UnpickTurned_walk (w : World) (v : Value) (b : List UInt8) (hb : Bs w v b) (_hz : b.length ≤ 140737488351232) (tv : Value) (t : Ty) (ht0 : TyV w tv t) (_ht1 : True) (at_ : Int) (hat : (Lit.int .i64 at_).wf = true) (c : Int) (hc : (Lit.int .u8 c).wf = true) (way : Int) (hway : (Lit.int .i64 way).wf = true) : Calls Try.prog 7 #[v, tv, .int .i64 at_, .int .u8 c, .int .i64 way] w fun e w' => e = .returned (.bool true) ∧ Keep w w' := by
  obtain ⟨d, cs, rfl, ht⟩ := ht0
  obtain ⟨c, rfl⟩ := in_u8 hc
  have hwb := in_i64 hway
  clear hat hc hway
  cases d with
  | zero => exact ht.elim
  | succ d =>
    have HT := hide ht
    obtain ⟨v9, rfl, hn, hs⟩ := ht
    obtain ⟨Ak, ck, rfl, _⟩ := id hs
    have HB := hide hb
    obtain ⟨A, cb, rfl, hlc, hcm, _⟩ := hb
    have SZ := hide fun W (k : Keep w W) => refSizeT (d + 1) t W _ 100 (HT.out.keep k) (by omega) (by omega)
    have GU := hide fun l W (k : Keep w W) (v : Value) (hv : Bs W v l) => unpickGraph l t (d + 1) _ W v hv (HT.out.keep k)
    have GV := hide fun l W (k : Keep w W) (v : Value) (hv : Bs W v l) => refGraph23 l t (d + 1) _ W v hv (HT.out.keep k)
    have HCUT := hide (fun (h : (Em.graphP b t).2 = 0) (k : Nat) (hk : k < b.length) => Em.graphP_cut h hk)
    have HMORE := hide (fun (h : (Em.graphP b t).2 = 0) (hl : b.length < 4000) => Em.graphP_more h c hl)
    clear hs hn
    by_cases gA : b.length < 1
    · go_enter Try.func7, Try.ntmps7
      go_wp2_with fail
      go_ret
      exact ⟨rfl, (by repeat (first | exact Keep.rf _ | assumption | apply Keep.al | apply Keep.dr | apply Keep.dn))⟩
    by_cases gB : 300 < b.length
    · go_enter Try.func7, Try.ntmps7
      go_wp2_with fail
      go_ret
      exact ⟨rfl, (by repeat (first | exact Keep.rf _ | assumption | apply Keep.al | apply Keep.dr | apply Keep.dn))⟩
    have hB := heap_alloc_new w (.cells #[.string (str t.op), .int .i64 t.n, .slice Ak t.kids.length ck] 25)
    have kB : Keep w (w.alloc (.cells #[.string (str t.op), .int .i64 t.n, .slice Ak t.kids.length ck] 25)) := (by repeat (first | exact Keep.rf _ | assumption | apply Keep.al | apply Keep.dr | apply Keep.dn))
    have HBX := hide hB
    have KB := hide kB
    clear hB kB
    go_enter Try.func7, Try.ntmps7
    go_wp2_with fail
    generalize World.alloc w _ = wa at *
    refine (SZ.out _ KB.out).mono ?_
    rintro e w1 ⟨rfl, k1⟩
    generalize hsz : Em.sz 100 t = sz
    have K1 := hide (Keep.tr KB.out k1)
    have HCX := hide (fun W (k : Keep w1 W) => by
      have h := ((Keep.tr k1 k).frm fun _ => False).heap (fun h => h) HBX.out
      have b0 := top_cells h 0
      have b1 := top_cells h 1
      have b2 := top_cells h 2
      simp only [List.getElem?_toArray, List.getElem?_cons_succ, List.getElem?_cons_zero] at b0 b1 b2
      exact And.intro b0 (And.intro b1 b2))
    clear k1 hsz
    by_cases g2 : 50 < sz
    · go_wp2_with fail
      go_ret
      exact ⟨rfl, K1.out⟩
    by_cases g3 : way < 0
    · go_wp2_with fail
      go_ret
      exact ⟨rfl, K1.out⟩
    by_cases g4 : way > 2
    · go_wp2_with fail
      go_ret
      exact ⟨rfl, K1.out⟩
    have hw02 := hide (show way = 0 ∨ way = 1 ∨ way = 2 from by omega)
    obtain ⟨m, hm, hand⟩ := and_low23 at_
    obtain ⟨b0, b1, b2⟩ := HCX.out w1 (Keep.rf _)
    have GVX := hide (GV.out b w1 K1.out _ (HB.out.keep K1.out))
    go_wp2_with fail
    clear b0 b1 b2
    refine GVX.out.mono ?_
    intro e w3 hG
    obtain ⟨A3, c3, rfl, -, k3⟩ := hG.outT
    have K3 := hide (Keep.tr K1.out k3)
    have K13 := hide k3
    clear hG k3 GVX
    generalize hgp : Em.graphP b t = go at *
    clear hgp
    by_cases hcc : go.2 = 0
    rotate_left
    · have hcb : (go.2 != 0) = true := by simpa using hcc
      go_wp2_with fail
      go_ret
      exact ⟨rfl, Keep.tr K3.out (by repeat (first | exact Keep.rf _ | assumption | apply Keep.al | apply Keep.dr | apply Keep.dn))⟩
    have hcb : (go.2 != 0) = false := by rw [hcc]; rfl
    have HCU := hide (HCUT.out hcc)
    have HMO := hide (HMORE.out hcc (by omega))
    have hpos : 0 < b.length := by omega
    have hml : m % b.length < b.length := Nat.mod_lt _ hpos
    have hlen0 : ((b.length : Int) == 0) = false := by rw [beq_eq_false_iff_ne]; omega
    clear hcc
    go_upto_block 0 with (first
      | (at_builtin; go_loud (refine wpList_plain rfl (fun _ hK => wp_app0 (.tmp 48) (.tmp 49) 22 rfl w3.heap.size 5 _ 1 1 Try.underlying22 infoU8 rfl (by omega) (w3.heap.size + 1) rfl (new_second w3 _ _) (Nat.le_succ _) _ b.length _ rfl (HB.out.keep (Keep.tr K3.out (by repeat (first | exact Keep.rf _ | assumption | apply Keep.al | apply Keep.dr | apply Keep.dn)))).src (by simp only [maxLen]; omega) (by omega) (by simp only [size_alloc]; omega) fun A5 c5 w5 ho5 hk5 => hK _ _ ?_)); have HO5 := hide (show Ob w5 w3.heap.size 5 (.slice A5 b.length c5) b from ho5); have HK5 := hide (Keep.tr ((by repeat (first | exact Keep.rf _ | assumption | apply Keep.al | apply Keep.dr | apply Keep.dn)) : Keep w3 _) hk5); clear ho5 hk5)
      | fail)
    have hki : (m : Int) % (b.length : Int) = ((m % b.length : Nat) : Int) := by rw [Int.natCast_emod]
    rw [hki]
    generalize hkk : m % b.length = k at *
    clear hki hand hkk
    obtain ⟨g, cap, e5, hcap, hg3, hg4, hcl, hfz⟩ := Ob.form HO5.out hpos
    cases e5
    have hbl : b.length ≤ 300 := by omega
    go_cut [13] (fun v W => ∃ A n c l, v = .slice A n c ∧ Bs W (.slice A n c) l ∧ Keep w3 W ∧ (way ≠ 0 → (Em.graphP l t).2 = 2))
    case first =>
      rcases hw02.out with rfl | rfl | rfl
      · have hck : w5.cell? ⟨g, k, none⟩ = some (.int .u8 (b[k].toNat : Int)) := hcl k hml
        have hfk := hfz k
        have hset := HO5.out.set rfl k c
        have HSET := hide hset
        have hkset : Keep w3 (w5.setCell ⟨g, k, none⟩ (bv c)) := Keep.st HK5.out (p := ⟨g, k, none⟩) hg3 _
        have HKS := hide hkset
        clear hset hkset
        go_wp2_with fail
        go_meet
        exact ⟨_, _, _, b.set k c, rfl, (show Bs (w5.setCell ⟨g, k, none⟩ (bv c)) _ _ from by have := HSET.out.bs; simpa [List.length_set] using this), HKS.out, fun h => absurd rfl h⟩
      · go_wp2_with (first
          | (refine slTo rfl (.tmp 69) (.tmp 70) _ _ rfl Try.underlying22 sizeB8 _ b rfl HO5.out.bs .i64 _ rfl k rfl (by omega) ?_; intro A6 c6 hb6 _ _)
          | fail)
        go_meet
        exact ⟨_, _, _, b.take k, rfl, hb6, HK5.out, fun _ => HCU.out k hml⟩
      · have hbx : Bs (w5.alloc (.cells #[.int .u8 (c.toNat : Int)] 5)) (.slice (some ⟨w5.heap.size, 0, none⟩) 1 1) [c] := Bs.box rfl rfl
        have HBX2 := hide hbx
        clear hbx
        go_wp2_with (first
          | (at_builtin; go_loud (refine appB (w0 := w3) rfl (.tmp 57) (.tmp 59) rfl _ b rfl (Ob.keep HO5.out (by repeat (first | exact Keep.rf _ | assumption | apply Keep.al | apply Keep.dr | apply Keep.dn))) _ [c] rfl HBX2.out (Keep.tr HK5.out (by repeat (first | exact Keep.rf _ | assumption | apply Keep.al | apply Keep.dr | apply Keep.dn))) (by simp only [List.length_singleton]; omega) ?_; intro v6 w6 ho6 hk6 _ _; obtain ⟨A6, c6, rfl⟩ := own_slice (show w6.ownsRow _ _ _ _ _ _ from ho6); have HO6 := hide ho6; clear ho6))
          | fail)
        go_meet
        exact ⟨_, _, _, b ++ [c], rfl, (by have := HO6.out.bs; simpa [List.length_append] using this), hk6, fun _ => HMO.out⟩
    case rest =>
      obtain ⟨A6, n6, c6, l, rfl, hb6, k36, hno⟩ := hcut
      rename World => w6
      have HNO := hide hno
      have HB6 := hide hb6
      have K6 := hide (Keep.tr K3.out k36)
      have KX6 := hide (Keep.tr K13.out k36)
      have HGU := hide (GU.out l w6 K6.out _ hb6)
      obtain ⟨b0, b1, b2⟩ := HCX.out w6 KX6.out
      clear hno HO5 hcl hfz hb6 k36
      go_wp2_with fail
      refine HGU.out.mono ?_
      intro e w7 hG
      obtain ⟨A7, c7, rfl, hg7, k7⟩ := hG.outT
      have HGV := hide (fun W (k : Keep w6 W) => GV.out l W (Keep.tr K6.out k) _ (HB6.out.keep k))
      clear hG b0 b1 b2 HGU
      have ha := heap_alloc_new w7 (.cells #[.bool (Em.graphP l t).1.root.1, .int .i64 (Em.graphP l t).1.root.2, .slice A7 (Em.graphP l t).1.blocks.length c7] 31)
      have ka : Keep w7 (w7.alloc (.cells #[.bool (Em.graphP l t).1.root.1, .int .i64 (Em.graphP l t).1.root.2, .slice A7 (Em.graphP l t).1.blocks.length c7] 31)) := (by repeat (first | exact Keep.rf _ | assumption | apply Keep.al | apply Keep.dr | apply Keep.dn))
      have hg8 := (hg7.keep ka).1
      have k8 := Keep.tr k7 ka
      obtain ⟨b0, b1, b2⟩ := HCX.out _ (Keep.tr KX6.out k8)
      have HGVX := hide (HGV.out _ k8)
      have HA := hide ha
      have HG8 := hide hg8
      have K8 := hide (Keep.tr K6.out k8)
      clear ha ka hg8 k8 hg7 k7 HGV
      go_wp2_with fail
      generalize World.alloc w7 _ = w8 at *
      refine HGVX.out.mono ?_
      intro e w9 hG
      obtain ⟨A9, c9, rfl, hg9, k9⟩ := hG.outT
      have ka : Keep w9 (w9.alloc (.cells #[.bool (Em.graphP l t).1.root.1, .int .i64 (Em.graphP l t).1.root.2, .slice A9 (Em.graphP l t).1.blocks.length c9] 31)) := (by repeat (first | exact Keep.rf _ | assumption | apply Keep.al | apply Keep.dr | apply Keep.dn))
      have ha := heap_alloc_new w9 (.cells #[.bool (Em.graphP l t).1.root.1, .int .i64 (Em.graphP l t).1.root.2, .slice A9 (Em.graphP l t).1.blocks.length c9] 31)
      have k89 := Keep.tr k9 ka
      have h8' := (k89.frm fun _ => False).heap (fun h => h) HA.out
      have p0 := top_cells h8' 0
      have p1 := top_cells h8' 1
      have p2 := top_cells h8' 2
      have q0 := top_cells ha 0
      have q1 := top_cells ha 1
      have q2 := top_cells ha 2
      simp only [List.getElem?_toArray, List.getElem?_cons_succ, List.getElem?_cons_zero] at p0 p1 p2 q0 q1 q2
      have HGA := hide (HG8.out.keep k89)
      have HGB := hide (hg9.keep ka).1
      have KA := hide (Keep.tr K8.out k89)
      clear hG ka ha k89 h8' hg9 k9 b0 b1 b2 HA HG8 HGVX
      generalize Em.graphP l t = oo at *
      go_wp2_with fail
      generalize World.alloc w9 _ = Wa at *
      refine (refSame18 _ _ _ _ _ HGA.out HGB.out).mono ?_
      rintro e w10 ⟨rfl, k10⟩
      rw [decide_eq_true rfl]
      have K10 := hide (Keep.tr KA.out k10)
      clear k10 p0 p1 p2 q0 q1 q2
      by_cases hw0 : way = 0
      · subst hw0
        go_wp2_with fail
        refine (law23Known _).mono ?_
        rintro e w12 ⟨rfl, k12⟩
        go_wp2_with fail
        go_ret
        exact ⟨rfl, Keep.tr K10.out k12⟩
      · have hc2 := HNO.out hw0
        have hwb0 : (way == 0) = false := by simpa using hw0
        obtain ⟨gg, cc⟩ := oo
        simp only at hc2
        subst hc2
        go_wp2_with fail
        refine (law23Known _).mono ?_
        rintro e w12 ⟨rfl, k12⟩
        go_wp2_with fail
        go_ret
        exact ⟨rfl, Keep.tr K10.out k12⟩
end Go.Proofs.Ytoehaijmkmdggaa
