/- The law UnpickBack: walk. -/
import Derived.Test.YtoehaijmkmdggaaURdG
import Derived.Test.YtoehaijmkmdggaaURdK
import Derived.Test.YtoehaijmkmdggaaUBldR
import Derived.Test.YtoehaijmkmdggaaURkG
import Derived.Test.YtoehaijmkmdggaaUPkL
set_option linter.unusedSimpArgs false
set_option linter.unusedVariables false
namespace Go.Proofs.Ytoehaijmkmdggaa
open Go.RowKit
open Em (Ty)
set_option linter.unusedVariables false
set_option linter.unusedSimpArgs false
set_option maxRecDepth 100000
theorem Em.graphP_bad {b : List UInt8} {t : Ty} {g : Em.Gr} {c : Int} (h : Em.graphP b t = (g, c)) (hc : ¬ c = 0) : g.blocks = [] := by
  unfold Em.graphP at h
  split at h
  · split at h
    · injection h with h _
      rw [← h]
    · split at h
      · injection h with h _
        rw [← h]
      · split at h
        · injection h with _ h
          exact absurd h.symm hc
        · injection h with h _
          rw [← h]
  · injection h with h _
    rw [← h]
/-- A graph and an error were answered, written out. -/
theorem GrR.outU {w w' : World} {o : Em.Gr × Int} {e : Ending} (h : GrR w o e w') : ∃ A c, e = .returned (.tuple #[.agg #[.bool o.1.root.1, .int .i64 o.1.root.2, .slice A o.1.blocks.length c], .int .i64 o.2]) ∧ GrV w' (.agg #[.bool o.1.root.1, .int .i64 o.1.root.2, .slice A o.1.blocks.length c]) o.1 ∧ Keep w w' := by
  obtain ⟨v, rfl, hg, k⟩ := h
  have hg1 := hg.1
  obtain ⟨u, rfl, _, hsl⟩ := id hg1
  obtain ⟨A, c, rfl, _⟩ := id hsl
  exact ⟨A, c, rfl, hg1, k⟩
set_option maxHeartbeats 8000000 in
theorem UnpickBack_walk (w : World) (v : Value) (b : List UInt8) (hb : Bs w v b) (_hz : b.length ≤ 140737488351232) (tv : Value) (t : Ty) (ht0 : TyV w tv t) (_ht1 : True) : Calls Try.prog 6 #[v, tv] w fun e w' => e = .returned (.bool true) ∧ Keep w w' := by
  obtain ⟨d, cs, rfl, ht⟩ := ht0
  cases d with
  | zero => exact ht.elim
  | succ d =>
    have HT := hide ht
    obtain ⟨v9, rfl, hn, hs⟩ := ht
    obtain ⟨Ak, ck, rfl, _⟩ := id hs
    have HB := hide hb
    obtain ⟨A, c, rfl, hlc, hcm, _⟩ := hb
    have SZ := hide fun W (k : Keep w W) => refSizeT (d + 1) t W _ 100 (HT.out.keep k) (by omega) (by omega)
    have GV := hide fun W (k : Keep w W) => unpickGraph b t (d + 1) _ W _ (HB.out.keep k) (HT.out.keep k)
    have HPL := hide fun (g : Em.Gr) (h : Em.graphP b t = (g, 0)) (hl : b.length ≤ 300) => And.intro (Em.graphP_need h) (Em.pick_built h 9000 [] (by simp only [Em.used]; omega) (by omega))
    have HBAD := hide fun (g : Em.Gr) (cc : Int) (h : Em.graphP b t = (g, cc)) (hc : ¬ cc = 0) => Em.graphP_bad h hc
    generalize hgo : Em.graphP b t = go at *
    clear hgo hs hn
    by_cases g1 : 300 < b.length
    · go_enter Try.func6, Try.ntmps6
      go_wp2_with fail
      go_ret
      exact ⟨rfl, (by repeat (first | exact Keep.rf _ | assumption | apply Keep.al | apply Keep.dr | apply Keep.dn))⟩
    have hl3 : b.length ≤ 300 := by omega
    have hB := heap_alloc_new w (.cells #[.string (str t.op), .int .i64 t.n, .slice Ak t.kids.length ck] 25)
    have kB : Keep w (w.alloc (.cells #[.string (str t.op), .int .i64 t.n, .slice Ak t.kids.length ck] 25)) := (by repeat (first | exact Keep.rf _ | assumption | apply Keep.al | apply Keep.dr | apply Keep.dn))
    have hlt := (Array.getElem?_eq_some_iff.1 hB).1
    have HBX := hide hB
    have KB := hide kB
    clear hB kB
    go_enter Try.func6, Try.ntmps6
    go_wp2_with fail
    generalize World.alloc w _ = wa at *
    refine (SZ.out _ KB.out).mono ?_
    rintro e w1 ⟨rfl, k1⟩
    generalize hsz : Em.sz 100 t = sz
    have K1 := hide (Keep.tr KB.out k1)
    have hB1 := (k1.frm fun _ => False).heap (fun h => h) HBX.out
    have b0 := top_cells hB1 0
    have b1 := top_cells hB1 1
    have b2 := top_cells hB1 2
    simp only [List.getElem?_toArray, List.getElem?_cons_succ, List.getElem?_cons_zero] at b0 b1 b2
    have HB1 := hide hB1
    have hlt1 := (Array.getElem?_eq_some_iff.1 hB1).1
    clear k1 hB1 hsz hlt HBX
    by_cases g2 : 50 < sz
    · go_wp2_with fail
      go_ret
      exact ⟨rfl, K1.out⟩
    have GVX := hide (GV.out w1 K1.out)
    go_wp2_with fail
    refine GVX.out.mono ?_
    intro e w3 hG
    obtain ⟨A3, c3, rfl, hg3, k3⟩ := hG.outU
    clear hG
    obtain ⟨gg, cc⟩ := go
    simp only at hg3 ⊢
    have ka : Keep w3 (w3.alloc (.cells #[.bool gg.root.1, .int .i64 gg.root.2, .slice A3 gg.blocks.length c3] 31)) := (by repeat (first | exact Keep.rf _ | assumption | apply Keep.al | apply Keep.dr | apply Keep.dn))
    have ha := heap_alloc_new w3 (.cells #[.bool gg.root.1, .int .i64 gg.root.2, .slice A3 gg.blocks.length c3] 31)
    have q0 := top_cells ha 0
    have q1 := top_cells ha 1
    have q2 := top_cells ha 2
    simp only [List.getElem?_toArray, List.getElem?_cons_succ, List.getElem?_cons_zero] at q0 q1 q2
    have HG := hide (hg3.keep ka)
    have HB4 := hide (((Keep.tr k3 ka).frm fun _ => False).heap (fun h => h) HB1.out)
    have K4 := hide (Keep.tr K1.out (Keep.tr k3 ka))
    have hlt4 := (Array.getElem?_eq_some_iff.1 HB4.out).1
    clear ka ha k3 hg3 b0 b1 b2 HB1 hlt1 GVX GV SZ
    by_cases hc : cc = 0
    · subst hc
      obtain ⟨hneed, n, X, hbu, hbk, hus, hwf⟩ := HPL.out gg rfl hl3
      have HBK := hide (hbk [])
      rw [List.append_nil] at HBK
      have HBU := hide hbu
      have HWF := hide hwf
      have hne : Em.needN gg.blocks ≤ 100000 := by omega
      clear hbk hbu hwf hus hneed HPL HBAD
      go_wp2_with fail
      generalize World.alloc w3 _ = Wa at *
      refine (refNew 9000 _ (by omega)).mono ?_
      rintro e w5 ⟨p, S, rfl, hR, hS, k5⟩
      have q0 := Keep.cell k5 q0
      have q1 := Keep.cell k5 q1
      have q2 := Keep.cell k5 q2
      have HBL := hide (refBuild w5 hR _ gg (GrS.of HG.out k5 hS) hne)
      have HB5 := hide ((k5.frm fun _ => False).heap (fun h => h) HB4.out)
      have HNS := hide (fun h => Nat.lt_irrefl _ (Nat.lt_of_lt_of_le hlt4 (hS w.heap.size h)) : w.heap.size ∉ S)
      have HKS := hide (fun (W : World) (F : Frm (· ∈ S) w5 W) => Frm.keep (Keep.tr K4.out k5) F fun i hi => Nat.le_trans (Below.size K4.out) (hS i hi))
      clear hR hS k5 HG HB4 hlt4 K4
      go_wp2_with fail
      refine HBL.out.mono ?_
      rintro e w6 ⟨rfl, S6, r6, x6⟩
      rw [HBU.out] at r6 ⊢
      simp only at r6 ⊢
      have hB6 := x6.1.heap HNS.out HB5.out
      have b0 := top_cells hB6 0
      have b1 := top_cells hB6 1
      have b2 := top_cells hB6 2
      simp only [List.getElem?_toArray, List.getElem?_cons_succ, List.getElem?_cons_zero] at b0 b1 b2
      have K6 := hide (HKS.out w6 x6.1)
      have HPB := hide (refBytes22 w6 r6 n HWF.out t (d + 1) _ (HT.out.keep K6.out) b HBK.out)
      clear r6 x6 hB6 HB5 HNS HKS HBL HBU HBK HWF q0 q1 q2
      go_wp2_with fail
      refine HPB.out.mono ?_
      rintro e w7 ⟨A7, c7, rfl, hb7, k7⟩
      have hb7 : Bs w7 (.slice A7 b.length c7) b := hb7
      have hcA := run_conv_bs (P := Try.prog) hb7 22 5 9 Try.underlying22 Try.underlying5 Try.underlying9
      have K7 := hide (Keep.tr K6.out k7)
      have hcB := run_conv_bs (P := Try.prog) (HB.out.keep K7.out) 22 5 9 Try.underlying22 Try.underlying5 Try.underlying9
      have hss : ((str b).toList == (str b).toList) = true := by simp
      clear HPB k7 b0 b1 b2 hb7
      go_wp2_with fail
      refine (law23Known _).mono ?_
      rintro e w8 ⟨rfl, k8⟩
      go_wp2_with fail
      go_ret
      exact ⟨rfl, Keep.tr K7.out k8⟩
    · have hcb : (cc != 0) = true := by rw [bne_iff_ne]; exact hc
      have hbl : gg.blocks.length = 0 := by rw [HBAD.out gg cc rfl hc]; rfl
      rw [hbl] at q2 K4 ⊢
      clear HPL HBAD
      go_wp2_with fail
      generalize World.alloc w3 _ = Wa at *
      refine (law23Known _).mono ?_
      rintro e w8 ⟨rfl, k8⟩
      go_wp2_with fail
      go_ret
      exact ⟨rfl, Keep.tr K4.out k8⟩
end Go.Proofs.Ytoehaijmkmdggaa
