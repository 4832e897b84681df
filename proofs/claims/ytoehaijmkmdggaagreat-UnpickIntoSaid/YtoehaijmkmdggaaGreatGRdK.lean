/- The law's known of chapter 23. -/
import Derived.Test.YtoehaijmkmdggaaGreatGRdG
import Derived.Test.YtoehaijmkmdggaaGreatGRdT
set_option linter.unusedSimpArgs false
set_option linter.unusedVariables false
namespace Go.Proofs.YtoehaijmkmdggaaGreat
open Go.RowKit
open Em (Ty)
set_option linter.unusedVariables false
set_option linter.unusedSimpArgs false
set_option maxRecDepth 100000
abbrev tyLI : Ty := .mk Em.wList 0 [.mk Em.wInt 0 []]
theorem known_a : Em.graphP [1, 6, 0] tyLI = (⟨(false, 0), [⟨2, [], [(true, 3), (true, 0)]⟩]⟩, 0) := by kernel_rfl
theorem known_b : Em.graphP [1, 6, 0, 0] tyLI = (⟨(false, 0), []⟩, 2) := by kernel_rfl
/-- A graph's parts. -/
theorem GrV.open_ {w : World} {v : Value} {g : Em.Gr} (h : GrV w v g) : ∃ A c, v = .agg #[.bool g.root.1, .int .i64 g.root.2, .slice A g.blocks.length c] ∧ Sl 3 KBk w (.slice A g.blocks.length c) g.blocks := by
  obtain ⟨u, rfl, _, hs⟩ := h
  obtain ⟨A, c, rfl, _⟩ := id hs
  exact ⟨A, c, rfl, hs⟩
/-- As unpickGraph, what it comes to being given. -/
theorem unpickGraphE {b : List UInt8} {t : Ty} {o : Em.Gr × Int} (ho : Em.graphP b t = o) (d : Nat) (cs : List Value) (w : World) (v : Value) (hb : Bs w v b) (ht : TyK d w cs t) : Calls Tryz.prog 16 #[v, .agg cs.toArray] w fun e w' => ∃ A c, e = .returned (.tuple #[.agg #[.bool o.1.root.1, .int .i64 o.1.root.2, .slice A o.1.blocks.length c], .int .i64 o.2]) ∧ Sl 3 KBk w' (.slice A o.1.blocks.length c) o.1.blocks ∧ Keep w w' := by
  subst ho
  refine (unpickGraph b t d cs w v hb ht).mono ?_
  intro e w' hG
  obtain ⟨v, rfl, hg, k⟩ := hG.gr
  obtain ⟨A, c, rfl, h⟩ := hg.open_
  exact ⟨A, c, rfl, h, k⟩
set_option maxHeartbeats 8000000 in
theorem law23Known (w : World) : Calls Tryz.prog 14 #[] w fun e w' => e = .returned (.bool true) ∧ Keep w w' := by
  go_enter Tryz.func14, Tryz.ntmps14
  go_wp2_with fail
  refine (refT23 _ [105, 110, 116] none 0 0).mono ?_
  rintro e w1 ⟨rfl, k1⟩
  go_wp2_with fail
  refine (refT23 _ [108, 105, 115, 116] _ 1 1).mono ?_
  rintro e w2 ⟨rfl, k2⟩
  have hT := sl_one3 (K := TyK 1) (x := .mk Em.wInt 0 []) ((k2.frm fun _ => False).heap (fun h => h) (heap_alloc_new w1 (.cells #[.string (str [105, 110, 116]), .int .i64 0, .slice none 0 0] 25))) ⟨_, rfl, (by decide : (Lit.int .i64 0).wf = true), Sl.nil w2⟩
  have k02 : Keep w w2 := Keep.tr k1 (Keep.tr ((Keep.rf w1).al _) k2)
  have HTY := hide (show ∀ W, Keep w2 W → TyK 2 W [.string (str [108, 105, 115, 116]), .int .i64 0, .slice (some ⟨w1.heap.size, 0, none⟩) 1 1] tyLI from fun W k => ⟨_, rfl, (by decide : (Lit.int .i64 0).wf = true), hT.keep k fun _ _ h => h.keep k⟩)
  have hx := heap_alloc_new w2 (.cells #[.string (str [108, 105, 115, 116]), .int .i64 0, .slice (some ⟨w1.heap.size, 0, none⟩) 1 1] 25)
  have hx' := (((Keep.rf (w2.alloc (.cells #[.string (str [108, 105, 115, 116]), .int .i64 0, .slice (some ⟨w1.heap.size, 0, none⟩) 1 1] 25))).al (.cells #[.int .u8 1, .int .u8 6, .int .u8 0] 5)).frm fun _ => False).heap (fun h => h) hx
  have HX := hide hx'
  clear hT k1 k2 hx hx'
  go_wp2_with fail
  have hbs : Bs ((w2.alloc (.cells #[.string (str [108, 105, 115, 116]), .int .i64 0, .slice (some ⟨w1.heap.size, 0, none⟩) 1 1] 25)).alloc (.cells #[.int .u8 1, .int .u8 6, .int .u8 0] 5)) (.slice (some ⟨w2.heap.size + 1, 0, none⟩) 3 3) [1, 6, 0] := Bs.lit [1, 6, 0] rfl (by simp) rfl (by simp) (by omega)
  have hty := HTY.out _ ((Keep.al (Keep.rf w2) (.cells #[.string (str [108, 105, 115, 116]), .int .i64 0, .slice (some ⟨w1.heap.size, 0, none⟩) 1 1] 25)).al (.cells #[.int .u8 1, .int .u8 6, .int .u8 0] 5))
  have HG := unpickGraphE known_a 2 _ _ _ hbs hty
  have HG2 := hide HG
  clear HG hbs hty
  refine HG2.out.mono ?_
  rintro e w3 ⟨A3, c3, rfl, hs3, k3⟩
  obtain ⟨A3', c3', e3, l3, l4, hc3⟩ := hs3
  cases e3
  obtain ⟨ad, rfl, hc⟩ := hc3 (by decide)
  obtain ⟨cs, hl, hcl, v9, hv9, hw9, _⟩ := hc 0 (by decide)
  subst hv9
  have y0 := hcl 0 _ rfl
  have hadd : ad.add 0 = ad := by simp [Addr.add]
  simp only [Nat.zero_mul, Nat.add_zero, hadd, List.getElem_cons_zero] at y0
  have hX3 := (k3.frm fun _ => False).heap (fun h => h) HX.out
  clear hc hcl hc3
  have k5 : Keep w3 ((w3.alloc (.cells #[.bool false, .int .i64 0, .slice (some ad) 1 c3] 62)).alloc (.cells #[.int .u8 1, .int .u8 6, .int .u8 0, .int .u8 0] 5)) := Keep.al (Keep.al (Keep.rf w3) _) _
  have hbs : Bs ((w3.alloc (.cells #[.bool false, .int .i64 0, .slice (some ad) 1 c3] 62)).alloc (.cells #[.int .u8 1, .int .u8 6, .int .u8 0, .int .u8 0] 5)) (.slice (some ⟨w3.heap.size + 1, 0, none⟩) 4 4) [1, 6, 0, 0] := Bs.lit [1, 6, 0, 0] rfl (by simp) rfl (by simp) (by omega)
  have hty := HTY.out ((w3.alloc (.cells #[.bool false, .int .i64 0, .slice (some ad) 1 c3] 62)).alloc (.cells #[.int .u8 1, .int .u8 6, .int .u8 0, .int .u8 0] 5)) (Keep.tr (Keep.tr ((Keep.al (Keep.rf w2) (.cells #[.string (str [108, 105, 115, 116]), .int .i64 0, .slice (some ⟨w1.heap.size, 0, none⟩) 1 1] 25)).al (.cells #[.int .u8 1, .int .u8 6, .int .u8 0] 5)) k3) k5)
  have HG5 := hide (unpickGraphE known_b 2 _ _ _ hbs hty)
  have hg2 := (Keep.frm (Keep.al (Keep.rf (w3.alloc (.cells #[.bool false, .int .i64 0, .slice (some ad) 1 c3] 62))) (.cells #[.int .u8 1, .int .u8 6, .int .u8 0, .int .u8 0] 5)) (fun _ => False)).heap (fun h => h) (heap_alloc_new w3 (.cells #[.bool false, .int .i64 0, .slice (some ad) 1 c3] 62))
  have hX4 := ((Keep.al (Keep.rf w3) (.cells #[.bool false, .int .i64 0, .slice (some ad) 1 c3] 62)).frm fun _ => False).heap (fun h => h) hX3
  have hX5 := (k5.frm fun _ => False).heap (fun h => h) hX3
  have t0 := top_cells hX5 0
  have t1 := top_cells hX5 1
  have t2 := top_cells hX5 2
  simp only [List.getElem?_toArray, List.getElem?_cons_succ, List.getElem?_cons_zero] at t0 t1 t2
  have Y0 := hide (Keep.cell k5 y0)
  have HG9 := hide hg2
  have K5 := hide (Keep.tr k02 (Keep.tr (Keep.tr ((Keep.al (Keep.rf w2) (.cells #[.string (str [108, 105, 115, 116]), .int .i64 0, .slice (some ⟨w1.heap.size, 0, none⟩) 1 1] 25)).al (.cells #[.int .u8 1, .int .u8 6, .int .u8 0] 5)) k3) k5))
  have hcb : 1 ≤ c3 := l3
  clear hbs hty hg2 hX3 hX4 hX5 k5 y0 HX HTY HG2 k02 k3
  go_wp2_with fail
  refine HG5.out.mono ?_
  rintro e w6 ⟨A6, c6, rfl, _, k6⟩
  have hG6 := (k6.frm fun _ => False).heap (fun h => h) HG9.out
  have g2' := top_cells hG6 2
  simp only [List.getElem?_toArray, List.getElem?_cons_succ, List.getElem?_cons_zero] at g2'
  have g2 := fun o => Keep.cell (Keep.al (Keep.rf w6) o) g2'
  have y0 := fun o => Keep.cell (Keep.al (Keep.rf w6) o) (Keep.cell k6 Y0.out)
  clear g2'
  have K6 := hide (Keep.tr K5.out k6)
  clear hG6 k6 t0 t1 t2
  go_wp2_with fail
  go_ret
  exact ⟨rfl, Keep.tr K6.out (by repeat (first | exact Keep.rf _ | assumption | apply Keep.al | apply Keep.dr | apply Keep.dn))⟩
end Go.Proofs.YtoehaijmkmdggaaGreat
