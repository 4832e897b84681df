/- Walk: a type normed (the reference). -/
import Derived.Test.YtoippbbodhchkaaDoorTyJ
namespace Go.Proofs.YtoippbbodhchkaaDoor
open Go.RowKit
open Em (Ty)
set_option linter.unusedVariables false
set_option maxRecDepth 100000
abbrev encV (i : Nat) : List Value := [.string (str Em.wVar), .int .i64 (i : Int), .slice none 0 0]
theorem range_get (n : Nat) : List.range (n + 1) = List.range n ++ [n] := List.range_succ
set_option maxHeartbeats 8000000 in
theorem refNorm8 (d : Nat) (t : Ty) (w : World) (cs : List Value) (h : TyK d w cs t) (hnd : nodes t ≤ 100000) : Calls Tryd.prog 21 #[.agg cs.toArray] w (NormR w d t) := by
  cases d with
  | zero => exact h.elim
  | succ d =>
    have HT := hide h
    have hvl : (Em.varsT [] t).length ≤ 100000 := by have := vars_nodes [] t; simp at this; omega
    have HV := hide fun W (k : Keep w W) => refVars t W _ ⟨d + 1, cs, rfl, h.keep k⟩ (by omega)
    have HIN := hide (varsIn_of [] (Em.varsT [] t) t fun x hx => hx)
    obtain ⟨kv, rfl, kn, kA, kc, rfl, _⟩ := h
    have hnorm : Em.normT t = Em.renT (Em.varsT [] t) t := rfl
    have HNORM := hide hnorm
    clear hnorm
    generalize Em.varsT [] t = L at *
    go_enter Tryd.func21, Tryd.ntmps21
    go_wp2_with fail
    generalize hW4 : (w.alloc (.cells #[.string (str t.op), .int .i64 t.n, .slice kA t.kids.length kc] 24)).alloc (.cells #[.string ⟨#[]⟩, .int .i64 0, .slice none 0 0] 24) = W4
    have k4 : Keep w W4 := by rw [← hW4]; exact (by repeat (first | exact Keep.rf _ | assumption | apply Keep.al | apply Keep.dr | apply Keep.dn))
    have hs4 : W4.heap.size = w.heap.size + 2 := by rw [← hW4]; simp
    have hb4 : W4.heap[w.heap.size + 1]? = some (.cells #[.string ⟨#[]⟩, .int .i64 0, .slice none 0 0] 24) := by
      rw [← hW4]
      have := heap_alloc_new (w.alloc (.cells #[.string (str t.op), .int .i64 t.n, .slice kA t.kids.length kc] 24)) (.cells #[.string ⟨#[]⟩, .int .i64 0, .slice none 0 0] 24)
      simpa using this
    have hb0 : W4.heap[w.heap.size]? = some (.cells #[.string (str t.op), .int .i64 t.n, .slice kA t.kids.length kc] 24) := by
      rw [← hW4]
      exact ((Keep.al (Keep.rf _) _).frm fun _ => False).heap (fun h => h) (heap_alloc_new w _)
    clear hW4
    refine (HV.out _ k4).mono ?_
    rintro e w5 ⟨v5, rfl, g5⟩
    have hi5 := is_own g5.1
    have k5 := g5.2
    obtain ⟨vA, vc, rfl⟩ := own_slice g5.1
    have HI5 := hide hi5
    clear g5 hi5 HV
    go_wp2_with fail
    go_loopw [4, 5] (fun b i W => ∃ j : Nat, j ≤ L.length ∧ i = .int .i64 j ∧ Own encV 3 24 w5 W b (List.range j)) (fun _ i _ => L.length - (intOf i).toNat)
    case atStart => exact ⟨0, Nat.zero_le _, rfl, Own.nil (Keep.rf _)⟩
    case round =>
      obtain ⟨j, hj, rfl, ho⟩ := hrel
      have HO := hide ho
      have hkw := ho.2
      obtain ⟨bA, bc, rfl⟩ := ho.slice
      rw [List.length_range] at HO ⊢
      clear ho
      by_cases hlt : j < L.length
      · have hlti : (decide ((j : Int) < (L.length : Int))) = true := by simp; omega
        go_wp2_with fail
        refine (refVar8 _ _).mono ?_
        rintro e w6 ⟨rfl, k6⟩
        go_wp2_with (first
          | (at_builtin; go_loud (refine app_struct encV rfl (.tmp 14) (.tmp 17) _ _ _ _ _ Tryd.underlying22 typeInfo rfl (by omega) (by omega) rfl w5 _ (List.range j) rfl (HO.out.keep (Keep.tr k6 (by repeat (first | exact Keep.rf _ | assumption | apply Keep.al | apply Keep.dr | apply Keep.dn)))) _ _ j rfl rfl (fun x hx => one_type _ _ _ _ _ x hx) ?cells ?len ?go; (case cells => intro q x hx; rcases q with _ | _ | _ | q <;> simp at hx <;> subst hx <;> exact lit_cells (by simp) _ rfl); (case len => simp; omega); intro v7 w7 ho7 hF7; rw [← range_get] at ho7))
          | fail)
        go_roundw
        case rel => exact ⟨j + 1, by omega, by go_num, ho7⟩
        case measure => simp [intOf]; omega
      · have hjL : j = L.length := by omega
        have hlti : (decide ((j : Int) < (L.length : Int))) = false := by simp; omega
        have hsl : Sl 3 KVar wr (.slice bA j bc) (List.range L.length) := by
          have := HO.out.sl (fun _ => rfl) (K := KVar) fun a ha => rfl
          rwa [hjL] at this ⊢
        have kw := Keep.tr k4 (Keep.tr k5 hkw)
        have kw4 := Keep.tr k5 hkw
        have hb0w := (kw4.frm fun _ => False).heap (fun h => h) hb0
        have hb4w := (kw4.frm fun _ => False).heap (fun h => h) hb4
        have e0 := top_cells hb0w 0
        have e1 := top_cells hb0w 1
        have e2 := top_cells hb0w 2
        simp only [List.getElem?_toArray, List.getElem?_cons_succ, List.getElem?_cons_zero] at e0 e1 e2
        have HSL := hide hsl
        clear hb0 hb4 hb0w hsl hjL
        go_wp2_with fail
        refine (refPut8 (d + 1) t _ _ L _ _ (HT.out.keep kw) (HI5.out.keep hkw) HSL.out HIN.out hnd).mono ?_
        rintro e w7 ⟨o9, n9, A9, m9, c9, rfl, f9, k7⟩
        have hb7 := (k7.frm fun _ => False).heap (fun h => h) hb4w
        have kw7 := Keep.tr kw k7
        have y0 := top_cells hb7 0
        have y1 := top_cells hb7 1
        have y2 := top_cells hb7 2
        have z0 := top_free hb7 0
        have z1 := top_free hb7 1
        have z2 := top_free hb7 2
        simp only [List.getElem?_toArray, List.getElem?_cons_succ, List.getElem?_cons_zero] at y0 y1 y2
        have HBF := hide (show (((w7.setCell ⟨w.heap.size + 1, 0, none⟩ (.string o9)).setCell ⟨w.heap.size + 1, 1, none⟩ (.int .i64 n9)).setCell ⟨w.heap.size + 1, 2, none⟩ (.slice A9 m9 c9)).heap[w.heap.size + 1]? = some (.cells #[.string o9, .int .i64 n9, .slice A9 m9 c9] 24) from heap_setT (j := 2) (heap_setT (j := 1) (heap_setT (j := 0) hb7 (.string o9)) (.int .i64 n9)) (.slice A9 m9 c9))
        have hF : Frm (· = w.heap.size + 1) w7 (((w7.setCell ⟨w.heap.size + 1, 0, none⟩ (.string o9)).setCell ⟨w.heap.size + 1, 1, none⟩ (.int .i64 n9)).setCell ⟨w.heap.size + 1, 2, none⟩ (.slice A9 m9 c9)) :=
          Frm.st (S := (· = w.heap.size + 1)) (p := ⟨w.heap.size + 1, 2, none⟩) (Frm.st (S := (· = w.heap.size + 1)) (p := ⟨w.heap.size + 1, 1, none⟩) (Frm.st (S := (· = w.heap.size + 1)) (p := ⟨w.heap.size + 1, 0, none⟩) (Frm.rf _ w7) (.inl rfl) _) (.inl rfl) _) (.inl rfl) _
        have HF := hide hF
        have FF := hide f9
        have hlo : w.heap.size + 1 < wr.heap.size := (Array.getElem?_eq_some_iff.1 hb4w).1
        clear hb7 hF f9 e0 e1 e2 hb4w
        go_wp2_with fail
        refine bodyPost_ret_by (results_cell_row rfl _ _ (w.heap.size + 1) 24 _ (0, 0) _ rfl HBF.out Tryd.underlying24 rfl ?_) rfl ?_
        · kernel_rfl
        · have hsz := HF.out.size
          refine ⟨_, _, _, _, _, rfl, ?_, Frm.keep kw7 HF.out fun i e => by have e : i = w.heap.size + 1 := e; omega⟩
          rw [HNORM.out]
          exact (FF.out.frm HF.out fun k hk e => by have e : k = w.heap.size + 1 := e; omega).mono fun k hk => ⟨by omega, by omega⟩
end Go.Proofs.YtoippbbodhchkaaDoor
