/- Walk: are replies of calls that were run, and no two of one? (package audit) -/
import Derived.Test.YtjhndioapcneoaaAudQ
namespace Go.Proofs.Ytjhndioapcneoaa
open Go.RowKit Go.Maps
set_option linter.unusedVariables false
set_option maxRecDepth 100000
namespace Em
/-- A reply of a call that was run. -/
def ran (e : Int) : Bool := decide (e = 0 ∨ e = 10 ∨ e = 9)
def known (log : List (Int × Int)) (l : List ((Int × Int) × Int)) : Bool := decide (∀ r ∈ l, ran r.2 = true → r.1 ∈ log) && decide (l.map (·.1)).Nodup
end Em
/-- A reply's cells. -/
def KR (w : World) (cs : List Value) (r : (Int × Int) × Int) : Prop := ∃ A n c, cs = [.int .i64 r.1.1, .int .i64 r.1.2, .int .i64 r.2, .slice A n c] ∧ (Lit.int .i64 r.1.1).wf = true ∧ (Lit.int .i64 r.1.2).wf = true
abbrev encC (a : Int × Int) : List Value := [.int .i64 a.1, .int .i64 a.2]
theorem callInfo : (Try.prog.info? 57).map (fun i => (i.zero, i.size, i.bytes)) = some (some (.agg #[.int .i64 0, .int .i64 0]), 2, 16) := by kernel_rfl
theorem encC_one (a : Int × Int) (u : Value) (h : u ∈ encC a) : u.oneCell' = true := by
  simp only [encC, List.mem_cons, List.not_mem_nil, or_false] at h
  rcases h with rfl | rfl <;> rfl
set_option maxHeartbeats 4000000 in
theorem audKnown (w : World) (v u : Value) (log : List (Int × Int)) (l : List ((Int × Int) × Int)) (h : Sl 2 KC w v log) (h2 : Sl 4 KR w u l) (hl : l.length ≤ 1000000) : Calls Try.prog 37 #[v, u] w fun e w' => e = .returned (.bool (Em.known log l)) ∧ Keep w w' := by
  have HC := hide fun W (k : Keep w W) x => callContains W v log x (h.keep k fun _ _ h => h)
  obtain ⟨A, c, rfl, _⟩ := h
  obtain ⟨A2, c2, rfl, hlc, hcm, hr⟩ := h2
  go_enter Try.func37, Try.ntmps37
  go_wp2_with fail
  go_loopw [5, 11] (fun v i W => ∃ (k : Nat), k ≤ l.length ∧ i = .int .i64 k ∧ (∀ r ∈ l.take k, Em.ran r.2 = true → r.1 ∈ log) ∧ Own encC 2 57 w W v ((l.take k).map (·.1)) ∧ (∀ r ∈ l.take k, (Lit.int .i64 r.1.1).wf = true ∧ (Lit.int .i64 r.1.2).wf = true)) (fun _ i _ => l.length - (intOf i).toNat)
  case atStart => exact ⟨0, Nat.zero_le _, rfl, by simp, Own.nil (by repeat (first | exact Keep.rf _ | assumption | apply Keep.al | apply Keep.dr | apply Keep.dn)), by simp⟩
  case round =>
    obtain ⟨k, hk, rfl, hy, ho, hwf⟩ := hrel
    have HY := hide hy
    have HO := hide ho
    have HW := hide hwf
    have hlo := ho.lt
    have hkw := ho.2
    obtain ⟨vA, vc, rfl⟩ := ho.slice
    have htl : (l.take k).length = k := by rw [List.length_take]; omega
    clear hy hwf
    simp only [List.length_map, htl] at HO hlo ⊢
    by_cases hlt : k < l.length
    · obtain ⟨ad, rfl, hcell⟩ := hr (by omega)
      obtain ⟨cs, hcs, hcl, rA, rn, rc, hkt, wf1, wf2⟩ := hcell k (by omega)
      have HTK := hide (show l.take (k + 1) = l.take k ++ [l[k]] from List.take_succ_eq_append_getElem (by omega))
      have HMEM := hide (List.getElem_mem hlt)
      generalize l[k] = r at *
      obtain ⟨⟨x1, x2⟩, err⟩ := r
      subst hkt
      simp only at *
      have c0 := Keep.cell hkw (hcl 0 _ rfl)
      rw [Nat.add_zero] at c0
      have c1 := cell_off (Keep.cell hkw (hcl 1 _ rfl))
      have c2 := cell_off (Keep.cell hkw (hcl 2 _ rfl))
      have c3 := cell_off (Keep.cell hkw (hcl 3 _ rfl))
      have HW2 := hide (show ∀ r ∈ l.take (k + 1), (Lit.int .i64 r.1.1).wf = true ∧ (Lit.int .i64 r.1.2).wf = true from by
        rw [HTK.out]
        intro r hr
        rcases List.mem_append.1 hr with hr | hr
        · exact HW.out r hr
        · rw [List.mem_singleton.1 hr]; exact ⟨wf1, wf2⟩)
      have HM2 := hide (show (l.take (k + 1)).map (·.1) = (l.take k).map (·.1) ++ [(x1, x2)] from by rw [HTK.out, List.map_append]; rfl)
      have HON := hide (show (Em.ran err = true → (x1, x2) ∈ log) → ∀ r ∈ l.take (k + 1), Em.ran r.2 = true → r.1 ∈ log from by
        rw [HTK.out]
        intro hh r hr
        rcases List.mem_append.1 hr with hr | hr
        · exact HY.out r hr
        · rw [List.mem_singleton.1 hr]; exact hh)
      have HBAD := hide (show Em.ran err = true → ¬ (x1, x2) ∈ log → Em.known log l = false from by
        intro h1 h2
        rw [Em.known, decide_eq_false (fun hh => h2 (hh _ HMEM.out h1))]
        rfl)
      clear hcell hcl hr HTK HMEM HW HY
      have hcase : err = 0 ∨ (¬ err = 0 ∧ err = 10) ∨ (¬ err = 0 ∧ ¬ err = 10 ∧ err = 9) ∨ (¬ err = 0 ∧ ¬ err = 10 ∧ ¬ err = 9) := by omega
      generalize hL : (l.take k).map (·.1) = L at *
      have HLL := hide (show L.length = k from by rw [← hL, List.length_map, htl])
      clear hL
      rcases hcase with hcase | hcase | hcase | hcase
      · subst hcase
        have HR := hide (show Em.ran 0 = true from by decide)
        go_wp2_with (first
          | (at_builtin; go_loud (refine app_struct encC rfl (.tmp 15) (.tmp 18) _ _ _ _ _ Try.underlying52 callInfo rfl (by omega) (by omega) rfl w _ L rfl (HO.out.keep (by repeat (first | exact Keep.rf _ | assumption | apply Keep.al | apply Keep.dr | apply Keep.dn))) _ _ (x1, x2) rfl rfl (encC_one _) ?cells1 ?len1 ?go1; (case cells1 => intro j u hu; rcases j with _ | _ | j <;> simp at hu <;> subst hu <;> exact lit_cells (by simp) _ rfl); (case len1 => rw [HLL.out]; omega); intro v2 w2 ho2 hF2; have hnb : ¬ (Value.slice vA k vc).ownBlock = some wr.heap.size := fun e => Nat.lt_irrefl _ (hlo _ e).2; have t0 := hF2.cell (a := ⟨wr.heap.size, 0, none⟩) hnb (Keep.cell (Keep.al (Keep.rf _) _) ((top_cells (heap_alloc_new wr _) 0).trans rfl)); have t1 := hF2.cell (a := ⟨wr.heap.size, 1, none⟩) hnb (Keep.cell (Keep.al (Keep.rf _) _) ((top_cells (heap_alloc_new wr _) 1).trans rfl)); have t2 := hF2.cell (a := ⟨wr.heap.size, 2, none⟩) hnb (Keep.cell (Keep.al (Keep.rf _) _) ((top_cells (heap_alloc_new wr _) 2).trans rfl)); have t3 := hF2.cell (a := ⟨wr.heap.size, 3, none⟩) hnb (Keep.cell (Keep.al (Keep.rf _) _) ((top_cells (heap_alloc_new wr _) 3).trans rfl)); have HO2 := hide ho2; have hk2 := ho2.2; obtain ⟨v2A, v2c, rfl⟩ := ho2.slice; simp only [List.length_append, List.length_cons, List.length_nil, HLL.out] at HO2 ⊢; clear ho2 hF2))
          | fail)
        refine (HC.out _ hk2 (x1, x2)).mono ?_
        rintro e w' ⟨rfl, hk3⟩
        have HO3 := hide (HO2.out.keep hk3)
        have kk3 := HO3.out.2
        by_cases hm : (x1, x2) ∈ log
        · have HS := hide (HON.out fun _ => hm)
          simp only [decide_eq_true hm]
          clear hm
          go_wp2_with fail
          go_roundw
          case rel => exact ⟨k + 1, by omega, by go_num, HS.out, by rw [HM2.out]; exact HO3.out, HW2.out⟩
          case measure => simp [intOf]; omega
        · have HF := hide (HBAD.out HR.out hm)
          simp only [decide_eq_false hm]
          clear hm
          go_wp2_with fail
          go_ret
          exact ⟨by rw [HF.out]; rfl, kk3⟩
      · obtain ⟨-, hcase⟩ := hcase; subst hcase
        have HR := hide (show Em.ran 10 = true from by decide)
        go_wp2_with (first
          | (at_builtin; go_loud (refine app_struct encC rfl (.tmp 15) (.tmp 18) _ _ _ _ _ Try.underlying52 callInfo rfl (by omega) (by omega) rfl w _ L rfl (HO.out.keep (by repeat (first | exact Keep.rf _ | assumption | apply Keep.al | apply Keep.dr | apply Keep.dn))) _ _ (x1, x2) rfl rfl (encC_one _) ?cells2 ?len2 ?go2; (case cells2 => intro j u hu; rcases j with _ | _ | j <;> simp at hu <;> subst hu <;> exact lit_cells (by simp) _ rfl); (case len2 => rw [HLL.out]; omega); intro v2 w2 ho2 hF2; have hnb : ¬ (Value.slice vA k vc).ownBlock = some wr.heap.size := fun e => Nat.lt_irrefl _ (hlo _ e).2; have t0 := hF2.cell (a := ⟨wr.heap.size, 0, none⟩) hnb (Keep.cell (Keep.al (Keep.rf _) _) ((top_cells (heap_alloc_new wr _) 0).trans rfl)); have t1 := hF2.cell (a := ⟨wr.heap.size, 1, none⟩) hnb (Keep.cell (Keep.al (Keep.rf _) _) ((top_cells (heap_alloc_new wr _) 1).trans rfl)); have t2 := hF2.cell (a := ⟨wr.heap.size, 2, none⟩) hnb (Keep.cell (Keep.al (Keep.rf _) _) ((top_cells (heap_alloc_new wr _) 2).trans rfl)); have t3 := hF2.cell (a := ⟨wr.heap.size, 3, none⟩) hnb (Keep.cell (Keep.al (Keep.rf _) _) ((top_cells (heap_alloc_new wr _) 3).trans rfl)); have HO2 := hide ho2; have hk2 := ho2.2; obtain ⟨v2A, v2c, rfl⟩ := ho2.slice; simp only [List.length_append, List.length_cons, List.length_nil, HLL.out] at HO2 ⊢; clear ho2 hF2))
          | fail)
        refine (HC.out _ hk2 (x1, x2)).mono ?_
        rintro e w' ⟨rfl, hk3⟩
        have HO3 := hide (HO2.out.keep hk3)
        have kk3 := HO3.out.2
        by_cases hm : (x1, x2) ∈ log
        · have HS := hide (HON.out fun _ => hm)
          simp only [decide_eq_true hm]
          clear hm
          go_wp2_with fail
          go_roundw
          case rel => exact ⟨k + 1, by omega, by go_num, HS.out, by rw [HM2.out]; exact HO3.out, HW2.out⟩
          case measure => simp [intOf]; omega
        · have HF := hide (HBAD.out HR.out hm)
          simp only [decide_eq_false hm]
          clear hm
          go_wp2_with fail
          go_ret
          exact ⟨by rw [HF.out]; rfl, kk3⟩
      · obtain ⟨-, -, hcase⟩ := hcase; subst hcase
        have HR := hide (show Em.ran 9 = true from by decide)
        go_wp2_with (first
          | (at_builtin; go_loud (refine app_struct encC rfl (.tmp 15) (.tmp 18) _ _ _ _ _ Try.underlying52 callInfo rfl (by omega) (by omega) rfl w _ L rfl (HO.out.keep (by repeat (first | exact Keep.rf _ | assumption | apply Keep.al | apply Keep.dr | apply Keep.dn))) _ _ (x1, x2) rfl rfl (encC_one _) ?cells3 ?len3 ?go3; (case cells3 => intro j u hu; rcases j with _ | _ | j <;> simp at hu <;> subst hu <;> exact lit_cells (by simp) _ rfl); (case len3 => rw [HLL.out]; omega); intro v2 w2 ho2 hF2; have hnb : ¬ (Value.slice vA k vc).ownBlock = some wr.heap.size := fun e => Nat.lt_irrefl _ (hlo _ e).2; have t0 := hF2.cell (a := ⟨wr.heap.size, 0, none⟩) hnb (Keep.cell (Keep.al (Keep.rf _) _) ((top_cells (heap_alloc_new wr _) 0).trans rfl)); have t1 := hF2.cell (a := ⟨wr.heap.size, 1, none⟩) hnb (Keep.cell (Keep.al (Keep.rf _) _) ((top_cells (heap_alloc_new wr _) 1).trans rfl)); have t2 := hF2.cell (a := ⟨wr.heap.size, 2, none⟩) hnb (Keep.cell (Keep.al (Keep.rf _) _) ((top_cells (heap_alloc_new wr _) 2).trans rfl)); have t3 := hF2.cell (a := ⟨wr.heap.size, 3, none⟩) hnb (Keep.cell (Keep.al (Keep.rf _) _) ((top_cells (heap_alloc_new wr _) 3).trans rfl)); have HO2 := hide ho2; have hk2 := ho2.2; obtain ⟨v2A, v2c, rfl⟩ := ho2.slice; simp only [List.length_append, List.length_cons, List.length_nil, HLL.out] at HO2 ⊢; clear ho2 hF2))
          | fail)
        refine (HC.out _ hk2 (x1, x2)).mono ?_
        rintro e w' ⟨rfl, hk3⟩
        have HO3 := hide (HO2.out.keep hk3)
        have kk3 := HO3.out.2
        by_cases hm : (x1, x2) ∈ log
        · have HS := hide (HON.out fun _ => hm)
          simp only [decide_eq_true hm]
          clear hm
          go_wp2_with fail
          go_roundw
          case rel => exact ⟨k + 1, by omega, by go_num, HS.out, by rw [HM2.out]; exact HO3.out, HW2.out⟩
          case measure => simp [intOf]; omega
        · have HF := hide (HBAD.out HR.out hm)
          simp only [decide_eq_false hm]
          clear hm
          go_wp2_with fail
          go_ret
          exact ⟨by rw [HF.out]; rfl, kk3⟩
      · obtain ⟨g0, g1, g2⟩ := hcase
        have HR := hide (show ¬ Em.ran err = true from by simp [Em.ran, g0, g1, g2])
        have HS := hide (HON.out fun h => absurd h HR.out)
        go_wp2_with (first
          | (at_builtin; go_loud (refine app_struct encC rfl (.tmp 15) (.tmp 18) _ _ _ _ _ Try.underlying52 callInfo rfl (by omega) (by omega) rfl w _ L rfl (HO.out.keep (by repeat (first | exact Keep.rf _ | assumption | apply Keep.al | apply Keep.dr | apply Keep.dn))) _ _ (x1, x2) rfl rfl (encC_one _) ?cells4 ?len4 ?go4; (case cells4 => intro j u hu; rcases j with _ | _ | j <;> simp at hu <;> subst hu <;> exact lit_cells (by simp) _ rfl); (case len4 => rw [HLL.out]; omega); intro v2 w2 ho2 hF2; have hnb : ¬ (Value.slice vA k vc).ownBlock = some wr.heap.size := fun e => Nat.lt_irrefl _ (hlo _ e).2; have t0 := hF2.cell (a := ⟨wr.heap.size, 0, none⟩) hnb (Keep.cell (Keep.al (Keep.rf _) _) ((top_cells (heap_alloc_new wr _) 0).trans rfl)); have t1 := hF2.cell (a := ⟨wr.heap.size, 1, none⟩) hnb (Keep.cell (Keep.al (Keep.rf _) _) ((top_cells (heap_alloc_new wr _) 1).trans rfl)); have t2 := hF2.cell (a := ⟨wr.heap.size, 2, none⟩) hnb (Keep.cell (Keep.al (Keep.rf _) _) ((top_cells (heap_alloc_new wr _) 2).trans rfl)); have t3 := hF2.cell (a := ⟨wr.heap.size, 3, none⟩) hnb (Keep.cell (Keep.al (Keep.rf _) _) ((top_cells (heap_alloc_new wr _) 3).trans rfl)); have HO2 := hide ho2; have hk2 := ho2.2; obtain ⟨v2A, v2c, rfl⟩ := ho2.slice; simp only [List.length_append, List.length_cons, List.length_nil, HLL.out] at HO2 ⊢; clear ho2 hF2))
          | fail)
        go_roundw
        case rel => exact ⟨k + 1, by omega, by go_num, HS.out, by rw [HM2.out]; exact HO2.out, HW2.out⟩
        case measure => simp [intOf]; omega
    · have hkl : k = l.length := by omega
      subst hkl
      rw [List.take_length] at HO HY HW
      have HF := hide (show Em.known log l = decide (l.map (·.1)).Nodup from by
        rw [Em.known, decide_eq_true HY.out]
        rfl)
      have HS := hide (show Sl 2 KC wr (.slice vA l.length vc) (l.map (·.1)) from HO.out.sl (fun _ => rfl) fun a ha => by
        obtain ⟨r, hr, rfl⟩ := List.mem_map.1 ha
        exact ⟨rfl, HW.out r hr⟩)
      have H := hide (audOnce wr _ _ HS.out)
      clear hr
      go_wp2_with fail
      refine (H.out).mono ?_
      rintro e w' ⟨rfl, hk3⟩
      go_wp2_with fail
      go_ret
      exact ⟨by rw [HF.out]; rfl, Keep.tr hkw hk3⟩
end Go.Proofs.Ytjhndioapcneoaa
