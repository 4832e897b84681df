/- Walk: the law HeapFull returns true. -/
import Derived.Test.YtonolehmhnfklaaHeapL
namespace Go.Proofs.Ytonolehmhnfklaa
open Go.RowKit Go.Maps
set_option linter.unusedVariables false
set_option maxRecDepth 100000
theorem zeros_wf (n : Nat) : ∀ f ∈ List.replicate n (0 : Int), (Lit.int .i64 f).wf = true := by
  intro f hf
  rw [List.mem_replicate] at hf
  rw [hf.2]
  rfl
theorem used_more (H : Em.Hp) (b : Int × List Int) : Em.used (H ++ [b]) = Em.used H + 1 + b.2.length := by
  rw [Em.used_append]
  simp [Em.used]
  omega
set_option maxHeartbeats 4000000 in
theorem HeapFull_walk (w : World) (words : Int) (hw : (Lit.int .i64 words).wf = true) (v : Value) (l : List Int) (h : Is w v l ∧ ∀ n ∈ l, (Lit.int .i64 n).wf = true) (hz : l.length ≤ 17592186044416) : Calls Try.prog 11 #[.int .i64 words, v] w fun e w' => e = .returned (.bool true) ∧ Keep w w' := by
  obtain ⟨h, hwf⟩ := h
  obtain ⟨A, c, rfl, hlc, hcm, hr⟩ := h
  simp only [List.length_map] at hlc hr ⊢
  by_cases h1 : 0 ≤ words
  · obtain ⟨m, rfl⟩ := Int.eq_ofNat_of_zero_le h1
    clear h1 hw
    by_cases h2 : m ≤ 300
    · by_cases h3 : l.length ≤ 50
      · go_enter Try.func11, Try.ntmps11
        go_wp2_with fail
        refine (heapNew m _ (by omega)).mono ?_
        rintro e w1 ⟨p, S, rfl, hR, hS, hk⟩
        go_wp2
        go_loopw [6, 7] (fun u i W => ∃ (j : Nat) (H : Em.Hp) (S : List Nat), j ≤ l.length ∧ i = .int .i64 j ∧ u = .int .i64 (Em.used H : Int) ∧ Em.used H ≤ 300 ∧ HRep W p S m H ∧ (∀ k ∈ S, w.heap.size ≤ k) ∧ Keep w W) (fun _ i _ => l.length - (intOf i).toNat)
        case atStart => exact ⟨0, [], S, by omega, rfl, rfl, by simp [Em.used], hR, hS, hk⟩
        case round =>
          clear hR hS hk
          obtain ⟨j, H, S, hj, rfl, rfl, hU, hR, hS, hk⟩ := hrel
          by_cases hlt : j < l.length
          · obtain ⟨ad, rfl, hcell⟩ := hr (by omega)
            have hcj := hcell j (by simpa using hlt)
            simp only [List.getElem_map] at hcj
            have hcj := Keep.cell hk hcj
            have hb := in_i64 (hwf l[j] (List.getElem_mem hlt))
            clear hcell hr
            by_cases h4 : 0 ≤ l[j]
            · obtain ⟨n, hn⟩ := Int.eq_ofNat_of_zero_le h4
              rw [hn] at hcj
              have HN := hide hn
              clear hn hb h4
              by_cases h5 : n ≤ 60
              · obtain ⟨w2, hm, ho, hk2⟩ := run_makeW wr n (by omega)
                obtain ⟨hcs, -⟩ := Cs.of_own ho
                have hm0 := 0
                have hA := heapAlloc w2 (hR.keep hk2) 8 rfl _ (List.replicate n 0) hcs (zeros_wf n) (by simp; omega)
                have hlr := hide (List.length_replicate (n := n) (a := (0 : Int)))
                clear ho
                have HWF := hide hwf
                clear hwf hm0
                by_cases h6 : (m : Int) - Em.used H < 1 + n
                · have HA := hide (alloc_no (sz := m) (H := H) (tag := 8) (fs := List.replicate n 0) (by rw [hlr.out]; exact .inr (.inr h6)))
                  have HU := fun w3 (k3 : Keep w2 w3) => heapUsed w3 (hR.keep (Keep.tr hk2 k3))
                  have HS := fun w3 (k3 : Keep w2 w3) => heapSize w3 (hR.keep (Keep.tr hk2 k3))
                  have HR := hide hR
                  have hS' := hide hS
                  clear hR hS
                  generalize hUU : Em.used H = U at *
                  have HUU := hide hUU
                  clear hUU
                  have f6 : decide ((U : Int) + 1 + (n : Int) ≤ (m : Int)) = false := by simp; omega
                  go_wp2_with fail
                  refine hA.mono ?_
                  intro e w3 hAl
                  obtain ⟨rfl, hk3⟩ := hAl.no HA.out
                  have HA := 0
                  clear hA hAl
                  go_wp2_with fail
                  refine (HU _ hk3).mono ?_
                  rintro e w' ⟨rfl, rfl⟩
                  go_wp2_with fail
                  refine (HS _ hk3).mono ?_
                  rintro e w' ⟨rfl, rfl⟩
                  go_wp2
                  go_roundw
                  case rel => exact ⟨j + 1, H, S, hlt, by go_num, by rw [HUU.out], by rw [HUU.out]; exact hU, HR.out.keep (Keep.tr hk2 hk3), hS'.out, Keep.tr hk (Keep.tr hk2 hk3)⟩
                  case measure => simp [intOf]; have := hlt; omega
                · have HA := hide (alloc_yes (sz := m) (H := H) (tag := 8) (fs := List.replicate n 0) (by rw [hlr.out]; omega))
                  have HU2 := hide (used_more H (8, List.replicate n 0))
                  have HS0 := hide hS
                  have HR := hide hR
                  clear hR hS
                  generalize hUU : Em.used H = U at *
                  have HUU := hide hUU
                  clear hUU
                  have f6 : decide ((U : Int) + 1 + (n : Int) ≤ (m : Int)) = true := by simp; omega
                  go_wp2_with fail
                  refine hA.mono ?_
                  intro e w3 hAl
                  obtain ⟨rfl, S3, hR3, hF3, hS3⟩ := hAl.yes HA.out
                  clear hA hAl
                  have hk3 : Keep w w3 := Frm.keep (Keep.tr hk hk2) hF3 fun i hi => HS0.out i hi
                  have HU3 := heapUsed w3 hR3
                  rw [HU2.out, hlr.out] at HU3
                  go_wp2_with fail
                  refine HU3.mono ?_
                  rintro e w' ⟨rfl, rfl⟩
                  go_wp2_with fail
                  refine (heapSize w3 hR3).mono ?_
                  rintro e w' ⟨rfl, rfl⟩
                  go_wp2
                  go_roundw
                  case rel => exact ⟨j + 1, _, S3, hlt, by go_num, by rw [HU2.out, hlr.out]; go_num, by rw [HU2.out, hlr.out]; omega, hR3, fun k hk' => by
                    rcases hS3 k hk' with h | h
                    · exact HS0.out k h
                    · exact Nat.le_trans (Below.size (Keep.tr hk hk2)) h, hk3⟩
                  case measure => simp [intOf]; have := hlt; omega
              · go_wp2
                go_ret
                exact ⟨rfl, hk⟩
            · go_wp2
              go_ret
              exact ⟨rfl, hk⟩
          · go_wp2_with (first
              | (go_at_call 26; refine (heapKnown _).mono ?_; rintro e w9 ⟨rfl, hk9⟩)
              | fail)
            go_ret
            exact ⟨rfl, Keep.tr hk hk9⟩
      · go_enter Try.func11, Try.ntmps11
        go_wp2
        go_ret
        exact ⟨rfl, Keep.rf _⟩
    · go_enter Try.func11, Try.ntmps11
      go_wp2
      go_ret
      exact ⟨rfl, Keep.rf _⟩
  · go_enter Try.func11, Try.ntmps11
    go_wp2
    go_ret
    exact ⟨rfl, Keep.rf _⟩
end Go.Proofs.Ytonolehmhnfklaa
