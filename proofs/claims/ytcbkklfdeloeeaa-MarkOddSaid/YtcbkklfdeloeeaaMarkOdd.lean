/- The law MarkOdd: walk. -/
import Derived.Test.YtcbkklfdeloeeaaMarkU
import Derived.Test.YtcbkklfdeloeeaaTyShow
import Derived.Test.YtcbkklfdeloeeaaLibC
namespace Go.Proofs.Ytcbkklfdeloeeaa
open Go.RowKit
open Em (Ty)
set_option linter.unusedVariables false
set_option maxRecDepth 100000
def oddL : List (List UInt8) := [[], [0], [11], [6], [8, 1], [1, 1], [10], [10, 1], [10, 128, 0], [9, 10, 1, 10, 0], [6, 6]]
theorem odd_none : ∀ x ∈ oddL, Em.readT x = none := by
  intro x hx
  simp only [oddL, List.mem_cons, List.not_mem_nil, or_false] at hx
  rcases hx with rfl | rfl | rfl | rfl | rfl | rfl | rfl | rfl | rfl | rfl | rfl
  all_goals first | rfl | decide +kernel
abbrev funTy : Ty := .mk Em.wFun 0 [.mk Em.wVar 0 [], .mk Em.wVar 1 []]
theorem odd_fun : Em.readT [9, 10, 0, 10, 1] = some funTy := by
  have h : Em.normT funTy = funTy := by rfl
  have h2 : Em.bytesT funTy = [9, 10, 0, 10, 1] := by decide +kernel
  have h3 := read_bytes funTy
  rw [h2, h] at h3
  rw [h3]
  rfl
set_option maxHeartbeats 8000000 in
theorem MarkOdd_walk (w : World) (n : Int) (hn : (Lit.int .i64 n).wf = true) : Calls Try.prog 14 #[.int .i64 n] w fun e w' => e = .returned (.bool true) ∧ Keep w w' := by
  have hnb := in_i64 hn
  by_cases h0 : n < 0
  · go_enter Try.func14, Try.ntmps14
    go_wp2_with fail
    go_ret
    exact ⟨rfl, (by repeat (first | exact Keep.rf _ | assumption | apply Keep.al | apply Keep.dr | apply Keep.dn))⟩
  by_cases h1 : 11 ≤ n
  · go_enter Try.func14, Try.ntmps14
    go_wp2_with fail
    go_ret
    exact ⟨rfl, (by repeat (first | exact Keep.rf _ | assumption | apply Keep.al | apply Keep.dr | apply Keep.dn))⟩
  obtain ⟨i, rfl⟩ := Int.eq_ofNat_of_zero_le (show 0 ≤ n by omega)
  have hi : i < oddL.length := by simp [oddL]; omega
  have hno := odd_none oddL[i] (List.getElem_mem hi)
  have hlen : oddL[i].length ≤ 9223372036854775807 := by
    have : ∀ x ∈ oddL, x.length ≤ 5 := by decide
    have := this oddL[i] (List.getElem_mem hi)
    omega
  have HL := hide (show ((w.alloc (.cells ((oddL.map encS).flatten).toArray 9)).cell? ⟨w.heap.size, i, none⟩) = some (.string (str oddL[i])) from lit_cells rfl _ (by
    rw [List.getElem?_toArray]
    have := flat_get 1 (oddL.map encS) (fun c hc => by obtain ⟨a, _, rfl⟩ := List.mem_map.1 hc; rfl) i 0 (by simpa using hi) (by omega)
    rw [Nat.mul_one, Nat.add_zero] at this
    rw [this, List.getElem_map]
    rfl))
  have hx : (oddL.map encS).flatten.toArray = #[Value.string ⟨#[]⟩, .string ⟨#[0]⟩, .string ⟨#[11]⟩, .string ⟨#[6]⟩, .string ⟨#[8, 1]⟩, .string ⟨#[1, 1]⟩, .string ⟨#[10]⟩, .string ⟨#[10, 1]⟩, .string ⟨#[10, 128, 0]⟩, .string ⟨#[9, 10, 1, 10, 0]⟩, .string ⟨#[6, 6]⟩] := rfl
  have hL := HL.out
  rw [hx] at hL
  generalize oddL[i] = lw at *
  clear hx HL
  go_enter Try.func14, Try.ntmps14
  go_wp2_with (first
    | (refine wpList_convS rfl _ _ _ (.tmp 21) rfl Try.underlying9 Try.underlying29 Try.underlying5 lw rfl hlen ?_; intro A1 c1 W1 hb1 k1)
    | fail)
  have k01 : Keep w W1 := Keep.tr (by repeat (first | exact Keep.rf _ | assumption | apply Keep.al | apply Keep.dr | apply Keep.dn)) k1
  clear hL k1
  refine (markRead _ _ lw hb1).mono ?_
  rintro e w2 ⟨o2, n2, A2, m2, c2, rfl, k2, t2⟩
  rw [hno]
  have k02 := Keep.tr k01 k2
  clear t2 hb1 k2 k01 hno hlen
  simp only [Option.isSome_none]
  have kc := fun (C : Array Value) (n c : Nat) => run_conv_const (P := Try.prog) (w2.alloc (.cells #[.string o2, .int .i64 n2, .slice A2 m2 c2] 26)) (w2.heap.size + 1) (by simp) 29 5 C n c Try.underlying29 Try.underlying5
  go_wp2_with fail
  have k3 : Keep w2 ((w2.alloc (.cells #[.string o2, .int .i64 n2, .slice A2 m2 c2] 26)).alloc (.cells #[.int .u8 9, .int .u8 10, .int .u8 0, .int .u8 10, .int .u8 1] 5 (5, 6))) := (by repeat (first | exact Keep.rf _ | assumption | apply Keep.al | apply Keep.dr | apply Keep.dn))
  have hb3 : Bs ((w2.alloc (.cells #[.string o2, .int .i64 n2, .slice A2 m2 c2] 26)).alloc (.cells #[.int .u8 9, .int .u8 10, .int .u8 0, .int .u8 10, .int .u8 1] 5 (5, 6))) (.slice (some ⟨w2.heap.size + 1, 0, none⟩) 5 5) [9, 10, 0, 10, 1] := Bs.lit [9, 10, 0, 10, 1] rfl (by simp) rfl (by omega) (by omega)
  clear kc
  generalize World.alloc (World.alloc w2 _) _ = W3 at *
  refine (markRead _ _ _ hb3).mono ?_
  rintro e w4 ⟨o4, n4, A4, m4, c4, rfl, k4, t4⟩
  rw [odd_fun] at t4 ⊢
  have hS := refShow 2000 funTy
  have hst : Em.showT funTy = [40, 39, 48, 32, 45, 62, 32, 39, 49, 41] := by decide +kernel
  simp only [Option.isSome_some, Option.getD_some] at t4 ⊢
  have hT := t4.keep (Keep.al (Keep.rf w4) (.cells #[.string o4, .int .i64 n4, .slice A4 m4 c4] 26))
  have hS2 := hS _ _ hT (by decide) (by decide)
  rw [hst] at hS2
  have HS := hide hS2
  have k04 : Keep w w4 := Keep.tr (Keep.tr k02 k3) k4
  clear hS hS2 hst t4 hT hb3 k3 k4
  go_wp2_with fail
  refine HS.out.mono ?_
  rintro e w5 ⟨rfl, k5⟩
  have hs5 : (str [40, 39, 48, 32, 45, 62, 32, 39, 49, 41]).toList == [40, 39, 48, 32, 45, 62, 32, 39, 49, 41] := by rw [opB]; rfl
  go_wp2_with fail
  refine (markKnown _).mono ?_
  rintro e w6 ⟨rfl, k6⟩
  go_wp2_with fail
  go_ret
  exact ⟨rfl, Keep.tr (Keep.tr (Keep.al k04 _) k5) k6⟩
end Go.Proofs.Ytcbkklfdeloeeaa
