/- Walks: the reader of the reference: fail, a number, a value that is no block, a string. Walks: the types of a type's fields, a type's tag, is a type's value no block (reference). -/
import Derived.Test.YtoehaijmkmdggaaURvR
import Derived.Test.YtoehaijmkmdggaaUVarZ
import Derived.Test.YtoehaijmkmdggaaUVarW
import Derived.Test.YtoehaijmkmdggaaUBldK
import Derived.Test.YtoehaijmkmdggaaURdT
import Derived.OpenShut
set_option linter.unusedSimpArgs false
set_option linter.unusedVariables false
namespace Go.Proofs.Ytoehaijmkmdggaa
open Go.RowKit
open Em (Ty)
set_option linter.unusedVariables false
set_option linter.unusedSimpArgs false
set_option maxRecDepth 100000
section
variable {B : Nat} {Z : Nat → Prop} {w0 w : World} {p : Nat} {bv lv tv : Value} {its : List (Em.Blk × Value)} {tys : List (Ty × List Value)} {s : Em.Rd}
end
section
variable {B : Nat} {Z : Nat → Prop} {w0 w : World} {p : Nat} {bv lv tv : Value} {its : List (Em.Blk × Value)} {tys : List (Ty × List Value)} {s : Em.Rd}
end
end Go.Proofs.Ytoehaijmkmdggaa
namespace Go.Proofs.Ytoehaijmkmdggaa
open Go.RowKit
open Em (Ty)
set_option linter.unusedVariables false
set_option linter.unusedSimpArgs false
set_option maxRecDepth 100000
/-- The types of a type's fields were answered. -/
def KidX (I : Nat → Prop) (w : World) (t : Ty) (e : Ending) (w' : World) : Prop :=
  ∃ v d, e = .returned v ∧ Sl 3 (TyI (fun k => I k ∨ (w.heap.size ≤ k ∧ k < w'.heap.size)) d) w' v (Em.kidsT t) ∧ InX (fun k => I k ∨ (w.heap.size ≤ k ∧ k < w'.heap.size)) v ∧ Keep w w'
section
variable {I : Nat → Prop} {w : World} {d : Nat} {cs : List Value} {t : Ty}
set_option maxHeartbeats 4000000 in
theorem refPlain22 (ht : TyK d w cs t) (hok : Em.okS t = true) : Calls Try.prog 23 #[.agg cs.toArray] w fun e w' => e = .returned (.bool (decide (Em.isPl t.op))) ∧ Keep w w' := by
  cases d with
  | zero => exact ht.elim
  | succ d =>
    obtain ⟨v, rfl, hn, hs⟩ := ht
    obtain ⟨A, c, rfl, _⟩ := id hs
    have ho := Em.okS_op hok
    obtain ⟨o, n, ks⟩ := t
    simp only [Em.Ty.op, Em.Ty.n, Em.Ty.kids] at *
    have hO := opB o
    clear hs hn hok
    rcases ho with rfl | rfl | rfl | rfl | rfl | ⟨rfl, _⟩ | ⟨rfl, _⟩ | ⟨rfl, _⟩
    all_goals
      (try unfold Em.wInt at *)
      (try unfold Em.wBool at *)
      (try unfold Em.wUnit at *)
      (try unfold Em.wString at *)
      (try unfold Em.wCell at *)
      (try unfold Em.wList at *)
      (try unfold Em.wRef at *)
      (try unfold Em.wPair at *)
      go_enter Try.func23, Try.ntmps23
      go_wp2_with fail
      go_ret
      exact ⟨rfl, (by repeat (first | exact Keep.rf _ | assumption | apply Keep.al | apply Keep.dr | apply Keep.dn))⟩
set_option maxHeartbeats 4000000 in
theorem refTag22 (ht : TyK d w cs t) (hok : Em.okS t = true) (hpl : ¬ Em.isPl t.op) : Calls Try.prog 67 #[.agg cs.toArray] w fun e w' => e = .returned (.int .i64 (Em.tagT t.op)) ∧ Keep w w' := by
  cases d with
  | zero => exact ht.elim
  | succ d =>
    obtain ⟨v, rfl, hn, hs⟩ := ht
    obtain ⟨A, c, rfl, _⟩ := id hs
    have ho := Em.okS_op hok
    obtain ⟨o, n, ks⟩ := t
    simp only [Em.Ty.op, Em.Ty.n, Em.Ty.kids] at *
    have hO := opB o
    clear hs hn hok
    rcases ho with rfl | rfl | rfl | rfl | rfl | ⟨rfl, _⟩ | ⟨rfl, _⟩ | ⟨rfl, _⟩
    · exact absurd (.inl rfl) hpl
    · exact absurd (.inr (.inl rfl)) hpl
    · exact absurd (.inr (.inr rfl)) hpl
    all_goals
      clear hpl
      (try unfold Em.wString at *)
      (try unfold Em.wCell at *)
      (try unfold Em.wList at *)
      (try unfold Em.wRef at *)
      (try unfold Em.wPair at *)
      go_enter Try.func67, Try.ntmps67
      go_wp2_with fail
      go_ret
      exact ⟨rfl, (by repeat (first | exact Keep.rf _ | assumption | apply Keep.al | apply Keep.dr | apply Keep.dn))⟩
set_option maxHeartbeats 8000000 in
theorem refKids22 (ht : TyI I d w cs t) (hok : Em.okS t = true) (hpl : ¬ Em.isPl t.op) (hst : ¬ t.op = Em.wString) : Calls Try.prog 69 #[.agg cs.toArray] w (KidX I w t) := by
  cases d with
  | zero => exact ht.elim
  | succ d =>
    have ht0 := hide ht
    obtain ⟨v, rfl, hn, hs, hin⟩ := ht
    have hO := opB t.op
    have ho := Em.okS_op hok
    obtain ⟨o, n, ks⟩ := t
    simp only [Em.Ty.op, Em.Ty.n, Em.Ty.kids] at *
    obtain ⟨A, c, rfl, l1, l2, hr⟩ := id hs
    have HS := hide hs
    have HIN := hide hin
    have hnb := in_i64 hn
    clear hs hin
    rcases ho with rfl | rfl | rfl | rfl | rfl | ⟨rfl, hl⟩ | ⟨rfl, hl⟩ | ⟨rfl, hl⟩
    · exact absurd (.inl rfl) hpl
    · exact absurd (.inr (.inl rfl)) hpl
    · exact absurd (.inr (.inr rfl)) hpl
    · exact absurd rfl hst
    · -- cell
      have HK := hide (show Em.kidsT (.mk Em.wCell n ks) = [.mk Em.wInt 0 [], .mk Em.wList 0 [.mk Em.wCell 0 []]] from rfl)
      clear hpl hok hr hst
      unfold Em.wCell at *
      have h2 := heap_alloc_new ((w.alloc (.cells #[.string (str [99, 101, 108, 108]), .int .i64 n, .slice A ks.length c] 25)).alloc (.cells #[.string (str [99, 101, 108, 108]), .int .i64 0, .slice none 0 0] 25)) (.cells #[.string (str [99, 101, 108, 108]), .int .i64 0, .slice none 0 0] 25)
      have H2 := hide h2
      clear h2
      go_enter Try.func69, Try.ntmps69
      go_wp2_with fail
      refine (refT23 _ [108, 105, 115, 116] _ 1 1).mono ?_
      rintro e w2 ⟨rfl, k2⟩
      have k02 : Keep w w2 := Keep.tr (Keep.al (Keep.al (Keep.al (Keep.rf w) _) _) _) k2
      have hsz := k2.size
      simp only [size_alloc] at hsz
      have H3 := hide ((k2.frm fun _ => False).heap (fun h => h) H2.out)
      have K02 := hide k02
      clear k2 k02
      go_wp2_with fail
      go_ret
      have h9 := ((Keep.al (Keep.rf w2) (.cells #[.string (str [105, 110, 116]), .int .i64 0, .slice none 0 0, .string (str [108, 105, 115, 116]), .int .i64 0, .slice (some ⟨w.heap.size + 1 + 1, 0, none⟩) 1 1] 25)).frm fun _ => False).heap (fun h => h) H3.out
      have h3 := heap_alloc_new w2 (.cells #[.string (str [105, 110, 116]), .int .i64 0, .slice none 0 0, .string (str [108, 105, 115, 116]), .int .i64 0, .slice (some ⟨w.heap.size + 1 + 1, 0, none⟩) 1 1] 25)
      simp only [size_alloc] at h9
      refine ⟨_, 3, rfl, ?_, fun ad n c e hn => ?_, Keep.al K02.out _⟩
      · rw [HK.out]
        refine sl_two3 h3 (TyI.le (e := 3) (TyI.leaf _) (by decide)) ⟨_, rfl, (by decide : (Lit.int .i64 0).wf = true), sl_one3 h9 (TyI.le (e := 2) (TyI.leaf _) (by decide)), fun ad n c e hn => ?_⟩
        cases e
        refine .inr ⟨?_, ?_⟩
        · show w.heap.size ≤ w.heap.size + 1 + 1
          omega
        · show w.heap.size + 1 + 1 < _
          simp only [size_alloc]
          omega
      · cases e
        refine .inr ⟨?_, ?_⟩
        · show w.heap.size ≤ w2.heap.size
          omega
        · show w2.heap.size < _
          simp only [size_alloc]
          omega
    · -- list
      obtain ⟨ad, rfl, hcell⟩ := hr (by omega)
      obtain ⟨ks0, hk1, hk2, hk3⟩ := hcell 0 (by omega)
      have hhd : ks.headD (.mk [] 0 []) = ks[0] := by
        cases ks with
        | nil => simp at hl
        | cons a u => rfl
      have HK := hide (show Em.kidsT (.mk Em.wList n ks) = [ks[0], .mk Em.wList n ks] from by rw [← hhd]; rfl)
      generalize ks[0] = k0 at *
      have hk4 := hide hk3
      cases d with
      | zero => exact hk3.elim
      | succ d =>
        obtain ⟨kv, rfl, kn, kS, kI⟩ := hk3
        obtain ⟨kA, kc, rfl, _⟩ := id kS
        have kx1 : Keep w ((w.alloc (.cells #[.string (str Em.wList), .int .i64 n, .slice (some ad) ks.length c] 25)).alloc (.cells #[.string ⟨#[99, 101, 108, 108]⟩, .int .i64 0, .slice none 0 0] 25)) := (by repeat (first | exact Keep.rf _ | assumption | apply Keep.al | apply Keep.dr | apply Keep.dn))
        have c0 := Keep.cell kx1 (hk2 0 _ rfl)
        have c1 := cell_off (Keep.cell kx1 (hk2 1 _ rfl))
        have c2 := cell_off (Keep.cell kx1 (hk2 2 _ rfl))
        have hadd : ad.add 0 = ad := by simp [Addr.add]
        simp only [Nat.zero_mul, Nat.add_zero, hadd] at c0 c1 c2
        have hB := (Keep.frm (Keep.al (Keep.rf (w.alloc (.cells #[.string (str Em.wList), .int .i64 n, .slice (some ad) ks.length c] 25))) (.cells #[.string ⟨#[99, 101, 108, 108]⟩, .int .i64 0, .slice none 0 0] 25)) (fun _ => False)).heap (fun h => h) (heap_alloc_new w (.cells #[.string (str Em.wList), .int .i64 n, .slice (some ad) ks.length c] 25))
        have b0 := top_cells hB 0
        have b1 := top_cells hB 1
        have b2 := top_cells hB 2
        simp only [List.getElem?_toArray, List.getElem?_cons_succ, List.getElem?_cons_zero] at b0 b1 b2
        have hlp : (0 : Int) < (ks.length : Int) := by omega
        have hlp2 : 0 < ks.length := by omega
        have HFIN := hide (show ∀ W g, Keep w W → w.heap.size ≤ g → W.heap[g]? = some (.cells #[.string (str k0.op), .int .i64 k0.n, .slice kA k0.kids.length kc, .string (str Em.wList), .int .i64 n, .slice (some ad) ks.length c] 25) → KidX I w (.mk Em.wList n ks) (.returned (.slice (some ⟨g, 0, none⟩) 2 2)) W from fun W g k hg hh => by
          have hgl := (Array.getElem?_eq_some_iff.1 hh).1
          refine ⟨_, d + 2, rfl, ?_, fun ad n c e hn => ?_, k⟩
          · rw [HK.out]
            exact sl_two3 hh (((hk4.out.keep k).mono fun k hk => .inl hk).le (by omega)) ((ht0.out.keep k).mono fun k hk => .inl hk)
          · cases e
            exact .inr ⟨hg, hgl⟩)
        clear hpl hok hr hcell hk1 hk2 hhd hl hB kS kI hst
        unfold Em.wList at *
        go_enter Try.func69, Try.ntmps69
        go_wp2_with fail
        have hJ := And.intro b0 (And.intro b1 (And.intro b2 (And.intro c0 (And.intro c1 c2))))
        generalize hw1 : World.alloc (World.alloc w _) _ = w1 at *
        have hs1 : w.heap.size ≤ w1.heap.size := by rw [← hw1]; simp; omega
        clear hw1
        have HSK := hide (fun (W : World) (k : Keep w1 W) => And.intro (Keep.cell k b0) (And.intro (Keep.cell k b1) (And.intro (Keep.cell k b2) (And.intro (Keep.cell k c0) (And.intro (Keep.cell k c1) (Keep.cell k c2))))))
        clear hJ b0 b1 b2 c0 c1 c2
        go_region_held3 (fun W => W.cell? ⟨w.heap.size, 0, none⟩ = some (.string (str [108, 105, 115, 116])) ∧ W.cell? ⟨w.heap.size, 1, none⟩ = some (.int .i64 n) ∧ W.cell? ⟨w.heap.size, 2, none⟩ = some (.slice (some ad) ks.length c) ∧ W.cell? ad = some (.string (str k0.op)) ∧ W.cell? ⟨ad.block, ad.off + 1, none⟩ = some (.int .i64 k0.n) ∧ W.cell? ⟨ad.block, ad.off + 2, none⟩ = some (.slice kA k0.kids.length kc)) (first | exact HSK.out _ (by repeat (first | exact Keep.rf _ | assumption | apply Keep.al | apply Keep.dr | apply Keep.dn))) (first | fail)
        all_goals
          go_wp2_with fail
          go_ret
          refine HFIN.out _ w1.heap.size (Keep.tr kx1 (by repeat (first | exact Keep.rf _ | assumption | apply Keep.al | apply Keep.dr | apply Keep.dn))) hs1 ?_
          first
            | exact heap_alloc_new w1.drew _
            | exact heap_alloc_new _ _
    · -- ref
      have HK := hide (show Em.kidsT (.mk Em.wRef n ks) = ks from rfl)
      have HFIN := hide (show ∀ W, Keep w W → KidX I w (.mk Em.wRef n ks) (.returned (.slice A ks.length c)) W from fun W k => ⟨_, d, rfl, by rw [HK.out]; exact (HS.out.keep k fun _ _ h => h.keep k).mono fun _ _ h => h.mono fun k hk => .inl hk, fun ad n c e hn => .inl (HIN.out ad n c e hn), k⟩)
      clear hl hst hpl hok hr
      unfold Em.wRef at *
      go_enter Try.func69, Try.ntmps69
      go_wp2_with fail
      go_ret
      exact HFIN.out _ (by repeat (first | exact Keep.rf _ | assumption | apply Keep.al | apply Keep.dr | apply Keep.dn))
    · -- pair
      have HK := hide (show Em.kidsT (.mk Em.wPair n ks) = ks from rfl)
      have HFIN := hide (show ∀ W, Keep w W → KidX I w (.mk Em.wPair n ks) (.returned (.slice A ks.length c)) W from fun W k => ⟨_, d, rfl, by rw [HK.out]; exact (HS.out.keep k fun _ _ h => h.keep k).mono fun _ _ h => h.mono fun k hk => .inl hk, fun ad n c e hn => .inl (HIN.out ad n c e hn), k⟩)
      clear hl hst hpl hok hr
      unfold Em.wPair at *
      go_enter Try.func69, Try.ntmps69
      go_wp2_with fail
      go_ret
      exact HFIN.out _ (by repeat (first | exact Keep.rf _ | assumption | apply Keep.al | apply Keep.dr | apply Keep.dn))
end
end Go.Proofs.Ytoehaijmkmdggaa
