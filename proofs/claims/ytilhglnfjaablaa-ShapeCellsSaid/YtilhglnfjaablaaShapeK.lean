/- Walks: the laws' own check (shape); the law ShapePut. -/
import Derived.Test.YtilhglnfjaablaaShapeO
namespace Go.Proofs.Ytilhglnfjaablaa
open Go.RowKit
set_option linter.unusedVariables false
set_option maxRecDepth 100000
theorem intW_3 : intW 3 = 7 := by unfold intW; rw [IntKind.wrap_i64]; rfl
set_option maxHeartbeats 4000000 in
theorem law18Known (w : World) : Calls Try.prog 18 #[] w fun e w' => e = .returned (.bool true) ∧ Keep w w' := by
  go_enter Try.func18, Try.ntmps18
  go_wp2_with fail
  refine (heapNew 9 _ (by omega)).mono ?_
  rintro e w1 ⟨p, S, rfl, hR, hS, k1⟩
  go_wp2_with fail
  refine (heapInt 3 _).mono ?_
  rintro e w2 ⟨rfl, rfl⟩
  rw [intW_3]
  go_wp2_with fail
  refine (shapeOfInt _ _ 7 (by omega)).mono ?_
  rintro e w3 ⟨rfl, k3⟩
  have k03 := Keep.tr k1 k3
  go_wp2_with fail
  go_ret
  exact ⟨rfl, Keep.al k03 _⟩
theorem wordsOf_all (s : List UInt8) : (wordsOf s).all Em.isB = true := by
  rw [List.all_eq_true]
  intro f hf
  obtain ⟨b, _, rfl⟩ := List.mem_map.1 hf
  have hb := b.toNat_lt
  have h1 := intW_odd (b.toNat : Int)
  have h2 := intW_back (b.toNat : Int) (by omega) (by omega)
  unfold Em.isB
  rw [h2, h1]
  rw [decide_eq_true (by omega), decide_eq_true (by omega)]
  rfl
theorem wordsOf_bytes (s : List UInt8) : (wordsOf s).map Em.byteOf = s := by
  unfold wordsOf
  rw [List.map_map]
  have : (Em.byteOf ∘ fun b : UInt8 => intW (b.toNat : Int)) = id := by
    funext b
    have hb := b.toNat_lt
    have h2 := intW_back (b.toNat : Int) (by omega) (by omega)
    simp only [Function.comp, Em.byteOf, h2, Int.toNat_natCast, id]
    exact UInt8.toNat.inj (by rw [UInt8.toNat_ofNat', Nat.mod_eq_of_lt hb])
  rw [this, List.map_id]
theorem textB_words (s : List UInt8) : Em.textB (wordsOf s) = some s := by
  unfold Em.textB
  rw [if_pos (wordsOf_all s), wordsOf_bytes]
set_option maxHeartbeats 8000000 in
theorem ShapePut_walk (w : World) (s : ByteArray) (hs : s.size ≤ 140737488351232) (n : Int) (hn : (Lit.int .i64 n).wf = true) : Calls Try.prog 6 #[.string s, .int .i64 n] w fun e w' => e = .returned (.bool true) ∧ Keep w w' := by
  rw [← str_of s]
  generalize s.data.toList = l
  clear hs s
  have hsz := str_size l
  by_cases h1 : 100 < l.length
  · have h1I : (l.length : Int) > 100 := by omega
    go_enter Try.func6, Try.ntmps6
    go_wp2_with fail
    go_ret
    exact ⟨rfl, (by repeat (first | exact Keep.rf _ | assumption | apply Keep.al | apply Keep.dr | apply Keep.dn))⟩
  have h1I : ¬ ((l.length : Int) > 100) := by omega
  by_cases h2 : n < 0
  · go_enter Try.func6, Try.ntmps6
    go_wp2_with fail
    go_ret
    exact ⟨rfl, (by repeat (first | exact Keep.rf _ | assumption | apply Keep.al | apply Keep.dr | apply Keep.dn))⟩
  by_cases h3 : 200 < n
  · have h3I : n > 200 := h3
    go_enter Try.func6, Try.ntmps6
    go_wp2_with fail
    go_ret
    exact ⟨rfl, (by repeat (first | exact Keep.rf _ | assumption | apply Keep.al | apply Keep.dr | apply Keep.dn))⟩
  have h3I : ¬ (n > 200) := h3
  obtain ⟨m, rfl⟩ := Int.eq_ofNat_of_zero_le (by omega : 0 ≤ n)
  go_enter Try.func6, Try.ntmps6
  go_wp2_with fail
  refine (heapNew m _ (by omega)).mono ?_
  rintro e w1 ⟨p, S, rfl, hR, hS, k1⟩
  go_wp2_with fail
  refine (shapePut w1 hR l (by omega)).mono ?_
  rintro e w3 ⟨w2, k2, R⟩
  have hu : Em.used [] = 0 := rfl
  have hwl : (wordsOf l).length = l.length := by simp [wordsOf]
  by_cases hf : l.length + 1 ≤ m
  · have ha : Em.alloc m [] 1 (wordsOf l) = some (0, [(1, wordsOf l)]) := by
      rw [alloc_yes (by rw [hu, hwl]; omega)]
      rfl
    obtain ⟨rfl, S', r3, F3, hS'⟩ := R.yes ha
    have k03 : Keep w w3 := Frm.keep (Keep.tr k1 k2) F3 fun i hi => hS i hi
    have hfi : ((l.length : Int) + 1 ≤ (m : Int)) := by omega
    have hb : Em.blk [(1, wordsOf l)] 0 = (1, wordsOf l) := rfl
    have ht : Em.textH [(1, wordsOf l)] 0 = some l := by
      unfold Em.textH
      rw [hb, if_pos rfl, textB_words]
    have hus : Em.used [(1, wordsOf l)] = l.length + 1 := by rw [Em.used, hwl]; rw [hu]; omega
    have HT := hide ht
    have HB := hide hb
    have HU := hide hus
    have hll : ((str l).toList == (str l).toList) = true := by simp
    clear ht hb hus hf hwl hu ha R F3 k2 k1 hS hS' hR
    go_wp2_with fail
    refine (shapeText w3 r3 0 (by decide)).mono ?_
    rintro e w4 ⟨k4, rfl⟩
    rw [HT.out]
    go_wp2_with fail
    refine (heapUsed _ (r3.keep k4)).mono ?_
    rintro e w5 ⟨rfl, rfl⟩
    rw [HU.out]
    go_wp2_with fail
    refine (heapTag _ (r3.keep k4) 0 (by decide)).mono ?_
    rintro e w5 ⟨rfl, rfl⟩
    rw [HB.out]
    go_wp2_with fail
    refine (law18Known _).mono ?_
    rintro e w6 ⟨rfl, k6⟩
    go_wp2_with fail
    go_ret
    exact ⟨rfl, Keep.tr (Keep.tr k03 k4) k6⟩
  · have ha : Em.alloc m [] 1 (wordsOf l) = none := alloc_no (by rw [hu, hwl]; omega)
    obtain ⟨rfl, k3⟩ := R.no ha
    have k03 := Keep.tr (Keep.tr k1 k2) k3
    have hfi : ¬ ((l.length : Int) + 1 ≤ (m : Int)) := by omega
    have r3 := (hR.keep k2).keep k3
    clear hf hwl hu ha R k2 k1 hS hR k3
    go_wp2_with fail
    refine (shapeText w3 r3 0 (by decide)).mono ?_
    rintro e w4 ⟨k4, rfl⟩
    generalize Em.textH [] 0 = o at *
    go_wp2_with fail
    refine (law18Known _).mono ?_
    rintro e w6 ⟨rfl, k6⟩
    go_wp2_with fail
    go_ret
    exact ⟨rfl, Keep.tr (Keep.tr k03 k4) k6⟩
end Go.Proofs.Ytilhglnfjaablaa
