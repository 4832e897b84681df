/- Walks: a type's text (the reference). -/
import Derived.Test.YtoippbbodhchkaaDoorTyW
import Derived.Test.YtoippbbodhchkaaDoorTyN
import Derived.Laws.Concat
namespace Go.Proofs.YtoippbbodhchkaaDoor
open Go.RowKit
open Em (Ty)
set_option linter.unusedVariables false
set_option linter.unusedSimpArgs false
set_option maxRecDepth 100000
namespace Em
/-- A number's digits. -/
def digN (n : Nat) : List UInt8 := if n < 10 then [UInt8.ofNat (48 + n % 10)] else digN (n / 10) ++ [UInt8.ofNat (48 + n % 10)]
termination_by n
/-- A type's text. -/
def showT : Ty → List UInt8
  | .mk o n ks =>
    if o = wVar then [39] ++ digN n.toNat
    else match ks with
    | [] => o
    | k :: ks => if o = wList ∨ o = wRef then showT k ++ [32] ++ o
      else match ks with
      | [] => o
      | l :: _ => if o = wPair then [40] ++ showT k ++ [32, 42, 32] ++ showT l ++ [41] else if o = wFun then [40] ++ showT k ++ [32, 45, 62, 32] ++ showT l ++ [41] else o
end Em
theorem showT_0 (o : List UInt8) (n : Int) : Em.showT (.mk o n []) = if o = Em.wVar then [39] ++ Em.digN n.toNat else o := by rw [Em.showT]
theorem showT_1 (o : List UInt8) (n : Int) (k : Ty) : Em.showT (.mk o n [k]) = if o = Em.wVar then [39] ++ Em.digN n.toNat else if o = Em.wList ∨ o = Em.wRef then Em.showT k ++ [32] ++ o else o := by rw [Em.showT]
theorem showT_2 (o : List UInt8) (n : Int) (k l : Ty) (ks : List Ty) : Em.showT (.mk o n (k :: l :: ks)) = if o = Em.wVar then [39] ++ Em.digN n.toNat else if o = Em.wList ∨ o = Em.wRef then Em.showT k ++ [32] ++ o else
    if o = Em.wPair then [40] ++ Em.showT k ++ [32, 42, 32] ++ Em.showT l ++ [41] else if o = Em.wFun then [40] ++ Em.showT k ++ [32, 45, 62, 32] ++ Em.showT l ++ [41] else o := by rw [Em.showT]
theorem str_app (a b : List UInt8) : str a ++ str b = str (a ++ b) := by
  apply ByteArray.ext
  simp [str]
section
variable {P : Program}
/-- One string behind the other, at the walk. -/
theorem wp_sadd {w : World} {o : Oper} {a : Act} {K : Act → World → Prop} {Q : Exit → Act → World → Prop} (x y : Operand) (t : TypeId) (ho : o.op = .binOp .add t x y t) 
    (l m : List UInt8) (hx : a.eval x = .string (str l)) (hy : a.eval y = .string (str m)) (hz : l.length + m.length ≤ 9223372036854775807) (h : K (a.put o.dst (.string (str (l ++ m)))) w) : o.wp P a w K Q := by
  have hr := run_string_add_sum (P := P) w (str l) (str m) (by rw [str_size, str_size]; omega)
  rw [str_app] at hr
  unfold Oper.wp execOp
  simp [ho, hx, hy, binOp, eqGuard, hr, Oper.upon]
  exact h
end
theorem add_nil (ad : Addr) : ad.add 0 = ad := by simp [Addr.add]
theorem add_three (ad : Addr) : ad.add 3 = ⟨ad.block, ad.off + 3, none⟩ := by simp [Addr.add]
theorem digN_len (k n : Nat) (hk : 1 ≤ k) (h : n < 10 ^ k) : (Em.digN n).length ≤ k := by
  induction k generalizing n with
  | zero => omega
  | succ k ih =>
    rw [Em.digN]
    split
    · simp
    · rename_i h10
      have hk1 : 1 ≤ k := by
        rcases k with _ | k
        · simp at h; omega
        · omega
      have := ih (n / 10) hk1 (by rw [Nat.pow_succ] at h; omega)
      simp
      exact this
theorem digN_len20 (n : Nat) (h : n ≤ 9223372036854775807) : (Em.digN n).length ≤ 20 := digN_len 20 n (by omega) (Nat.lt_of_le_of_lt h (by decide))
set_option maxHeartbeats 2000000 in
theorem refDigits (n : Nat) (h : n ≤ 9223372036854775807) : ∀ w : World, Calls Tryd.prog 45 #[.int .i64 (n : Int)] w fun e w' => e = .returned (.string (str (Em.digN n))) ∧ Keep w w' := by
  induction n using Nat.strongRecOn with
  | ind n ih =>
    intro w
    have hbx : Bs (w.alloc (.cells #[.int .u8 (48 + (n : Int) % 10)] 5)) (.slice (some ⟨w.heap.size, 0, none⟩) 1 1) [UInt8.ofNat (48 + n % 10)] := Bs.box (by
      rw [bv, UInt8.toNat_ofNat', Nat.mod_eq_of_lt (by omega)]
      simp) rfl
    have hc := run_conv_bs (P := Tryd.prog) hbx 72 5 9 Tryd.underlying72 Tryd.underlying5 Tryd.underlying9
    clear hbx
    generalize hb : UInt8.ofNat (48 + n % 10) = b at *
    by_cases h10 : n < 10
    · have hd : Em.digN n = [b] := by rw [Em.digN, if_pos h10, hb]
      have HD := hide hd
      have g1 : decide ((n : Int) ≥ 10) = false := decide_eq_false (by omega)
      clear ih hb hd
      go_enter Tryd.func45, Tryd.ntmps45
      go_wp2_with fail
      go_ret
      rw [HD.out]
      exact ⟨rfl, (by repeat (first | exact Keep.rf _ | assumption | apply Keep.al | apply Keep.dr | apply Keep.dn))⟩
    · have hd : Em.digN n = Em.digN (n / 10) ++ [b] := by rw [Em.digN, if_neg h10, hb]
      have HD := hide hd
      have g1 : decide ((n : Int) ≥ 10) = true := decide_eq_true (by omega)
      have IH := hide (ih (n / 10) (by omega) (by omega))
      have h1 : (str (Em.digN (n / 10))).size ≤ 20 := by rw [str_size]; exact digN_len20 _ (by omega)
      have h2 : (str [b]).size = 1 := str_size _
      have hgo : ¬ 9223372036854775807 < (str (Em.digN (n / 10))).size + (str [b]).size := by omega
      clear ih hb hd h2
      go_enter Tryd.func45, Tryd.ntmps45
      go_wp2_with fail
      refine (IH.out _).mono ?_
      rintro e w' ⟨rfl, k⟩
      go_wp2_with fail
      go_ret
      rw [HD.out, ← str_app]
      exact ⟨rfl, Keep.tr (by repeat (first | exact Keep.rf _ | assumption | apply Keep.al | apply Keep.dr | apply Keep.dn)) k⟩
theorem okT_parts {o : List UInt8} {n : Int} {ks : List Ty} (h : Em.okT (.mk o n ks) = true) : (ks.length : Int) = Em.kidsOf o ∧ 0 ≤ n ∧ ∀ k ∈ ks, Em.okT k = true := by
  rw [Em.okT, Bool.and_eq_true] at h
  have h1 := h.1
  simp only [Bool.not_eq_true', Bool.or_eq_false_iff, decide_eq_false_iff_not, Classical.not_not, ne_eq] at h1
  refine ⟨h1.1.1, by omega, fun k hk => ?_⟩
  have h2 := h.2
  rw [Em.okL_all] at h2
  have h3 : (ks.any fun k => !Em.okT k) = false := by simpa using h2
  rw [List.any_eq_false] at h3
  have := h3 k hk
  simpa using this
theorem showT_len (d : Nat) : ∀ (t : Ty) (w : World) (cs : List Value), TyK d w cs t → Em.okT t = true → (Em.showT t).length ≤ 30 * nodes t := by
  induction d with
  | zero => intro t w cs h; exact h.elim
  | succ d ih =>
    intro t w cs h hok
    obtain ⟨v, rfl, hn, A, c, rfl, hlc, hcm, hr⟩ := h
    cases t with
    | mk o n ks =>
      obtain ⟨h1, h2, h3⟩ := okT_parts hok
      have hb := in_i64 hn
      have hkid : ∀ (j : Nat) (h : j < ks.length), (Em.showT ks[j]).length ≤ 30 * nodes ks[j] := by
        intro j hj
        obtain ⟨ad, -, hcell⟩ := hr (by show 0 < ks.length; omega)
        obtain ⟨cs, _, _, hk⟩ := hcell j hj
        exact ih _ _ _ hk (h3 _ (List.getElem_mem hj))
      have hvar : ∀ m, ([39] ++ Em.digN n.toNat).length ≤ 30 * (1 + m) := fun m => by
        have := digN_len20 n.toNat (by have hb2 : n ≤ 9223372036854775807 := hb.2; omega)
        simp
        omega
      rcases ks with _ | ⟨k, _ | ⟨l, ks⟩⟩
      · rw [showT_0]
        simp only [nodes]
        split
        · exact hvar _
        · have : o.length ≤ 6 := by
            unfold Em.kidsOf at h1
            split at h1
            · rename_i e
              rcases e with rfl | rfl | rfl | rfl | rfl | rfl <;> decide
            · split at h1 <;> (try (split at h1)) <;> simp at h1
          omega
      · have h4 := hkid 0 (by simp)
        have : o.length ≤ 6 := by
          unfold Em.kidsOf at h1
          split at h1
          · simp at h1
          · split at h1
            · rename_i e
              rcases e with rfl | rfl <;> decide
            · split at h1 <;> simp at h1
        simp only [List.getElem_cons_zero] at h4
        rw [showT_1]
        simp only [nodes]
        split
        · exact hvar _
        · simp only [nodesL]
          split
          · simp only [List.length_append, List.length_cons, List.length_nil]
            omega
          · omega
      · have h4 := hkid 0 (by simp)
        have h5 := hkid 1 (by simp)
        simp only [List.getElem_cons_zero, List.getElem_cons_succ] at h4 h5
        have h6 : o = Em.wPair ∨ o = Em.wFun := by
          unfold Em.kidsOf at h1
          split at h1
          · simp at h1; omega
          · split at h1
            · simp at h1; omega
            · split at h1
              · assumption
              · simp at h1; omega
        have h7 : ¬ (o = Em.wList ∨ o = Em.wRef) := by
          rcases h6 with rfl | rfl <;> decide
        rw [showT_2]
        simp only [nodes]
        split
        · exact hvar _
        · try rw [if_neg h7]
          simp only [nodesL]
          split
          · simp only [List.length_append, List.length_cons, List.length_nil]
            omega
          · split
            · simp only [List.length_append, List.length_cons, List.length_nil]
              omega
            · rename_i e1 e2
              rcases h6 with e | e
              · exact (e1 e).elim
              · exact (e2 e).elim
set_option maxHeartbeats 8000000 in
theorem refShow (d : Nat) : ∀ (t : Ty) (w : World) (cs : List Value), TyK d w cs t → Em.okT t = true → nodes t ≤ 100000 → Calls Tryd.prog 23 #[.agg cs.toArray] w fun e w' => e = .returned (.string (str (Em.showT t))) ∧ Keep w w' := by
  induction d with
  | zero => intro t w cs h; exact h.elim
  | succ d ih =>
    intro t w cs h hok hnd
    obtain ⟨v, rfl, hn, A, c, rfl, hlc, hcm, hr⟩ := h
    have IH := hide ih
    clear ih
    obtain ⟨o, n, ks⟩ := t
    obtain ⟨h1, h2, h3⟩ := okT_parts hok
    have hnb : -9223372036854775808 ≤ n ∧ n ≤ 9223372036854775807 := in_i64 hn
    simp only [Ty.op, Ty.n, Ty.kids] at hlc hr ⊢
    have hO := opB o
    rcases opCases o with rfl | rfl | rfl | rfl | rfl | rfl | rfl | rfl | rfl | rfl | ⟨j0, j1, j2, j3, j4, j5, j6, j7, j8, j9⟩
    · -- int
      obtain rfl : ks = [] := by
        rcases ks with _ | ⟨k, ks⟩
        · rfl
        · simp [Em.kidsOf, Em.wInt, Em.wBool, Em.wUnit, Em.wString, Em.wCell, Em.wVar, Em.wList, Em.wRef, Em.wPair, Em.wFun] at h1
          omega
      have hT : Em.showT (.mk [105, 110, 116] n []) = [105, 110, 116] := by rw [showT_0]; rfl
      have HT := hide hT
      clear hT h1 h3
      go_enter Tryd.func23, Tryd.ntmps23
      go_wp2_with fail
      go_ret
      rw [HT.out]
      exact ⟨rfl, (by repeat (first | exact Keep.rf _ | assumption | apply Keep.al | apply Keep.dr | apply Keep.dn))⟩
    · -- bool
      obtain rfl : ks = [] := by
        rcases ks with _ | ⟨k, ks⟩
        · rfl
        · simp [Em.kidsOf, Em.wInt, Em.wBool, Em.wUnit, Em.wString, Em.wCell, Em.wVar, Em.wList, Em.wRef, Em.wPair, Em.wFun] at h1
          omega
      have hT : Em.showT (.mk [98, 111, 111, 108] n []) = [98, 111, 111, 108] := by rw [showT_0]; rfl
      have HT := hide hT
      clear hT h1 h3
      go_enter Tryd.func23, Tryd.ntmps23
      go_wp2_with fail
      go_ret
      rw [HT.out]
      exact ⟨rfl, (by repeat (first | exact Keep.rf _ | assumption | apply Keep.al | apply Keep.dr | apply Keep.dn))⟩
    · -- unit
      obtain rfl : ks = [] := by
        rcases ks with _ | ⟨k, ks⟩
        · rfl
        · simp [Em.kidsOf, Em.wInt, Em.wBool, Em.wUnit, Em.wString, Em.wCell, Em.wVar, Em.wList, Em.wRef, Em.wPair, Em.wFun] at h1
          omega
      have hT : Em.showT (.mk [117, 110, 105, 116] n []) = [117, 110, 105, 116] := by rw [showT_0]; rfl
      have HT := hide hT
      clear hT h1 h3
      go_enter Tryd.func23, Tryd.ntmps23
      go_wp2_with fail
      go_ret
      rw [HT.out]
      exact ⟨rfl, (by repeat (first | exact Keep.rf _ | assumption | apply Keep.al | apply Keep.dr | apply Keep.dn))⟩
    · -- string
      obtain rfl : ks = [] := by
        rcases ks with _ | ⟨k, ks⟩
        · rfl
        · simp [Em.kidsOf, Em.wInt, Em.wBool, Em.wUnit, Em.wString, Em.wCell, Em.wVar, Em.wList, Em.wRef, Em.wPair, Em.wFun] at h1
          omega
      have hT : Em.showT (.mk [115, 116, 114, 105, 110, 103] n []) = [115, 116, 114, 105, 110, 103] := by rw [showT_0]; rfl
      have HT := hide hT
      clear hT h1 h3
      go_enter Tryd.func23, Tryd.ntmps23
      go_wp2_with fail
      go_ret
      rw [HT.out]
      exact ⟨rfl, (by repeat (first | exact Keep.rf _ | assumption | apply Keep.al | apply Keep.dr | apply Keep.dn))⟩
    · -- cell
      obtain rfl : ks = [] := by
        rcases ks with _ | ⟨k, ks⟩
        · rfl
        · simp [Em.kidsOf, Em.wInt, Em.wBool, Em.wUnit, Em.wString, Em.wCell, Em.wVar, Em.wList, Em.wRef, Em.wPair, Em.wFun] at h1
          omega
      have hT : Em.showT (.mk [99, 101, 108, 108] n []) = [99, 101, 108, 108] := by rw [showT_0]; rfl
      have HT := hide hT
      clear hT h1 h3
      go_enter Tryd.func23, Tryd.ntmps23
      go_wp2_with fail
      go_ret
      rw [HT.out]
      exact ⟨rfl, (by repeat (first | exact Keep.rf _ | assumption | apply Keep.al | apply Keep.dr | apply Keep.dn))⟩
    · -- var
      obtain rfl : ks = [] := by
        rcases ks with _ | ⟨k, ks⟩
        · rfl
        · simp [Em.kidsOf, Em.wInt, Em.wBool, Em.wUnit, Em.wString, Em.wCell, Em.wVar, Em.wList, Em.wRef, Em.wPair, Em.wFun] at h1
          omega
      obtain ⟨n, rfl⟩ := Int.eq_ofNat_of_zero_le h2
      have hT : Em.showT (.mk [118, 97, 114] n []) = [39] ++ Em.digN n := by rw [showT_0]; rfl
      have HT := hide hT
      have hln := digN_len20 n (by omega)
      clear hT h1 h3
      go_enter Tryd.func23, Tryd.ntmps23
      go_wp2_with fail
      refine (refDigits n (by omega) _).mono ?_
      rintro e w1 ⟨rfl, k1⟩
      have hgo : ¬ 9223372036854775807 < 1 + (str (Em.digN n)).size := by rw [str_size]; omega
      go_wp2_with fail
      go_ret
      rw [HT.out, ← str_app]
      exact ⟨rfl, Keep.tr (by repeat (first | exact Keep.rf _ | assumption | apply Keep.al | apply Keep.dr | apply Keep.dn)) k1⟩
    · -- list
      obtain ⟨k, rfl⟩ : ∃ k, ks = [k] := by
        rcases ks with _ | ⟨k, _ | ⟨l, ks⟩⟩
        · simp [Em.kidsOf, Em.wInt, Em.wBool, Em.wUnit, Em.wString, Em.wCell, Em.wVar, Em.wList, Em.wRef, Em.wPair, Em.wFun] at h1
        · exact ⟨k, rfl⟩
        · simp [Em.kidsOf, Em.wInt, Em.wBool, Em.wUnit, Em.wString, Em.wCell, Em.wVar, Em.wList, Em.wRef, Em.wPair, Em.wFun] at h1
          omega
      have hT : Em.showT (.mk [108, 105, 115, 116] n [k]) = Em.showT k ++ [32] ++ [108, 105, 115, 116] := by rw [showT_1]; rfl
      have HT := hide hT
      simp only [Ty.kids, List.length_cons, List.length_nil, nodes, nodesL] at hlc hr hnd
      obtain ⟨ad, rfl, hcell⟩ := hr (by omega)
      obtain ⟨cs, hcs, hcl, hkt⟩ := hcell 0 (by simp)
      simp only [List.getElem_cons_zero] at hkt
      have hkt0 := hide hkt
      have hko := h3 k (by simp)
      have hkl := showT_len d k w cs hkt hko
      have hbd : 30 * nodes k ≤ 3000000 := by omega
      cases d with
      | zero => exact hkt.elim
      | succ d =>
        obtain ⟨kv, rfl, kn, kA, kc, rfl, _⟩ := hkt
        have c0 : w.cell? (ad.add 0) = some (.string (str k.op)) := hcl 0 _ rfl
        have c1 := cell_off (k := 0) (i := 1) (hcl 1 _ rfl)
        have c2 := cell_off (k := 0) (i := 2) (hcl 2 _ rfl)
        rw [add_nil] at c0 c1 c2
        clear hcell hcl hr hT h1 h3
        go_enter Tryd.func23, Tryd.ntmps23
        go_wp2_with fail
        have k0 : Keep w (w.alloc (.cells #[.string (str [108, 105, 115, 116]), .int .i64 n, .slice (some ad) 1 c] 24)) := (by repeat (first | exact Keep.rf _ | assumption | apply Keep.al | apply Keep.dr | apply Keep.dn))
        have hb := heap_alloc_new w (.cells #[.string (str [108, 105, 115, 116]), .int .i64 n, .slice (some ad) 1 c] 24)
        have b0 := top_cells hb 0
        have b2 := top_cells hb 2
        simp only [List.getElem?_toArray, List.getElem?_cons_succ, List.getElem?_cons_zero] at b0 b2
        replace c0 := Keep.cell k0 c0
        replace c1 := Keep.cell k0 c1
        replace c2 := Keep.cell k0 c2
        clear hb
        apply region_all (by kernel_rfl) Keep Keep krg ktg krg ktg (fun _ _ h => h) [some 8, some 9, some 10, some 11, some 12, some 13, some 14, some 15, some 16, some 2] [eqG _ , eqG _ , eqG _ , eqG _ , fun us _ v => v = .string (str (Em.showT k)), fun us _ v => v = .string (str (Em.showT k ++ [32])), eqG _ , eqG _ , fun us _ v => v = .string (str (Em.showT k ++ [32] ++ [108, 105, 115, 116])), eqG _ ] [⟨[], [], true, false, false⟩, ⟨[0], [], true, false, false⟩, ⟨[1], [], true, false, false⟩, ⟨[2], [], true, false, false⟩, ⟨[3], [], true, false, false⟩, ⟨[4], [], true, false, false⟩, ⟨[], [], true, false, false⟩, ⟨[6], [], true, false, false⟩, ⟨[5, 7], [], true, false, false⟩, ⟨[8], [], true, false, false⟩] [9] (by kernel_rfl) (by kernel_rfl) 
        · refine ⟨?_, ?_, ?_, ?_, ?_, ?_, ?_, ?_, ?_, ?_, trivial⟩
          · (intro us W h9 hW hE hd hs K hK; obtain ⟨u0, u1, u2, u3, u4, u5, u6, u7, u8, u9, rfl⟩ := rog 10 h9 rfl; clear h9; clear hd; clear hs; simp only [fillG, List.set_cons_zero, List.set_cons_succ]; refine want_n rfl ?_; go_wp2_with (first | fail); simp only [DoneG, fillG, List.set_cons_zero, List.set_cons_succ, relG, eqG, eqG1, eqG2, eqG3, gdG, gdG1, gnG, gnG1, List.getD_cons_zero, List.getD_cons_succ, List.getElem?_cons_succ, List.getElem?_cons_zero, Option.map_some, Option.getD_some, valsG, List.map_cons, List.map_nil, List.length_cons, List.length_nil]; exact ⟨_, rfl, (by first | with_reducible assumption | exact krg _ | exact Keep.al (krg _) _), fun _ _ => rfl⟩)
          · (intro us W h9 hW hE hd hs K hK; obtain ⟨u0, u1, u2, u3, u4, u5, u6, u7, u8, u9, rfl⟩ := rog 10 h9 rfl; clear h9; simp only [DepG, AtG, and_true, relG, eqG, eqG1, eqG2, eqG3, gdG, gdG1, gnG, gnG1, List.getD_cons_zero, List.getD_cons_succ, List.getElem?_cons_succ, List.getElem?_cons_zero, Option.map_some, Option.getD_some, valsG, List.map_cons, List.map_nil, List.length_cons, List.length_nil] at hd; have d0 := hd; clear hd; subst d0; clear hs; simp only [fillG, List.set_cons_zero, List.set_cons_succ]; have hKW := Keep.tr (Keep.dr (Keep.rf _)) (hE rfl); have b0 := Keep.cell hKW b0; have b2 := Keep.cell hKW b2; have c0 := Keep.cell hKW c0; have c1 := Keep.cell hKW c1; have c2 := Keep.cell hKW c2; refine want_n rfl ?_; go_wp2_with (first | fail); simp only [DoneG, fillG, List.set_cons_zero, List.set_cons_succ, relG, eqG, eqG1, eqG2, eqG3, gdG, gdG1, gnG, gnG1, List.getD_cons_zero, List.getD_cons_succ, List.getElem?_cons_succ, List.getElem?_cons_zero, Option.map_some, Option.getD_some, valsG, List.map_cons, List.map_nil, List.length_cons, List.length_nil]; exact ⟨_, rfl, (by first | with_reducible assumption | exact krg _ | exact Keep.al (krg _) _), fun _ _ => rfl⟩)
          · (intro us W h9 hW hE hd hs K hK; obtain ⟨u0, u1, u2, u3, u4, u5, u6, u7, u8, u9, rfl⟩ := rog 10 h9 rfl; clear h9; simp only [DepG, AtG, and_true, relG, eqG, eqG1, eqG2, eqG3, gdG, gdG1, gnG, gnG1, List.getD_cons_zero, List.getD_cons_succ, List.getElem?_cons_succ, List.getElem?_cons_zero, Option.map_some, Option.getD_some, valsG, List.map_cons, List.map_nil, List.length_cons, List.length_nil] at hd; have d1 := hd; clear hd; subst d1; clear hs; simp only [fillG, List.set_cons_zero, List.set_cons_succ]; refine want_n rfl ?_; go_wp2_with (first | fail); simp only [DoneG, fillG, List.set_cons_zero, List.set_cons_succ, relG, eqG, eqG1, eqG2, eqG3, gdG, gdG1, gnG, gnG1, List.getD_cons_zero, List.getD_cons_succ, List.getElem?_cons_succ, List.getElem?_cons_zero, Option.map_some, Option.getD_some, valsG, List.map_cons, List.map_nil, List.length_cons, List.length_nil]; exact ⟨_, rfl, (by first | with_reducible assumption | exact krg _ | exact Keep.al (krg _) _), fun _ _ => rfl⟩)
          · (intro us W h9 hW hE hd hs K hK; obtain ⟨u0, u1, u2, u3, u4, u5, u6, u7, u8, u9, rfl⟩ := rog 10 h9 rfl; clear h9; simp only [DepG, AtG, and_true, relG, eqG, eqG1, eqG2, eqG3, gdG, gdG1, gnG, gnG1, List.getD_cons_zero, List.getD_cons_succ, List.getElem?_cons_succ, List.getElem?_cons_zero, Option.map_some, Option.getD_some, valsG, List.map_cons, List.map_nil, List.length_cons, List.length_nil] at hd; have d2 := hd; clear hd; subst d2; clear hs; simp only [fillG, List.set_cons_zero, List.set_cons_succ]; have hKW := Keep.tr (Keep.dr (Keep.rf _)) (hE rfl); have b0 := Keep.cell hKW b0; have b2 := Keep.cell hKW b2; have c0 := Keep.cell hKW c0; have c1 := Keep.cell hKW c1; have c2 := Keep.cell hKW c2; refine want_n rfl ?_; go_wp2_with (first | fail); simp only [DoneG, fillG, List.set_cons_zero, List.set_cons_succ, relG, eqG, eqG1, eqG2, eqG3, gdG, gdG1, gnG, gnG1, List.getD_cons_zero, List.getD_cons_succ, List.getElem?_cons_succ, List.getElem?_cons_zero, Option.map_some, Option.getD_some, valsG, List.map_cons, List.map_nil, List.length_cons, List.length_nil]; exact ⟨_, rfl, (by first | with_reducible assumption | exact krg _ | exact Keep.al (krg _) _), fun _ _ => rfl⟩)
          · (intro us W h9 hW hE hd hs K hK; obtain ⟨u0, u1, u2, u3, u4, u5, u6, u7, u8, u9, rfl⟩ := rog 10 h9 rfl; clear h9; simp only [DepG, AtG, and_true, relG, eqG, eqG1, eqG2, eqG3, gdG, gdG1, gnG, gnG1, List.getD_cons_zero, List.getD_cons_succ, List.getElem?_cons_succ, List.getElem?_cons_zero, Option.map_some, Option.getD_some, valsG, List.map_cons, List.map_nil, List.length_cons, List.length_nil] at hd; have d3 := hd; clear hd; subst d3; clear hs; simp only [fillG, List.set_cons_zero, List.set_cons_succ]; have hKW := Keep.tr (Keep.dr (Keep.rf _)) (hE rfl); have b0 := Keep.cell hKW b0; have b2 := Keep.cell hKW b2; have c0 := Keep.cell hKW c0; have c1 := Keep.cell hKW c1; have c2 := Keep.cell hKW c2; refine want_n rfl ?_; go_wp2_with (first | (go_at_call 23; refine (IH.out k _ _ (hkt0.out.keep (Keep.tr k0 hKW)) hko (by omega)).mono ?_; rintro e w9 ⟨rfl, hk9⟩) | fail); simp only [DoneG, fillG, List.set_cons_zero, List.set_cons_succ, relG, eqG, eqG1, eqG2, eqG3, gdG, gdG1, gnG, gnG1, List.getD_cons_zero, List.getD_cons_succ, List.getElem?_cons_succ, List.getElem?_cons_zero, Option.map_some, Option.getD_some, valsG, List.map_cons, List.map_nil, List.length_cons, List.length_nil]; exact ⟨_, rfl, (by first | with_reducible assumption | exact krg _ | exact Keep.al (krg _) _), fun _ _ => rfl⟩)
          · (intro us W h9 hW hE hd hs K hK; obtain ⟨u0, u1, u2, u3, u4, u5, u6, u7, u8, u9, rfl⟩ := rog 10 h9 rfl; clear h9; simp only [DepG, AtG, and_true, relG, eqG, eqG1, eqG2, eqG3, gdG, gdG1, gnG, gnG1, List.getD_cons_zero, List.getD_cons_succ, List.getElem?_cons_succ, List.getElem?_cons_zero, Option.map_some, Option.getD_some, valsG, List.map_cons, List.map_nil, List.length_cons, List.length_nil] at hd; have d4 := hd; clear hd; subst d4; clear hs; simp only [fillG, List.set_cons_zero, List.set_cons_succ]; have hKW := Keep.tr (Keep.dr (Keep.rf _)) (hE rfl); have b0 := Keep.cell hKW b0; have b2 := Keep.cell hKW b2; have c0 := Keep.cell hKW c0; have c1 := Keep.cell hKW c1; have c2 := Keep.cell hKW c2; refine want_n rfl ?_; refine wp_sadd (.tmp 12) (.const (.string ⟨#[32]⟩)) _ rfl (Em.showT k) [32] rfl rfl (by simp; omega) ?_; refine hK _ _ ?_; simp only [DoneG, fillG, List.set_cons_zero, List.set_cons_succ, relG, eqG, eqG1, eqG2, eqG3, gdG, gdG1, gnG, gnG1, List.getD_cons_zero, List.getD_cons_succ, List.getElem?_cons_succ, List.getElem?_cons_zero, Option.map_some, Option.getD_some, valsG, List.map_cons, List.map_nil, List.length_cons, List.length_nil]; exact ⟨_, rfl, (by first | with_reducible assumption | exact krg _ | exact Keep.al (krg _) _), fun _ _ => rfl⟩)
          · (intro us W h9 hW hE hd hs K hK; obtain ⟨u0, u1, u2, u3, u4, u5, u6, u7, u8, u9, rfl⟩ := rog 10 h9 rfl; clear h9; clear hd; clear hs; simp only [fillG, List.set_cons_zero, List.set_cons_succ]; refine want_n rfl ?_; go_wp2_with (first | fail); simp only [DoneG, fillG, List.set_cons_zero, List.set_cons_succ, relG, eqG, eqG1, eqG2, eqG3, gdG, gdG1, gnG, gnG1, List.getD_cons_zero, List.getD_cons_succ, List.getElem?_cons_succ, List.getElem?_cons_zero, Option.map_some, Option.getD_some, valsG, List.map_cons, List.map_nil, List.length_cons, List.length_nil]; exact ⟨_, rfl, (by first | with_reducible assumption | exact krg _ | exact Keep.al (krg _) _), fun _ _ => rfl⟩)
          · (intro us W h9 hW hE hd hs K hK; obtain ⟨u0, u1, u2, u3, u4, u5, u6, u7, u8, u9, rfl⟩ := rog 10 h9 rfl; clear h9; simp only [DepG, AtG, and_true, relG, eqG, eqG1, eqG2, eqG3, gdG, gdG1, gnG, gnG1, List.getD_cons_zero, List.getD_cons_succ, List.getElem?_cons_succ, List.getElem?_cons_zero, Option.map_some, Option.getD_some, valsG, List.map_cons, List.map_nil, List.length_cons, List.length_nil] at hd; have d6 := hd; clear hd; subst d6; clear hs; simp only [fillG, List.set_cons_zero, List.set_cons_succ]; have hKW := Keep.tr (Keep.dr (Keep.rf _)) (hE rfl); have b0 := Keep.cell hKW b0; have b2 := Keep.cell hKW b2; have c0 := Keep.cell hKW c0; have c1 := Keep.cell hKW c1; have c2 := Keep.cell hKW c2; refine want_n rfl ?_; go_wp2_with (first | fail); simp only [DoneG, fillG, List.set_cons_zero, List.set_cons_succ, relG, eqG, eqG1, eqG2, eqG3, gdG, gdG1, gnG, gnG1, List.getD_cons_zero, List.getD_cons_succ, List.getElem?_cons_succ, List.getElem?_cons_zero, Option.map_some, Option.getD_some, valsG, List.map_cons, List.map_nil, List.length_cons, List.length_nil]; exact ⟨_, rfl, (by first | with_reducible assumption | exact krg _ | exact Keep.al (krg _) _), fun _ _ => rfl⟩)
          · (intro us W h9 hW hE hd hs K hK; obtain ⟨u0, u1, u2, u3, u4, u5, u6, u7, u8, u9, rfl⟩ := rog 10 h9 rfl; clear h9; simp only [DepG, AtG, and_true, relG, eqG, eqG1, eqG2, eqG3, gdG, gdG1, gnG, gnG1, List.getD_cons_zero, List.getD_cons_succ, List.getElem?_cons_succ, List.getElem?_cons_zero, Option.map_some, Option.getD_some, valsG, List.map_cons, List.map_nil, List.length_cons, List.length_nil] at hd; obtain ⟨d5, d7⟩ := hd; subst d5; subst d7; clear hs; simp only [fillG, List.set_cons_zero, List.set_cons_succ]; have hKW := Keep.tr (Keep.dr (Keep.rf _)) (hE rfl); have b0 := Keep.cell hKW b0; have b2 := Keep.cell hKW b2; have c0 := Keep.cell hKW c0; have c1 := Keep.cell hKW c1; have c2 := Keep.cell hKW c2; refine want_n rfl ?_; refine wp_sadd (.tmp 13) (.tmp 15) _ rfl (Em.showT k ++ [32]) [108, 105, 115, 116] rfl rfl (by simp; omega) ?_; refine hK _ _ ?_; simp only [DoneG, fillG, List.set_cons_zero, List.set_cons_succ, relG, eqG, eqG1, eqG2, eqG3, gdG, gdG1, gnG, gnG1, List.getD_cons_zero, List.getD_cons_succ, List.getElem?_cons_succ, List.getElem?_cons_zero, Option.map_some, Option.getD_some, valsG, List.map_cons, List.map_nil, List.length_cons, List.length_nil]; exact ⟨_, rfl, (by first | with_reducible assumption | exact krg _ | exact Keep.al (krg _) _), fun _ _ => rfl⟩)
          · (intro us W h9 hW hE hd hs K hK; obtain ⟨u0, u1, u2, u3, u4, u5, u6, u7, u8, u9, rfl⟩ := rog 10 h9 rfl; clear h9; simp only [DepG, AtG, and_true, relG, eqG, eqG1, eqG2, eqG3, gdG, gdG1, gnG, gnG1, List.getD_cons_zero, List.getD_cons_succ, List.getElem?_cons_succ, List.getElem?_cons_zero, Option.map_some, Option.getD_some, valsG, List.map_cons, List.map_nil, List.length_cons, List.length_nil] at hd; have d8 := hd; clear hd; subst d8; clear hs; simp only [fillG, List.set_cons_zero, List.set_cons_succ]; refine want_n rfl ?_; go_wp2_with (first | fail); simp only [DoneG, fillG, List.set_cons_zero, List.set_cons_succ, relG, eqG, eqG1, eqG2, eqG3, gdG, gdG1, gnG, gnG1, List.getD_cons_zero, List.getD_cons_succ, List.getElem?_cons_succ, List.getElem?_cons_zero, Option.map_some, Option.getD_some, valsG, List.map_cons, List.map_nil, List.length_cons, List.length_nil]; exact ⟨_, rfl, (by first | with_reducible assumption | exact krg _ | exact Keep.al (krg _) _), fun _ _ => rfl⟩)
        (intro us W4 h9 hW hE hA; obtain ⟨u0, u1, u2, u3, u4, u5, u6, u7, u8, u9, rfl⟩ := rog 10 h9 rfl; clear h9; simp only [AllG, AtG, and_true, relG, eqG, eqG1, eqG2, eqG3, gdG, gdG1, gnG, gnG1, List.getD_cons_zero, List.getD_cons_succ, List.getElem?_cons_succ, List.getElem?_cons_zero, Option.map_some, Option.getD_some, valsG, List.map_cons, List.map_nil, List.length_cons, List.length_nil] at hA; have d9 := hA; clear hA; subst d9; simp only [fillG, List.set_cons_zero, List.set_cons_succ]; have k4 := Keep.tr (Keep.dr (Keep.rf _)) hW; clear hW hE)
        go_wp2_with fail
        go_ret
        rw [HT.out]
        exact ⟨by simp, Keep.tr k0 k4⟩
    · -- ref
      obtain ⟨k, rfl⟩ : ∃ k, ks = [k] := by
        rcases ks with _ | ⟨k, _ | ⟨l, ks⟩⟩
        · simp [Em.kidsOf, Em.wInt, Em.wBool, Em.wUnit, Em.wString, Em.wCell, Em.wVar, Em.wList, Em.wRef, Em.wPair, Em.wFun] at h1
        · exact ⟨k, rfl⟩
        · simp [Em.kidsOf, Em.wInt, Em.wBool, Em.wUnit, Em.wString, Em.wCell, Em.wVar, Em.wList, Em.wRef, Em.wPair, Em.wFun] at h1
          omega
      have hT : Em.showT (.mk [114, 101, 102] n [k]) = Em.showT k ++ [32] ++ [114, 101, 102] := by rw [showT_1]; rfl
      have HT := hide hT
      simp only [Ty.kids, List.length_cons, List.length_nil, nodes, nodesL] at hlc hr hnd
      obtain ⟨ad, rfl, hcell⟩ := hr (by omega)
      obtain ⟨cs, hcs, hcl, hkt⟩ := hcell 0 (by simp)
      simp only [List.getElem_cons_zero] at hkt
      have hkt0 := hide hkt
      have hko := h3 k (by simp)
      have hkl := showT_len d k w cs hkt hko
      have hbd : 30 * nodes k ≤ 3000000 := by omega
      cases d with
      | zero => exact hkt.elim
      | succ d =>
        obtain ⟨kv, rfl, kn, kA, kc, rfl, _⟩ := hkt
        have c0 : w.cell? (ad.add 0) = some (.string (str k.op)) := hcl 0 _ rfl
        have c1 := cell_off (k := 0) (i := 1) (hcl 1 _ rfl)
        have c2 := cell_off (k := 0) (i := 2) (hcl 2 _ rfl)
        rw [add_nil] at c0 c1 c2
        clear hcell hcl hr hT h1 h3
        go_enter Tryd.func23, Tryd.ntmps23
        go_wp2_with fail
        have k0 : Keep w (w.alloc (.cells #[.string (str [114, 101, 102]), .int .i64 n, .slice (some ad) 1 c] 24)) := (by repeat (first | exact Keep.rf _ | assumption | apply Keep.al | apply Keep.dr | apply Keep.dn))
        have hb := heap_alloc_new w (.cells #[.string (str [114, 101, 102]), .int .i64 n, .slice (some ad) 1 c] 24)
        have b0 := top_cells hb 0
        have b2 := top_cells hb 2
        simp only [List.getElem?_toArray, List.getElem?_cons_succ, List.getElem?_cons_zero] at b0 b2
        replace c0 := Keep.cell k0 c0
        replace c1 := Keep.cell k0 c1
        replace c2 := Keep.cell k0 c2
        clear hb
        apply region_all (by kernel_rfl) Keep Keep krg ktg krg ktg (fun _ _ h => h) [some 8, some 9, some 10, some 11, some 12, some 13, some 14, some 15, some 16, some 2] [eqG _ , eqG _ , eqG _ , eqG _ , fun us _ v => v = .string (str (Em.showT k)), fun us _ v => v = .string (str (Em.showT k ++ [32])), eqG _ , eqG _ , fun us _ v => v = .string (str (Em.showT k ++ [32] ++ [114, 101, 102])), eqG _ ] [⟨[], [], true, false, false⟩, ⟨[0], [], true, false, false⟩, ⟨[1], [], true, false, false⟩, ⟨[2], [], true, false, false⟩, ⟨[3], [], true, false, false⟩, ⟨[4], [], true, false, false⟩, ⟨[], [], true, false, false⟩, ⟨[6], [], true, false, false⟩, ⟨[5, 7], [], true, false, false⟩, ⟨[8], [], true, false, false⟩] [9] (by kernel_rfl) (by kernel_rfl) 
        · refine ⟨?_, ?_, ?_, ?_, ?_, ?_, ?_, ?_, ?_, ?_, trivial⟩
          · (intro us W h9 hW hE hd hs K hK; obtain ⟨u0, u1, u2, u3, u4, u5, u6, u7, u8, u9, rfl⟩ := rog 10 h9 rfl; clear h9; clear hd; clear hs; simp only [fillG, List.set_cons_zero, List.set_cons_succ]; refine want_n rfl ?_; go_wp2_with (first | fail); simp only [DoneG, fillG, List.set_cons_zero, List.set_cons_succ, relG, eqG, eqG1, eqG2, eqG3, gdG, gdG1, gnG, gnG1, List.getD_cons_zero, List.getD_cons_succ, List.getElem?_cons_succ, List.getElem?_cons_zero, Option.map_some, Option.getD_some, valsG, List.map_cons, List.map_nil, List.length_cons, List.length_nil]; exact ⟨_, rfl, (by first | with_reducible assumption | exact krg _ | exact Keep.al (krg _) _), fun _ _ => rfl⟩)
          · (intro us W h9 hW hE hd hs K hK; obtain ⟨u0, u1, u2, u3, u4, u5, u6, u7, u8, u9, rfl⟩ := rog 10 h9 rfl; clear h9; simp only [DepG, AtG, and_true, relG, eqG, eqG1, eqG2, eqG3, gdG, gdG1, gnG, gnG1, List.getD_cons_zero, List.getD_cons_succ, List.getElem?_cons_succ, List.getElem?_cons_zero, Option.map_some, Option.getD_some, valsG, List.map_cons, List.map_nil, List.length_cons, List.length_nil] at hd; have d0 := hd; clear hd; subst d0; clear hs; simp only [fillG, List.set_cons_zero, List.set_cons_succ]; have hKW := Keep.tr (Keep.dr (Keep.rf _)) (hE rfl); have b0 := Keep.cell hKW b0; have b2 := Keep.cell hKW b2; have c0 := Keep.cell hKW c0; have c1 := Keep.cell hKW c1; have c2 := Keep.cell hKW c2; refine want_n rfl ?_; go_wp2_with (first | fail); simp only [DoneG, fillG, List.set_cons_zero, List.set_cons_succ, relG, eqG, eqG1, eqG2, eqG3, gdG, gdG1, gnG, gnG1, List.getD_cons_zero, List.getD_cons_succ, List.getElem?_cons_succ, List.getElem?_cons_zero, Option.map_some, Option.getD_some, valsG, List.map_cons, List.map_nil, List.length_cons, List.length_nil]; exact ⟨_, rfl, (by first | with_reducible assumption | exact krg _ | exact Keep.al (krg _) _), fun _ _ => rfl⟩)
          · (intro us W h9 hW hE hd hs K hK; obtain ⟨u0, u1, u2, u3, u4, u5, u6, u7, u8, u9, rfl⟩ := rog 10 h9 rfl; clear h9; simp only [DepG, AtG, and_true, relG, eqG, eqG1, eqG2, eqG3, gdG, gdG1, gnG, gnG1, List.getD_cons_zero, List.getD_cons_succ, List.getElem?_cons_succ, List.getElem?_cons_zero, Option.map_some, Option.getD_some, valsG, List.map_cons, List.map_nil, List.length_cons, List.length_nil] at hd; have d1 := hd; clear hd; subst d1; clear hs; simp only [fillG, List.set_cons_zero, List.set_cons_succ]; refine want_n rfl ?_; go_wp2_with (first | fail); simp only [DoneG, fillG, List.set_cons_zero, List.set_cons_succ, relG, eqG, eqG1, eqG2, eqG3, gdG, gdG1, gnG, gnG1, List.getD_cons_zero, List.getD_cons_succ, List.getElem?_cons_succ, List.getElem?_cons_zero, Option.map_some, Option.getD_some, valsG, List.map_cons, List.map_nil, List.length_cons, List.length_nil]; exact ⟨_, rfl, (by first | with_reducible assumption | exact krg _ | exact Keep.al (krg _) _), fun _ _ => rfl⟩)
          · (intro us W h9 hW hE hd hs K hK; obtain ⟨u0, u1, u2, u3, u4, u5, u6, u7, u8, u9, rfl⟩ := rog 10 h9 rfl; clear h9; simp only [DepG, AtG, and_true, relG, eqG, eqG1, eqG2, eqG3, gdG, gdG1, gnG, gnG1, List.getD_cons_zero, List.getD_cons_succ, List.getElem?_cons_succ, List.getElem?_cons_zero, Option.map_some, Option.getD_some, valsG, List.map_cons, List.map_nil, List.length_cons, List.length_nil] at hd; have d2 := hd; clear hd; subst d2; clear hs; simp only [fillG, List.set_cons_zero, List.set_cons_succ]; have hKW := Keep.tr (Keep.dr (Keep.rf _)) (hE rfl); have b0 := Keep.cell hKW b0; have b2 := Keep.cell hKW b2; have c0 := Keep.cell hKW c0; have c1 := Keep.cell hKW c1; have c2 := Keep.cell hKW c2; refine want_n rfl ?_; go_wp2_with (first | fail); simp only [DoneG, fillG, List.set_cons_zero, List.set_cons_succ, relG, eqG, eqG1, eqG2, eqG3, gdG, gdG1, gnG, gnG1, List.getD_cons_zero, List.getD_cons_succ, List.getElem?_cons_succ, List.getElem?_cons_zero, Option.map_some, Option.getD_some, valsG, List.map_cons, List.map_nil, List.length_cons, List.length_nil]; exact ⟨_, rfl, (by first | with_reducible assumption | exact krg _ | exact Keep.al (krg _) _), fun _ _ => rfl⟩)
          · (intro us W h9 hW hE hd hs K hK; obtain ⟨u0, u1, u2, u3, u4, u5, u6, u7, u8, u9, rfl⟩ := rog 10 h9 rfl; clear h9; simp only [DepG, AtG, and_true, relG, eqG, eqG1, eqG2, eqG3, gdG, gdG1, gnG, gnG1, List.getD_cons_zero, List.getD_cons_succ, List.getElem?_cons_succ, List.getElem?_cons_zero, Option.map_some, Option.getD_some, valsG, List.map_cons, List.map_nil, List.length_cons, List.length_nil] at hd; have d3 := hd; clear hd; subst d3; clear hs; simp only [fillG, List.set_cons_zero, List.set_cons_succ]; have hKW := Keep.tr (Keep.dr (Keep.rf _)) (hE rfl); have b0 := Keep.cell hKW b0; have b2 := Keep.cell hKW b2; have c0 := Keep.cell hKW c0; have c1 := Keep.cell hKW c1; have c2 := Keep.cell hKW c2; refine want_n rfl ?_; go_wp2_with (first | (go_at_call 23; refine (IH.out k _ _ (hkt0.out.keep (Keep.tr k0 hKW)) hko (by omega)).mono ?_; rintro e w9 ⟨rfl, hk9⟩) | fail); simp only [DoneG, fillG, List.set_cons_zero, List.set_cons_succ, relG, eqG, eqG1, eqG2, eqG3, gdG, gdG1, gnG, gnG1, List.getD_cons_zero, List.getD_cons_succ, List.getElem?_cons_succ, List.getElem?_cons_zero, Option.map_some, Option.getD_some, valsG, List.map_cons, List.map_nil, List.length_cons, List.length_nil]; exact ⟨_, rfl, (by first | with_reducible assumption | exact krg _ | exact Keep.al (krg _) _), fun _ _ => rfl⟩)
          · (intro us W h9 hW hE hd hs K hK; obtain ⟨u0, u1, u2, u3, u4, u5, u6, u7, u8, u9, rfl⟩ := rog 10 h9 rfl; clear h9; simp only [DepG, AtG, and_true, relG, eqG, eqG1, eqG2, eqG3, gdG, gdG1, gnG, gnG1, List.getD_cons_zero, List.getD_cons_succ, List.getElem?_cons_succ, List.getElem?_cons_zero, Option.map_some, Option.getD_some, valsG, List.map_cons, List.map_nil, List.length_cons, List.length_nil] at hd; have d4 := hd; clear hd; subst d4; clear hs; simp only [fillG, List.set_cons_zero, List.set_cons_succ]; have hKW := Keep.tr (Keep.dr (Keep.rf _)) (hE rfl); have b0 := Keep.cell hKW b0; have b2 := Keep.cell hKW b2; have c0 := Keep.cell hKW c0; have c1 := Keep.cell hKW c1; have c2 := Keep.cell hKW c2; refine want_n rfl ?_; refine wp_sadd (.tmp 12) (.const (.string ⟨#[32]⟩)) _ rfl (Em.showT k) [32] rfl rfl (by simp; omega) ?_; refine hK _ _ ?_; simp only [DoneG, fillG, List.set_cons_zero, List.set_cons_succ, relG, eqG, eqG1, eqG2, eqG3, gdG, gdG1, gnG, gnG1, List.getD_cons_zero, List.getD_cons_succ, List.getElem?_cons_succ, List.getElem?_cons_zero, Option.map_some, Option.getD_some, valsG, List.map_cons, List.map_nil, List.length_cons, List.length_nil]; exact ⟨_, rfl, (by first | with_reducible assumption | exact krg _ | exact Keep.al (krg _) _), fun _ _ => rfl⟩)
          · (intro us W h9 hW hE hd hs K hK; obtain ⟨u0, u1, u2, u3, u4, u5, u6, u7, u8, u9, rfl⟩ := rog 10 h9 rfl; clear h9; clear hd; clear hs; simp only [fillG, List.set_cons_zero, List.set_cons_succ]; refine want_n rfl ?_; go_wp2_with (first | fail); simp only [DoneG, fillG, List.set_cons_zero, List.set_cons_succ, relG, eqG, eqG1, eqG2, eqG3, gdG, gdG1, gnG, gnG1, List.getD_cons_zero, List.getD_cons_succ, List.getElem?_cons_succ, List.getElem?_cons_zero, Option.map_some, Option.getD_some, valsG, List.map_cons, List.map_nil, List.length_cons, List.length_nil]; exact ⟨_, rfl, (by first | with_reducible assumption | exact krg _ | exact Keep.al (krg _) _), fun _ _ => rfl⟩)
          · (intro us W h9 hW hE hd hs K hK; obtain ⟨u0, u1, u2, u3, u4, u5, u6, u7, u8, u9, rfl⟩ := rog 10 h9 rfl; clear h9; simp only [DepG, AtG, and_true, relG, eqG, eqG1, eqG2, eqG3, gdG, gdG1, gnG, gnG1, List.getD_cons_zero, List.getD_cons_succ, List.getElem?_cons_succ, List.getElem?_cons_zero, Option.map_some, Option.getD_some, valsG, List.map_cons, List.map_nil, List.length_cons, List.length_nil] at hd; have d6 := hd; clear hd; subst d6; clear hs; simp only [fillG, List.set_cons_zero, List.set_cons_succ]; have hKW := Keep.tr (Keep.dr (Keep.rf _)) (hE rfl); have b0 := Keep.cell hKW b0; have b2 := Keep.cell hKW b2; have c0 := Keep.cell hKW c0; have c1 := Keep.cell hKW c1; have c2 := Keep.cell hKW c2; refine want_n rfl ?_; go_wp2_with (first | fail); simp only [DoneG, fillG, List.set_cons_zero, List.set_cons_succ, relG, eqG, eqG1, eqG2, eqG3, gdG, gdG1, gnG, gnG1, List.getD_cons_zero, List.getD_cons_succ, List.getElem?_cons_succ, List.getElem?_cons_zero, Option.map_some, Option.getD_some, valsG, List.map_cons, List.map_nil, List.length_cons, List.length_nil]; exact ⟨_, rfl, (by first | with_reducible assumption | exact krg _ | exact Keep.al (krg _) _), fun _ _ => rfl⟩)
          · (intro us W h9 hW hE hd hs K hK; obtain ⟨u0, u1, u2, u3, u4, u5, u6, u7, u8, u9, rfl⟩ := rog 10 h9 rfl; clear h9; simp only [DepG, AtG, and_true, relG, eqG, eqG1, eqG2, eqG3, gdG, gdG1, gnG, gnG1, List.getD_cons_zero, List.getD_cons_succ, List.getElem?_cons_succ, List.getElem?_cons_zero, Option.map_some, Option.getD_some, valsG, List.map_cons, List.map_nil, List.length_cons, List.length_nil] at hd; obtain ⟨d5, d7⟩ := hd; subst d5; subst d7; clear hs; simp only [fillG, List.set_cons_zero, List.set_cons_succ]; have hKW := Keep.tr (Keep.dr (Keep.rf _)) (hE rfl); have b0 := Keep.cell hKW b0; have b2 := Keep.cell hKW b2; have c0 := Keep.cell hKW c0; have c1 := Keep.cell hKW c1; have c2 := Keep.cell hKW c2; refine want_n rfl ?_; refine wp_sadd (.tmp 13) (.tmp 15) _ rfl (Em.showT k ++ [32]) [114, 101, 102] rfl rfl (by simp; omega) ?_; refine hK _ _ ?_; simp only [DoneG, fillG, List.set_cons_zero, List.set_cons_succ, relG, eqG, eqG1, eqG2, eqG3, gdG, gdG1, gnG, gnG1, List.getD_cons_zero, List.getD_cons_succ, List.getElem?_cons_succ, List.getElem?_cons_zero, Option.map_some, Option.getD_some, valsG, List.map_cons, List.map_nil, List.length_cons, List.length_nil]; exact ⟨_, rfl, (by first | with_reducible assumption | exact krg _ | exact Keep.al (krg _) _), fun _ _ => rfl⟩)
          · (intro us W h9 hW hE hd hs K hK; obtain ⟨u0, u1, u2, u3, u4, u5, u6, u7, u8, u9, rfl⟩ := rog 10 h9 rfl; clear h9; simp only [DepG, AtG, and_true, relG, eqG, eqG1, eqG2, eqG3, gdG, gdG1, gnG, gnG1, List.getD_cons_zero, List.getD_cons_succ, List.getElem?_cons_succ, List.getElem?_cons_zero, Option.map_some, Option.getD_some, valsG, List.map_cons, List.map_nil, List.length_cons, List.length_nil] at hd; have d8 := hd; clear hd; subst d8; clear hs; simp only [fillG, List.set_cons_zero, List.set_cons_succ]; refine want_n rfl ?_; go_wp2_with (first | fail); simp only [DoneG, fillG, List.set_cons_zero, List.set_cons_succ, relG, eqG, eqG1, eqG2, eqG3, gdG, gdG1, gnG, gnG1, List.getD_cons_zero, List.getD_cons_succ, List.getElem?_cons_succ, List.getElem?_cons_zero, Option.map_some, Option.getD_some, valsG, List.map_cons, List.map_nil, List.length_cons, List.length_nil]; exact ⟨_, rfl, (by first | with_reducible assumption | exact krg _ | exact Keep.al (krg _) _), fun _ _ => rfl⟩)
        (intro us W4 h9 hW hE hA; obtain ⟨u0, u1, u2, u3, u4, u5, u6, u7, u8, u9, rfl⟩ := rog 10 h9 rfl; clear h9; simp only [AllG, AtG, and_true, relG, eqG, eqG1, eqG2, eqG3, gdG, gdG1, gnG, gnG1, List.getD_cons_zero, List.getD_cons_succ, List.getElem?_cons_succ, List.getElem?_cons_zero, Option.map_some, Option.getD_some, valsG, List.map_cons, List.map_nil, List.length_cons, List.length_nil] at hA; have d9 := hA; clear hA; subst d9; simp only [fillG, List.set_cons_zero, List.set_cons_succ]; have k4 := Keep.tr (Keep.dr (Keep.rf _)) hW; clear hW hE)
        go_wp2_with fail
        go_ret
        rw [HT.out]
        exact ⟨by simp, Keep.tr k0 k4⟩
    · -- pair
      obtain ⟨k, l, rfl⟩ : ∃ k l, ks = [k, l] := by
        rcases ks with _ | ⟨k, _ | ⟨l, _ | ⟨m, ks⟩⟩⟩
        · simp [Em.kidsOf, Em.wInt, Em.wBool, Em.wUnit, Em.wString, Em.wCell, Em.wVar, Em.wList, Em.wRef, Em.wPair, Em.wFun] at h1
        · simp [Em.kidsOf, Em.wInt, Em.wBool, Em.wUnit, Em.wString, Em.wCell, Em.wVar, Em.wList, Em.wRef, Em.wPair, Em.wFun] at h1
        · exact ⟨k, l, rfl⟩
        · simp [Em.kidsOf, Em.wInt, Em.wBool, Em.wUnit, Em.wString, Em.wCell, Em.wVar, Em.wList, Em.wRef, Em.wPair, Em.wFun] at h1
          omega
      have hT : Em.showT (.mk [112, 97, 105, 114] n [k, l]) = [40] ++ Em.showT k ++ [32, 42, 32] ++ Em.showT l ++ [41] := by rw [showT_2]; rfl
      have HT := hide hT
      simp only [Ty.kids, List.length_cons, List.length_nil, nodes, nodesL] at hlc hr hnd
      obtain ⟨ad, rfl, hcell⟩ := hr (by omega)
      obtain ⟨cs, hcs, hcl, hkt⟩ := hcell 0 (by simp)
      obtain ⟨cs', hcs', hcl', hkt'⟩ := hcell 1 (by simp)
      simp only [List.getElem_cons_zero, List.getElem_cons_succ] at hkt hkt'
      have hkt0 := hide hkt
      have hkt1 := hide hkt'
      have hko := h3 k (by simp)
      have hlo := h3 l (by simp)
      have hkl := showT_len d k w cs hkt hko
      have hll := showT_len d l w cs' hkt' hlo
      have hbd : 30 * nodes k ≤ 3000000 := by omega
      have hbl : 30 * nodes l ≤ 3000000 := by omega
      cases d with
      | zero => exact hkt.elim
      | succ d =>
        obtain ⟨kv, rfl, kn, kA, kc, rfl, _⟩ := hkt
        obtain ⟨lv, rfl, ln, lA, lc, rfl, _⟩ := hkt'
        have c0 : w.cell? (ad.add 0) = some (.string (str k.op)) := hcl 0 _ rfl
        have c1 := cell_off (k := 0) (i := 1) (hcl 1 _ rfl)
        have c2 := cell_off (k := 0) (i := 2) (hcl 2 _ rfl)
        rw [add_nil] at c0 c1 c2
        have e0 : w.cell? (ad.add 3) = some (.string (str l.op)) := hcl' 0 _ rfl
        have e1 := cell_off (k := 3) (i := 1) (hcl' 1 _ rfl)
        have e2 := cell_off (k := 3) (i := 2) (hcl' 2 _ rfl)
        have m0 : w.cell? ⟨ad.block, ad.off + 3, none⟩ = some (.string (str l.op)) := by rw [← add_three]; exact e0
        have m1 : w.cell? ⟨ad.block, ad.off + 3 + 1, none⟩ = some (.int .i64 l.n) := by rw [add_three] at e1; exact e1
        have m2 : w.cell? ⟨ad.block, ad.off + 3 + 2, none⟩ = some (.slice lA l.kids.length lc) := by rw [add_three] at e2; exact e2
        have q1 : w.cell? ⟨ad.block, ad.off + 4, none⟩ = some (.int .i64 l.n) := m1
        have q2 : w.cell? ⟨ad.block, ad.off + 5, none⟩ = some (.slice lA l.kids.length lc) := m2
        clear hcell hcl hr hcl' hT h1 h3
        go_enter Tryd.func23, Tryd.ntmps23
        go_wp2_with fail
        have k0 : Keep w (w.alloc (.cells #[.string (str [112, 97, 105, 114]), .int .i64 n, .slice (some ad) 2 c] 24)) := (by repeat (first | exact Keep.rf _ | assumption | apply Keep.al | apply Keep.dr | apply Keep.dn))
        have hb := heap_alloc_new w (.cells #[.string (str [112, 97, 105, 114]), .int .i64 n, .slice (some ad) 2 c] 24)
        have b2 := top_cells hb 2
        simp only [List.getElem?_toArray, List.getElem?_cons_succ, List.getElem?_cons_zero] at b2
        replace c0 := Keep.cell k0 c0
        replace c1 := Keep.cell k0 c1
        replace c2 := Keep.cell k0 c2
        replace e0 := Keep.cell k0 e0
        replace e1 := Keep.cell k0 e1
        replace e2 := Keep.cell k0 e2
        replace m0 := Keep.cell k0 m0
        replace m1 := Keep.cell k0 m1
        replace m2 := Keep.cell k0 m2
        replace q1 := Keep.cell k0 q1
        replace q2 := Keep.cell k0 q2
        clear hb
        apply region_all (by kernel_rfl) Keep Keep krg ktg krg ktg (fun _ _ h => h) [some 19, some 20, some 21, some 22, some 23, some 24, some 25, some 26, some 27, some 28, some 29, some 30, some 31, some 32, some 2] [eqG _ , eqG _ , eqG _ , eqG _ , fun us _ v => v = .string (str (Em.showT k)), fun us _ v => v = .string (str ([40] ++ Em.showT k)), fun us _ v => v = .string (str ([40] ++ Em.showT k ++ [32, 42, 32])), eqG _ , eqG _ , eqG _ , eqG _ , fun us _ v => v = .string (str (Em.showT l)), fun us _ v => v = .string (str ([40] ++ Em.showT k ++ [32, 42, 32] ++ Em.showT l)), fun us _ v => v = .string (str ([40] ++ Em.showT k ++ [32, 42, 32] ++ Em.showT l ++ [41])), eqG _ ] [⟨[], [], true, false, false⟩, ⟨[0], [], true, false, false⟩, ⟨[1], [], true, false, false⟩, ⟨[2], [], true, false, false⟩, ⟨[3], [], true, false, false⟩, ⟨[4], [], true, false, false⟩, ⟨[5], [], true, false, false⟩, ⟨[], [], true, false, false⟩, ⟨[7], [], true, false, false⟩, ⟨[8], [], true, false, false⟩, ⟨[9], [], true, false, false⟩, ⟨[10], [], true, false, false⟩, ⟨[6, 11], [], true, false, false⟩, ⟨[12], [], true, false, false⟩, ⟨[13], [], true, false, false⟩] [14] (by kernel_rfl) (by kernel_rfl) 
        · refine ⟨?_, ?_, ?_, ?_, ?_, ?_, ?_, ?_, ?_, ?_, ?_, ?_, ?_, ?_, ?_, trivial⟩
          · (intro us W h9 hW hE hd hs K hK; obtain ⟨u0, u1, u2, u3, u4, u5, u6, u7, u8, u9, u10, u11, u12, u13, u14, rfl⟩ := rog 15 h9 rfl; clear h9; clear hd; clear hs; simp only [fillG, List.set_cons_zero, List.set_cons_succ]; refine want_n rfl ?_; go_wp2_with (first | fail); simp only [DoneG, fillG, List.set_cons_zero, List.set_cons_succ, relG, eqG, eqG1, eqG2, eqG3, gdG, gdG1, gnG, gnG1, List.getD_cons_zero, List.getD_cons_succ, List.getElem?_cons_succ, List.getElem?_cons_zero, Option.map_some, Option.getD_some, valsG, List.map_cons, List.map_nil, List.length_cons, List.length_nil]; exact ⟨_, rfl, (by first | with_reducible assumption | exact krg _ | exact Keep.al (krg _) _), fun _ _ => rfl⟩)
          · (intro us W h9 hW hE hd hs K hK; obtain ⟨u0, u1, u2, u3, u4, u5, u6, u7, u8, u9, u10, u11, u12, u13, u14, rfl⟩ := rog 15 h9 rfl; clear h9; simp only [DepG, AtG, and_true, relG, eqG, eqG1, eqG2, eqG3, gdG, gdG1, gnG, gnG1, List.getD_cons_zero, List.getD_cons_succ, List.getElem?_cons_succ, List.getElem?_cons_zero, Option.map_some, Option.getD_some, valsG, List.map_cons, List.map_nil, List.length_cons, List.length_nil] at hd; have d0 := hd; clear hd; subst d0; clear hs; simp only [fillG, List.set_cons_zero, List.set_cons_succ]; have hKW := Keep.tr (Keep.dr (Keep.rf _)) (hE rfl); have b2 := Keep.cell hKW b2; have c0 := Keep.cell hKW c0; have c1 := Keep.cell hKW c1; have c2 := Keep.cell hKW c2; have e0 := Keep.cell hKW e0; have e1 := Keep.cell hKW e1; have e2 := Keep.cell hKW e2; have m0 := Keep.cell hKW m0; have m1 := Keep.cell hKW m1; have m2 := Keep.cell hKW m2; have q1 := Keep.cell hKW q1; have q2 := Keep.cell hKW q2; refine want_n rfl ?_; go_wp2_with (first | fail); simp only [DoneG, fillG, List.set_cons_zero, List.set_cons_succ, relG, eqG, eqG1, eqG2, eqG3, gdG, gdG1, gnG, gnG1, List.getD_cons_zero, List.getD_cons_succ, List.getElem?_cons_succ, List.getElem?_cons_zero, Option.map_some, Option.getD_some, valsG, List.map_cons, List.map_nil, List.length_cons, List.length_nil]; exact ⟨_, rfl, (by first | with_reducible assumption | exact krg _ | exact Keep.al (krg _) _), fun _ _ => rfl⟩)
          · (intro us W h9 hW hE hd hs K hK; obtain ⟨u0, u1, u2, u3, u4, u5, u6, u7, u8, u9, u10, u11, u12, u13, u14, rfl⟩ := rog 15 h9 rfl; clear h9; simp only [DepG, AtG, and_true, relG, eqG, eqG1, eqG2, eqG3, gdG, gdG1, gnG, gnG1, List.getD_cons_zero, List.getD_cons_succ, List.getElem?_cons_succ, List.getElem?_cons_zero, Option.map_some, Option.getD_some, valsG, List.map_cons, List.map_nil, List.length_cons, List.length_nil] at hd; have d1 := hd; clear hd; subst d1; clear hs; simp only [fillG, List.set_cons_zero, List.set_cons_succ]; refine want_n rfl ?_; go_wp2_with (first | fail); simp only [DoneG, fillG, List.set_cons_zero, List.set_cons_succ, relG, eqG, eqG1, eqG2, eqG3, gdG, gdG1, gnG, gnG1, List.getD_cons_zero, List.getD_cons_succ, List.getElem?_cons_succ, List.getElem?_cons_zero, Option.map_some, Option.getD_some, valsG, List.map_cons, List.map_nil, List.length_cons, List.length_nil]; exact ⟨_, rfl, (by first | with_reducible assumption | exact krg _ | exact Keep.al (krg _) _), fun _ _ => rfl⟩)
          · (intro us W h9 hW hE hd hs K hK; obtain ⟨u0, u1, u2, u3, u4, u5, u6, u7, u8, u9, u10, u11, u12, u13, u14, rfl⟩ := rog 15 h9 rfl; clear h9; simp only [DepG, AtG, and_true, relG, eqG, eqG1, eqG2, eqG3, gdG, gdG1, gnG, gnG1, List.getD_cons_zero, List.getD_cons_succ, List.getElem?_cons_succ, List.getElem?_cons_zero, Option.map_some, Option.getD_some, valsG, List.map_cons, List.map_nil, List.length_cons, List.length_nil] at hd; have d2 := hd; clear hd; subst d2; clear hs; simp only [fillG, List.set_cons_zero, List.set_cons_succ]; have hKW := Keep.tr (Keep.dr (Keep.rf _)) (hE rfl); have b2 := Keep.cell hKW b2; have c0 := Keep.cell hKW c0; have c1 := Keep.cell hKW c1; have c2 := Keep.cell hKW c2; have e0 := Keep.cell hKW e0; have e1 := Keep.cell hKW e1; have e2 := Keep.cell hKW e2; have m0 := Keep.cell hKW m0; have m1 := Keep.cell hKW m1; have m2 := Keep.cell hKW m2; have q1 := Keep.cell hKW q1; have q2 := Keep.cell hKW q2; refine want_n rfl ?_; go_wp2_with (first | fail); simp only [DoneG, fillG, List.set_cons_zero, List.set_cons_succ, relG, eqG, eqG1, eqG2, eqG3, gdG, gdG1, gnG, gnG1, List.getD_cons_zero, List.getD_cons_succ, List.getElem?_cons_succ, List.getElem?_cons_zero, Option.map_some, Option.getD_some, valsG, List.map_cons, List.map_nil, List.length_cons, List.length_nil]; exact ⟨_, rfl, (by first | with_reducible assumption | exact krg _ | exact Keep.al (krg _) _), fun _ _ => rfl⟩)
          · (intro us W h9 hW hE hd hs K hK; obtain ⟨u0, u1, u2, u3, u4, u5, u6, u7, u8, u9, u10, u11, u12, u13, u14, rfl⟩ := rog 15 h9 rfl; clear h9; simp only [DepG, AtG, and_true, relG, eqG, eqG1, eqG2, eqG3, gdG, gdG1, gnG, gnG1, List.getD_cons_zero, List.getD_cons_succ, List.getElem?_cons_succ, List.getElem?_cons_zero, Option.map_some, Option.getD_some, valsG, List.map_cons, List.map_nil, List.length_cons, List.length_nil] at hd; have d3 := hd; clear hd; subst d3; clear hs; simp only [fillG, List.set_cons_zero, List.set_cons_succ]; have hKW := Keep.tr (Keep.dr (Keep.rf _)) (hE rfl); have b2 := Keep.cell hKW b2; have c0 := Keep.cell hKW c0; have c1 := Keep.cell hKW c1; have c2 := Keep.cell hKW c2; have e0 := Keep.cell hKW e0; have e1 := Keep.cell hKW e1; have e2 := Keep.cell hKW e2; have m0 := Keep.cell hKW m0; have m1 := Keep.cell hKW m1; have m2 := Keep.cell hKW m2; have q1 := Keep.cell hKW q1; have q2 := Keep.cell hKW q2; refine want_n rfl ?_; go_wp2_with (first | (go_at_call 23; refine (IH.out k _ _ (hkt0.out.keep (Keep.tr k0 hKW)) hko (by omega)).mono ?_; rintro e w9 ⟨rfl, hk9⟩) | fail); simp only [DoneG, fillG, List.set_cons_zero, List.set_cons_succ, relG, eqG, eqG1, eqG2, eqG3, gdG, gdG1, gnG, gnG1, List.getD_cons_zero, List.getD_cons_succ, List.getElem?_cons_succ, List.getElem?_cons_zero, Option.map_some, Option.getD_some, valsG, List.map_cons, List.map_nil, List.length_cons, List.length_nil]; exact ⟨_, rfl, (by first | with_reducible assumption | exact krg _ | exact Keep.al (krg _) _), fun _ _ => rfl⟩)
          · (intro us W h9 hW hE hd hs K hK; obtain ⟨u0, u1, u2, u3, u4, u5, u6, u7, u8, u9, u10, u11, u12, u13, u14, rfl⟩ := rog 15 h9 rfl; clear h9; simp only [DepG, AtG, and_true, relG, eqG, eqG1, eqG2, eqG3, gdG, gdG1, gnG, gnG1, List.getD_cons_zero, List.getD_cons_succ, List.getElem?_cons_succ, List.getElem?_cons_zero, Option.map_some, Option.getD_some, valsG, List.map_cons, List.map_nil, List.length_cons, List.length_nil] at hd; have d4 := hd; clear hd; subst d4; clear hs; simp only [fillG, List.set_cons_zero, List.set_cons_succ]; have hKW := Keep.tr (Keep.dr (Keep.rf _)) (hE rfl); have b2 := Keep.cell hKW b2; have c0 := Keep.cell hKW c0; have c1 := Keep.cell hKW c1; have c2 := Keep.cell hKW c2; have e0 := Keep.cell hKW e0; have e1 := Keep.cell hKW e1; have e2 := Keep.cell hKW e2; have m0 := Keep.cell hKW m0; have m1 := Keep.cell hKW m1; have m2 := Keep.cell hKW m2; have q1 := Keep.cell hKW q1; have q2 := Keep.cell hKW q2; refine want_n rfl ?_; refine wp_sadd (.const (.string ⟨#[40]⟩)) (.tmp 23) _ rfl [40] (Em.showT k) rfl rfl (by simp; omega) ?_; refine hK _ _ ?_; simp only [DoneG, fillG, List.set_cons_zero, List.set_cons_succ, relG, eqG, eqG1, eqG2, eqG3, gdG, gdG1, gnG, gnG1, List.getD_cons_zero, List.getD_cons_succ, List.getElem?_cons_succ, List.getElem?_cons_zero, Option.map_some, Option.getD_some, valsG, List.map_cons, List.map_nil, List.length_cons, List.length_nil]; exact ⟨_, rfl, (by first | with_reducible assumption | exact krg _ | exact Keep.al (krg _) _), fun _ _ => rfl⟩)
          · (intro us W h9 hW hE hd hs K hK; obtain ⟨u0, u1, u2, u3, u4, u5, u6, u7, u8, u9, u10, u11, u12, u13, u14, rfl⟩ := rog 15 h9 rfl; clear h9; simp only [DepG, AtG, and_true, relG, eqG, eqG1, eqG2, eqG3, gdG, gdG1, gnG, gnG1, List.getD_cons_zero, List.getD_cons_succ, List.getElem?_cons_succ, List.getElem?_cons_zero, Option.map_some, Option.getD_some, valsG, List.map_cons, List.map_nil, List.length_cons, List.length_nil] at hd; have d5 := hd; clear hd; subst d5; clear hs; simp only [fillG, List.set_cons_zero, List.set_cons_succ]; have hKW := Keep.tr (Keep.dr (Keep.rf _)) (hE rfl); have b2 := Keep.cell hKW b2; have c0 := Keep.cell hKW c0; have c1 := Keep.cell hKW c1; have c2 := Keep.cell hKW c2; have e0 := Keep.cell hKW e0; have e1 := Keep.cell hKW e1; have e2 := Keep.cell hKW e2; have m0 := Keep.cell hKW m0; have m1 := Keep.cell hKW m1; have m2 := Keep.cell hKW m2; have q1 := Keep.cell hKW q1; have q2 := Keep.cell hKW q2; refine want_n rfl ?_; refine wp_sadd (.tmp 24) (.const (.string ⟨#[32, 42, 32]⟩)) _ rfl ([40] ++ Em.showT k) [32, 42, 32] rfl rfl (by simp; omega) ?_; refine hK _ _ ?_; simp only [DoneG, fillG, List.set_cons_zero, List.set_cons_succ, relG, eqG, eqG1, eqG2, eqG3, gdG, gdG1, gnG, gnG1, List.getD_cons_zero, List.getD_cons_succ, List.getElem?_cons_succ, List.getElem?_cons_zero, Option.map_some, Option.getD_some, valsG, List.map_cons, List.map_nil, List.length_cons, List.length_nil]; exact ⟨_, rfl, (by first | with_reducible assumption | exact krg _ | exact Keep.al (krg _) _), fun _ _ => rfl⟩)
          · (intro us W h9 hW hE hd hs K hK; obtain ⟨u0, u1, u2, u3, u4, u5, u6, u7, u8, u9, u10, u11, u12, u13, u14, rfl⟩ := rog 15 h9 rfl; clear h9; clear hd; clear hs; simp only [fillG, List.set_cons_zero, List.set_cons_succ]; refine want_n rfl ?_; go_wp2_with (first | fail); simp only [DoneG, fillG, List.set_cons_zero, List.set_cons_succ, relG, eqG, eqG1, eqG2, eqG3, gdG, gdG1, gnG, gnG1, List.getD_cons_zero, List.getD_cons_succ, List.getElem?_cons_succ, List.getElem?_cons_zero, Option.map_some, Option.getD_some, valsG, List.map_cons, List.map_nil, List.length_cons, List.length_nil]; exact ⟨_, rfl, (by first | with_reducible assumption | exact krg _ | exact Keep.al (krg _) _), fun _ _ => rfl⟩)
          · (intro us W h9 hW hE hd hs K hK; obtain ⟨u0, u1, u2, u3, u4, u5, u6, u7, u8, u9, u10, u11, u12, u13, u14, rfl⟩ := rog 15 h9 rfl; clear h9; simp only [DepG, AtG, and_true, relG, eqG, eqG1, eqG2, eqG3, gdG, gdG1, gnG, gnG1, List.getD_cons_zero, List.getD_cons_succ, List.getElem?_cons_succ, List.getElem?_cons_zero, Option.map_some, Option.getD_some, valsG, List.map_cons, List.map_nil, List.length_cons, List.length_nil] at hd; have d7 := hd; clear hd; subst d7; clear hs; simp only [fillG, List.set_cons_zero, List.set_cons_succ]; have hKW := Keep.tr (Keep.dr (Keep.rf _)) (hE rfl); have b2 := Keep.cell hKW b2; have c0 := Keep.cell hKW c0; have c1 := Keep.cell hKW c1; have c2 := Keep.cell hKW c2; have e0 := Keep.cell hKW e0; have e1 := Keep.cell hKW e1; have e2 := Keep.cell hKW e2; have m0 := Keep.cell hKW m0; have m1 := Keep.cell hKW m1; have m2 := Keep.cell hKW m2; have q1 := Keep.cell hKW q1; have q2 := Keep.cell hKW q2; refine want_n rfl ?_; go_wp2_with (first | fail); simp only [DoneG, fillG, List.set_cons_zero, List.set_cons_succ, relG, eqG, eqG1, eqG2, eqG3, gdG, gdG1, gnG, gnG1, List.getD_cons_zero, List.getD_cons_succ, List.getElem?_cons_succ, List.getElem?_cons_zero, Option.map_some, Option.getD_some, valsG, List.map_cons, List.map_nil, List.length_cons, List.length_nil]; exact ⟨_, rfl, (by first | with_reducible assumption | exact krg _ | exact Keep.al (krg _) _), fun _ _ => rfl⟩)
          · (intro us W h9 hW hE hd hs K hK; obtain ⟨u0, u1, u2, u3, u4, u5, u6, u7, u8, u9, u10, u11, u12, u13, u14, rfl⟩ := rog 15 h9 rfl; clear h9; simp only [DepG, AtG, and_true, relG, eqG, eqG1, eqG2, eqG3, gdG, gdG1, gnG, gnG1, List.getD_cons_zero, List.getD_cons_succ, List.getElem?_cons_succ, List.getElem?_cons_zero, Option.map_some, Option.getD_some, valsG, List.map_cons, List.map_nil, List.length_cons, List.length_nil] at hd; have d8 := hd; clear hd; subst d8; clear hs; simp only [fillG, List.set_cons_zero, List.set_cons_succ]; refine want_n rfl ?_; go_wp2_with (first | fail); simp only [DoneG, fillG, List.set_cons_zero, List.set_cons_succ, relG, eqG, eqG1, eqG2, eqG3, gdG, gdG1, gnG, gnG1, List.getD_cons_zero, List.getD_cons_succ, List.getElem?_cons_succ, List.getElem?_cons_zero, Option.map_some, Option.getD_some, valsG, List.map_cons, List.map_nil, List.length_cons, List.length_nil]; exact ⟨_, rfl, (by first | with_reducible assumption | exact krg _ | exact Keep.al (krg _) _), fun _ _ => rfl⟩)
          · (intro us W h9 hW hE hd hs K hK; obtain ⟨u0, u1, u2, u3, u4, u5, u6, u7, u8, u9, u10, u11, u12, u13, u14, rfl⟩ := rog 15 h9 rfl; clear h9; simp only [DepG, AtG, and_true, relG, eqG, eqG1, eqG2, eqG3, gdG, gdG1, gnG, gnG1, List.getD_cons_zero, List.getD_cons_succ, List.getElem?_cons_succ, List.getElem?_cons_zero, Option.map_some, Option.getD_some, valsG, List.map_cons, List.map_nil, List.length_cons, List.length_nil] at hd; have d9 := hd; clear hd; subst d9; clear hs; simp only [fillG, List.set_cons_zero, List.set_cons_succ]; have hKW := Keep.tr (Keep.dr (Keep.rf _)) (hE rfl); have b2 := Keep.cell hKW b2; have c0 := Keep.cell hKW c0; have c1 := Keep.cell hKW c1; have c2 := Keep.cell hKW c2; have e0 := Keep.cell hKW e0; have e1 := Keep.cell hKW e1; have e2 := Keep.cell hKW e2; have m0 := Keep.cell hKW m0; have m1 := Keep.cell hKW m1; have m2 := Keep.cell hKW m2; have q1 := Keep.cell hKW q1; have q2 := Keep.cell hKW q2; refine want_n rfl ?_; go_wp2_with (first | fail); simp only [DoneG, fillG, List.set_cons_zero, List.set_cons_succ, relG, eqG, eqG1, eqG2, eqG3, gdG, gdG1, gnG, gnG1, List.getD_cons_zero, List.getD_cons_succ, List.getElem?_cons_succ, List.getElem?_cons_zero, Option.map_some, Option.getD_some, valsG, List.map_cons, List.map_nil, List.length_cons, List.length_nil]; exact ⟨_, rfl, (by first | with_reducible assumption | exact krg _ | exact Keep.al (krg _) _), fun _ _ => rfl⟩)
          · (intro us W h9 hW hE hd hs K hK; obtain ⟨u0, u1, u2, u3, u4, u5, u6, u7, u8, u9, u10, u11, u12, u13, u14, rfl⟩ := rog 15 h9 rfl; clear h9; simp only [DepG, AtG, and_true, relG, eqG, eqG1, eqG2, eqG3, gdG, gdG1, gnG, gnG1, List.getD_cons_zero, List.getD_cons_succ, List.getElem?_cons_succ, List.getElem?_cons_zero, Option.map_some, Option.getD_some, valsG, List.map_cons, List.map_nil, List.length_cons, List.length_nil] at hd; have d10 := hd; clear hd; subst d10; clear hs; simp only [fillG, List.set_cons_zero, List.set_cons_succ]; have hKW := Keep.tr (Keep.dr (Keep.rf _)) (hE rfl); have b2 := Keep.cell hKW b2; have c0 := Keep.cell hKW c0; have c1 := Keep.cell hKW c1; have c2 := Keep.cell hKW c2; have e0 := Keep.cell hKW e0; have e1 := Keep.cell hKW e1; have e2 := Keep.cell hKW e2; have m0 := Keep.cell hKW m0; have m1 := Keep.cell hKW m1; have m2 := Keep.cell hKW m2; have q1 := Keep.cell hKW q1; have q2 := Keep.cell hKW q2; refine want_n rfl ?_; go_wp2_with (first | (go_at_call 23; refine (IH.out l _ _ (hkt1.out.keep (Keep.tr k0 hKW)) hlo (by omega)).mono ?_; rintro e w9 ⟨rfl, hk9⟩) | fail); simp only [DoneG, fillG, List.set_cons_zero, List.set_cons_succ, relG, eqG, eqG1, eqG2, eqG3, gdG, gdG1, gnG, gnG1, List.getD_cons_zero, List.getD_cons_succ, List.getElem?_cons_succ, List.getElem?_cons_zero, Option.map_some, Option.getD_some, valsG, List.map_cons, List.map_nil, List.length_cons, List.length_nil]; exact ⟨_, rfl, (by first | with_reducible assumption | exact krg _ | exact Keep.al (krg _) _), fun _ _ => rfl⟩)
          · (intro us W h9 hW hE hd hs K hK; obtain ⟨u0, u1, u2, u3, u4, u5, u6, u7, u8, u9, u10, u11, u12, u13, u14, rfl⟩ := rog 15 h9 rfl; clear h9; simp only [DepG, AtG, and_true, relG, eqG, eqG1, eqG2, eqG3, gdG, gdG1, gnG, gnG1, List.getD_cons_zero, List.getD_cons_succ, List.getElem?_cons_succ, List.getElem?_cons_zero, Option.map_some, Option.getD_some, valsG, List.map_cons, List.map_nil, List.length_cons, List.length_nil] at hd; obtain ⟨d6, d11⟩ := hd; subst d6; subst d11; clear hs; simp only [fillG, List.set_cons_zero, List.set_cons_succ]; have hKW := Keep.tr (Keep.dr (Keep.rf _)) (hE rfl); have b2 := Keep.cell hKW b2; have c0 := Keep.cell hKW c0; have c1 := Keep.cell hKW c1; have c2 := Keep.cell hKW c2; have e0 := Keep.cell hKW e0; have e1 := Keep.cell hKW e1; have e2 := Keep.cell hKW e2; have m0 := Keep.cell hKW m0; have m1 := Keep.cell hKW m1; have m2 := Keep.cell hKW m2; have q1 := Keep.cell hKW q1; have q2 := Keep.cell hKW q2; refine want_n rfl ?_; refine wp_sadd (.tmp 25) (.tmp 30) _ rfl ([40] ++ Em.showT k ++ [32, 42, 32]) (Em.showT l) rfl rfl (by simp; omega) ?_; refine hK _ _ ?_; simp only [DoneG, fillG, List.set_cons_zero, List.set_cons_succ, relG, eqG, eqG1, eqG2, eqG3, gdG, gdG1, gnG, gnG1, List.getD_cons_zero, List.getD_cons_succ, List.getElem?_cons_succ, List.getElem?_cons_zero, Option.map_some, Option.getD_some, valsG, List.map_cons, List.map_nil, List.length_cons, List.length_nil]; exact ⟨_, rfl, (by first | with_reducible assumption | exact krg _ | exact Keep.al (krg _) _), fun _ _ => rfl⟩)
          · (intro us W h9 hW hE hd hs K hK; obtain ⟨u0, u1, u2, u3, u4, u5, u6, u7, u8, u9, u10, u11, u12, u13, u14, rfl⟩ := rog 15 h9 rfl; clear h9; simp only [DepG, AtG, and_true, relG, eqG, eqG1, eqG2, eqG3, gdG, gdG1, gnG, gnG1, List.getD_cons_zero, List.getD_cons_succ, List.getElem?_cons_succ, List.getElem?_cons_zero, Option.map_some, Option.getD_some, valsG, List.map_cons, List.map_nil, List.length_cons, List.length_nil] at hd; have d12 := hd; clear hd; subst d12; clear hs; simp only [fillG, List.set_cons_zero, List.set_cons_succ]; have hKW := Keep.tr (Keep.dr (Keep.rf _)) (hE rfl); have b2 := Keep.cell hKW b2; have c0 := Keep.cell hKW c0; have c1 := Keep.cell hKW c1; have c2 := Keep.cell hKW c2; have e0 := Keep.cell hKW e0; have e1 := Keep.cell hKW e1; have e2 := Keep.cell hKW e2; have m0 := Keep.cell hKW m0; have m1 := Keep.cell hKW m1; have m2 := Keep.cell hKW m2; have q1 := Keep.cell hKW q1; have q2 := Keep.cell hKW q2; refine want_n rfl ?_; refine wp_sadd (.tmp 31) (.const (.string ⟨#[41]⟩)) _ rfl ([40] ++ Em.showT k ++ [32, 42, 32] ++ Em.showT l) [41] rfl rfl (by simp; omega) ?_; refine hK _ _ ?_; simp only [DoneG, fillG, List.set_cons_zero, List.set_cons_succ, relG, eqG, eqG1, eqG2, eqG3, gdG, gdG1, gnG, gnG1, List.getD_cons_zero, List.getD_cons_succ, List.getElem?_cons_succ, List.getElem?_cons_zero, Option.map_some, Option.getD_some, valsG, List.map_cons, List.map_nil, List.length_cons, List.length_nil]; exact ⟨_, rfl, (by first | with_reducible assumption | exact krg _ | exact Keep.al (krg _) _), fun _ _ => rfl⟩)
          · (intro us W h9 hW hE hd hs K hK; obtain ⟨u0, u1, u2, u3, u4, u5, u6, u7, u8, u9, u10, u11, u12, u13, u14, rfl⟩ := rog 15 h9 rfl; clear h9; simp only [DepG, AtG, and_true, relG, eqG, eqG1, eqG2, eqG3, gdG, gdG1, gnG, gnG1, List.getD_cons_zero, List.getD_cons_succ, List.getElem?_cons_succ, List.getElem?_cons_zero, Option.map_some, Option.getD_some, valsG, List.map_cons, List.map_nil, List.length_cons, List.length_nil] at hd; have d13 := hd; clear hd; subst d13; clear hs; simp only [fillG, List.set_cons_zero, List.set_cons_succ]; refine want_n rfl ?_; go_wp2_with (first | fail); simp only [DoneG, fillG, List.set_cons_zero, List.set_cons_succ, relG, eqG, eqG1, eqG2, eqG3, gdG, gdG1, gnG, gnG1, List.getD_cons_zero, List.getD_cons_succ, List.getElem?_cons_succ, List.getElem?_cons_zero, Option.map_some, Option.getD_some, valsG, List.map_cons, List.map_nil, List.length_cons, List.length_nil]; exact ⟨_, rfl, (by first | with_reducible assumption | exact krg _ | exact Keep.al (krg _) _), fun _ _ => rfl⟩)
        (intro us W4 h9 hW hE hA; obtain ⟨u0, u1, u2, u3, u4, u5, u6, u7, u8, u9, u10, u11, u12, u13, u14, rfl⟩ := rog 15 h9 rfl; clear h9; simp only [AllG, AtG, and_true, relG, eqG, eqG1, eqG2, eqG3, gdG, gdG1, gnG, gnG1, List.getD_cons_zero, List.getD_cons_succ, List.getElem?_cons_succ, List.getElem?_cons_zero, Option.map_some, Option.getD_some, valsG, List.map_cons, List.map_nil, List.length_cons, List.length_nil] at hA; have d14 := hA; clear hA; subst d14; simp only [fillG, List.set_cons_zero, List.set_cons_succ]; have k4 := Keep.tr (Keep.dr (Keep.rf _)) hW; clear hW hE)
        go_wp2_with fail
        go_ret
        rw [HT.out]
        exact ⟨by simp, Keep.tr k0 k4⟩
    · -- fun
      obtain ⟨k, l, rfl⟩ : ∃ k l, ks = [k, l] := by
        rcases ks with _ | ⟨k, _ | ⟨l, _ | ⟨m, ks⟩⟩⟩
        · simp [Em.kidsOf, Em.wInt, Em.wBool, Em.wUnit, Em.wString, Em.wCell, Em.wVar, Em.wList, Em.wRef, Em.wPair, Em.wFun] at h1
        · simp [Em.kidsOf, Em.wInt, Em.wBool, Em.wUnit, Em.wString, Em.wCell, Em.wVar, Em.wList, Em.wRef, Em.wPair, Em.wFun] at h1
        · exact ⟨k, l, rfl⟩
        · simp [Em.kidsOf, Em.wInt, Em.wBool, Em.wUnit, Em.wString, Em.wCell, Em.wVar, Em.wList, Em.wRef, Em.wPair, Em.wFun] at h1
          omega
      have hT : Em.showT (.mk [102, 117, 110] n [k, l]) = [40] ++ Em.showT k ++ [32, 45, 62, 32] ++ Em.showT l ++ [41] := by rw [showT_2]; rfl
      have HT := hide hT
      simp only [Ty.kids, List.length_cons, List.length_nil, nodes, nodesL] at hlc hr hnd
      obtain ⟨ad, rfl, hcell⟩ := hr (by omega)
      obtain ⟨cs, hcs, hcl, hkt⟩ := hcell 0 (by simp)
      obtain ⟨cs', hcs', hcl', hkt'⟩ := hcell 1 (by simp)
      simp only [List.getElem_cons_zero, List.getElem_cons_succ] at hkt hkt'
      have hkt0 := hide hkt
      have hkt1 := hide hkt'
      have hko := h3 k (by simp)
      have hlo := h3 l (by simp)
      have hkl := showT_len d k w cs hkt hko
      have hll := showT_len d l w cs' hkt' hlo
      have hbd : 30 * nodes k ≤ 3000000 := by omega
      have hbl : 30 * nodes l ≤ 3000000 := by omega
      cases d with
      | zero => exact hkt.elim
      | succ d =>
        obtain ⟨kv, rfl, kn, kA, kc, rfl, _⟩ := hkt
        obtain ⟨lv, rfl, ln, lA, lc, rfl, _⟩ := hkt'
        have c0 : w.cell? (ad.add 0) = some (.string (str k.op)) := hcl 0 _ rfl
        have c1 := cell_off (k := 0) (i := 1) (hcl 1 _ rfl)
        have c2 := cell_off (k := 0) (i := 2) (hcl 2 _ rfl)
        rw [add_nil] at c0 c1 c2
        have e0 : w.cell? (ad.add 3) = some (.string (str l.op)) := hcl' 0 _ rfl
        have e1 := cell_off (k := 3) (i := 1) (hcl' 1 _ rfl)
        have e2 := cell_off (k := 3) (i := 2) (hcl' 2 _ rfl)
        have m0 : w.cell? ⟨ad.block, ad.off + 3, none⟩ = some (.string (str l.op)) := by rw [← add_three]; exact e0
        have m1 : w.cell? ⟨ad.block, ad.off + 3 + 1, none⟩ = some (.int .i64 l.n) := by rw [add_three] at e1; exact e1
        have m2 : w.cell? ⟨ad.block, ad.off + 3 + 2, none⟩ = some (.slice lA l.kids.length lc) := by rw [add_three] at e2; exact e2
        have q1 : w.cell? ⟨ad.block, ad.off + 4, none⟩ = some (.int .i64 l.n) := m1
        have q2 : w.cell? ⟨ad.block, ad.off + 5, none⟩ = some (.slice lA l.kids.length lc) := m2
        clear hcell hcl hr hcl' hT h1 h3
        go_enter Tryd.func23, Tryd.ntmps23
        go_wp2_with fail
        have k0 : Keep w (w.alloc (.cells #[.string (str [102, 117, 110]), .int .i64 n, .slice (some ad) 2 c] 24)) := (by repeat (first | exact Keep.rf _ | assumption | apply Keep.al | apply Keep.dr | apply Keep.dn))
        have hb := heap_alloc_new w (.cells #[.string (str [102, 117, 110]), .int .i64 n, .slice (some ad) 2 c] 24)
        have b2 := top_cells hb 2
        simp only [List.getElem?_toArray, List.getElem?_cons_succ, List.getElem?_cons_zero] at b2
        replace c0 := Keep.cell k0 c0
        replace c1 := Keep.cell k0 c1
        replace c2 := Keep.cell k0 c2
        replace e0 := Keep.cell k0 e0
        replace e1 := Keep.cell k0 e1
        replace e2 := Keep.cell k0 e2
        replace m0 := Keep.cell k0 m0
        replace m1 := Keep.cell k0 m1
        replace m2 := Keep.cell k0 m2
        replace q1 := Keep.cell k0 q1
        replace q2 := Keep.cell k0 q2
        clear hb
        apply region_all (by kernel_rfl) Keep Keep krg ktg krg ktg (fun _ _ h => h) [some 35, some 36, some 37, some 38, some 39, some 40, some 41, some 42, some 43, some 44, some 45, some 46, some 47, some 48, some 2] [eqG _ , eqG _ , eqG _ , eqG _ , fun us _ v => v = .string (str (Em.showT k)), fun us _ v => v = .string (str ([40] ++ Em.showT k)), fun us _ v => v = .string (str ([40] ++ Em.showT k ++ [32, 45, 62, 32])), eqG _ , eqG _ , eqG _ , eqG _ , fun us _ v => v = .string (str (Em.showT l)), fun us _ v => v = .string (str ([40] ++ Em.showT k ++ [32, 45, 62, 32] ++ Em.showT l)), fun us _ v => v = .string (str ([40] ++ Em.showT k ++ [32, 45, 62, 32] ++ Em.showT l ++ [41])), eqG _ ] [⟨[], [], true, false, false⟩, ⟨[0], [], true, false, false⟩, ⟨[1], [], true, false, false⟩, ⟨[2], [], true, false, false⟩, ⟨[3], [], true, false, false⟩, ⟨[4], [], true, false, false⟩, ⟨[5], [], true, false, false⟩, ⟨[], [], true, false, false⟩, ⟨[7], [], true, false, false⟩, ⟨[8], [], true, false, false⟩, ⟨[9], [], true, false, false⟩, ⟨[10], [], true, false, false⟩, ⟨[6, 11], [], true, false, false⟩, ⟨[12], [], true, false, false⟩, ⟨[13], [], true, false, false⟩] [14] (by kernel_rfl) (by kernel_rfl) 
        · refine ⟨?_, ?_, ?_, ?_, ?_, ?_, ?_, ?_, ?_, ?_, ?_, ?_, ?_, ?_, ?_, trivial⟩
          · (intro us W h9 hW hE hd hs K hK; obtain ⟨u0, u1, u2, u3, u4, u5, u6, u7, u8, u9, u10, u11, u12, u13, u14, rfl⟩ := rog 15 h9 rfl; clear h9; clear hd; clear hs; simp only [fillG, List.set_cons_zero, List.set_cons_succ]; refine want_n rfl ?_; go_wp2_with (first | fail); simp only [DoneG, fillG, List.set_cons_zero, List.set_cons_succ, relG, eqG, eqG1, eqG2, eqG3, gdG, gdG1, gnG, gnG1, List.getD_cons_zero, List.getD_cons_succ, List.getElem?_cons_succ, List.getElem?_cons_zero, Option.map_some, Option.getD_some, valsG, List.map_cons, List.map_nil, List.length_cons, List.length_nil]; exact ⟨_, rfl, (by first | with_reducible assumption | exact krg _ | exact Keep.al (krg _) _), fun _ _ => rfl⟩)
          · (intro us W h9 hW hE hd hs K hK; obtain ⟨u0, u1, u2, u3, u4, u5, u6, u7, u8, u9, u10, u11, u12, u13, u14, rfl⟩ := rog 15 h9 rfl; clear h9; simp only [DepG, AtG, and_true, relG, eqG, eqG1, eqG2, eqG3, gdG, gdG1, gnG, gnG1, List.getD_cons_zero, List.getD_cons_succ, List.getElem?_cons_succ, List.getElem?_cons_zero, Option.map_some, Option.getD_some, valsG, List.map_cons, List.map_nil, List.length_cons, List.length_nil] at hd; have d0 := hd; clear hd; subst d0; clear hs; simp only [fillG, List.set_cons_zero, List.set_cons_succ]; have hKW := Keep.tr (Keep.dr (Keep.rf _)) (hE rfl); have b2 := Keep.cell hKW b2; have c0 := Keep.cell hKW c0; have c1 := Keep.cell hKW c1; have c2 := Keep.cell hKW c2; have e0 := Keep.cell hKW e0; have e1 := Keep.cell hKW e1; have e2 := Keep.cell hKW e2; have m0 := Keep.cell hKW m0; have m1 := Keep.cell hKW m1; have m2 := Keep.cell hKW m2; have q1 := Keep.cell hKW q1; have q2 := Keep.cell hKW q2; refine want_n rfl ?_; go_wp2_with (first | fail); simp only [DoneG, fillG, List.set_cons_zero, List.set_cons_succ, relG, eqG, eqG1, eqG2, eqG3, gdG, gdG1, gnG, gnG1, List.getD_cons_zero, List.getD_cons_succ, List.getElem?_cons_succ, List.getElem?_cons_zero, Option.map_some, Option.getD_some, valsG, List.map_cons, List.map_nil, List.length_cons, List.length_nil]; exact ⟨_, rfl, (by first | with_reducible assumption | exact krg _ | exact Keep.al (krg _) _), fun _ _ => rfl⟩)
          · (intro us W h9 hW hE hd hs K hK; obtain ⟨u0, u1, u2, u3, u4, u5, u6, u7, u8, u9, u10, u11, u12, u13, u14, rfl⟩ := rog 15 h9 rfl; clear h9; simp only [DepG, AtG, and_true, relG, eqG, eqG1, eqG2, eqG3, gdG, gdG1, gnG, gnG1, List.getD_cons_zero, List.getD_cons_succ, List.getElem?_cons_succ, List.getElem?_cons_zero, Option.map_some, Option.getD_some, valsG, List.map_cons, List.map_nil, List.length_cons, List.length_nil] at hd; have d1 := hd; clear hd; subst d1; clear hs; simp only [fillG, List.set_cons_zero, List.set_cons_succ]; refine want_n rfl ?_; go_wp2_with (first | fail); simp only [DoneG, fillG, List.set_cons_zero, List.set_cons_succ, relG, eqG, eqG1, eqG2, eqG3, gdG, gdG1, gnG, gnG1, List.getD_cons_zero, List.getD_cons_succ, List.getElem?_cons_succ, List.getElem?_cons_zero, Option.map_some, Option.getD_some, valsG, List.map_cons, List.map_nil, List.length_cons, List.length_nil]; exact ⟨_, rfl, (by first | with_reducible assumption | exact krg _ | exact Keep.al (krg _) _), fun _ _ => rfl⟩)
          · (intro us W h9 hW hE hd hs K hK; obtain ⟨u0, u1, u2, u3, u4, u5, u6, u7, u8, u9, u10, u11, u12, u13, u14, rfl⟩ := rog 15 h9 rfl; clear h9; simp only [DepG, AtG, and_true, relG, eqG, eqG1, eqG2, eqG3, gdG, gdG1, gnG, gnG1, List.getD_cons_zero, List.getD_cons_succ, List.getElem?_cons_succ, List.getElem?_cons_zero, Option.map_some, Option.getD_some, valsG, List.map_cons, List.map_nil, List.length_cons, List.length_nil] at hd; have d2 := hd; clear hd; subst d2; clear hs; simp only [fillG, List.set_cons_zero, List.set_cons_succ]; have hKW := Keep.tr (Keep.dr (Keep.rf _)) (hE rfl); have b2 := Keep.cell hKW b2; have c0 := Keep.cell hKW c0; have c1 := Keep.cell hKW c1; have c2 := Keep.cell hKW c2; have e0 := Keep.cell hKW e0; have e1 := Keep.cell hKW e1; have e2 := Keep.cell hKW e2; have m0 := Keep.cell hKW m0; have m1 := Keep.cell hKW m1; have m2 := Keep.cell hKW m2; have q1 := Keep.cell hKW q1; have q2 := Keep.cell hKW q2; refine want_n rfl ?_; go_wp2_with (first | fail); simp only [DoneG, fillG, List.set_cons_zero, List.set_cons_succ, relG, eqG, eqG1, eqG2, eqG3, gdG, gdG1, gnG, gnG1, List.getD_cons_zero, List.getD_cons_succ, List.getElem?_cons_succ, List.getElem?_cons_zero, Option.map_some, Option.getD_some, valsG, List.map_cons, List.map_nil, List.length_cons, List.length_nil]; exact ⟨_, rfl, (by first | with_reducible assumption | exact krg _ | exact Keep.al (krg _) _), fun _ _ => rfl⟩)
          · (intro us W h9 hW hE hd hs K hK; obtain ⟨u0, u1, u2, u3, u4, u5, u6, u7, u8, u9, u10, u11, u12, u13, u14, rfl⟩ := rog 15 h9 rfl; clear h9; simp only [DepG, AtG, and_true, relG, eqG, eqG1, eqG2, eqG3, gdG, gdG1, gnG, gnG1, List.getD_cons_zero, List.getD_cons_succ, List.getElem?_cons_succ, List.getElem?_cons_zero, Option.map_some, Option.getD_some, valsG, List.map_cons, List.map_nil, List.length_cons, List.length_nil] at hd; have d3 := hd; clear hd; subst d3; clear hs; simp only [fillG, List.set_cons_zero, List.set_cons_succ]; have hKW := Keep.tr (Keep.dr (Keep.rf _)) (hE rfl); have b2 := Keep.cell hKW b2; have c0 := Keep.cell hKW c0; have c1 := Keep.cell hKW c1; have c2 := Keep.cell hKW c2; have e0 := Keep.cell hKW e0; have e1 := Keep.cell hKW e1; have e2 := Keep.cell hKW e2; have m0 := Keep.cell hKW m0; have m1 := Keep.cell hKW m1; have m2 := Keep.cell hKW m2; have q1 := Keep.cell hKW q1; have q2 := Keep.cell hKW q2; refine want_n rfl ?_; go_wp2_with (first | (go_at_call 23; refine (IH.out k _ _ (hkt0.out.keep (Keep.tr k0 hKW)) hko (by omega)).mono ?_; rintro e w9 ⟨rfl, hk9⟩) | fail); simp only [DoneG, fillG, List.set_cons_zero, List.set_cons_succ, relG, eqG, eqG1, eqG2, eqG3, gdG, gdG1, gnG, gnG1, List.getD_cons_zero, List.getD_cons_succ, List.getElem?_cons_succ, List.getElem?_cons_zero, Option.map_some, Option.getD_some, valsG, List.map_cons, List.map_nil, List.length_cons, List.length_nil]; exact ⟨_, rfl, (by first | with_reducible assumption | exact krg _ | exact Keep.al (krg _) _), fun _ _ => rfl⟩)
          · (intro us W h9 hW hE hd hs K hK; obtain ⟨u0, u1, u2, u3, u4, u5, u6, u7, u8, u9, u10, u11, u12, u13, u14, rfl⟩ := rog 15 h9 rfl; clear h9; simp only [DepG, AtG, and_true, relG, eqG, eqG1, eqG2, eqG3, gdG, gdG1, gnG, gnG1, List.getD_cons_zero, List.getD_cons_succ, List.getElem?_cons_succ, List.getElem?_cons_zero, Option.map_some, Option.getD_some, valsG, List.map_cons, List.map_nil, List.length_cons, List.length_nil] at hd; have d4 := hd; clear hd; subst d4; clear hs; simp only [fillG, List.set_cons_zero, List.set_cons_succ]; have hKW := Keep.tr (Keep.dr (Keep.rf _)) (hE rfl); have b2 := Keep.cell hKW b2; have c0 := Keep.cell hKW c0; have c1 := Keep.cell hKW c1; have c2 := Keep.cell hKW c2; have e0 := Keep.cell hKW e0; have e1 := Keep.cell hKW e1; have e2 := Keep.cell hKW e2; have m0 := Keep.cell hKW m0; have m1 := Keep.cell hKW m1; have m2 := Keep.cell hKW m2; have q1 := Keep.cell hKW q1; have q2 := Keep.cell hKW q2; refine want_n rfl ?_; refine wp_sadd (.const (.string ⟨#[40]⟩)) (.tmp 39) _ rfl [40] (Em.showT k) rfl rfl (by simp; omega) ?_; refine hK _ _ ?_; simp only [DoneG, fillG, List.set_cons_zero, List.set_cons_succ, relG, eqG, eqG1, eqG2, eqG3, gdG, gdG1, gnG, gnG1, List.getD_cons_zero, List.getD_cons_succ, List.getElem?_cons_succ, List.getElem?_cons_zero, Option.map_some, Option.getD_some, valsG, List.map_cons, List.map_nil, List.length_cons, List.length_nil]; exact ⟨_, rfl, (by first | with_reducible assumption | exact krg _ | exact Keep.al (krg _) _), fun _ _ => rfl⟩)
          · (intro us W h9 hW hE hd hs K hK; obtain ⟨u0, u1, u2, u3, u4, u5, u6, u7, u8, u9, u10, u11, u12, u13, u14, rfl⟩ := rog 15 h9 rfl; clear h9; simp only [DepG, AtG, and_true, relG, eqG, eqG1, eqG2, eqG3, gdG, gdG1, gnG, gnG1, List.getD_cons_zero, List.getD_cons_succ, List.getElem?_cons_succ, List.getElem?_cons_zero, Option.map_some, Option.getD_some, valsG, List.map_cons, List.map_nil, List.length_cons, List.length_nil] at hd; have d5 := hd; clear hd; subst d5; clear hs; simp only [fillG, List.set_cons_zero, List.set_cons_succ]; have hKW := Keep.tr (Keep.dr (Keep.rf _)) (hE rfl); have b2 := Keep.cell hKW b2; have c0 := Keep.cell hKW c0; have c1 := Keep.cell hKW c1; have c2 := Keep.cell hKW c2; have e0 := Keep.cell hKW e0; have e1 := Keep.cell hKW e1; have e2 := Keep.cell hKW e2; have m0 := Keep.cell hKW m0; have m1 := Keep.cell hKW m1; have m2 := Keep.cell hKW m2; have q1 := Keep.cell hKW q1; have q2 := Keep.cell hKW q2; refine want_n rfl ?_; refine wp_sadd (.tmp 40) (.const (.string ⟨#[32, 45, 62, 32]⟩)) _ rfl ([40] ++ Em.showT k) [32, 45, 62, 32] rfl rfl (by simp; omega) ?_; refine hK _ _ ?_; simp only [DoneG, fillG, List.set_cons_zero, List.set_cons_succ, relG, eqG, eqG1, eqG2, eqG3, gdG, gdG1, gnG, gnG1, List.getD_cons_zero, List.getD_cons_succ, List.getElem?_cons_succ, List.getElem?_cons_zero, Option.map_some, Option.getD_some, valsG, List.map_cons, List.map_nil, List.length_cons, List.length_nil]; exact ⟨_, rfl, (by first | with_reducible assumption | exact krg _ | exact Keep.al (krg _) _), fun _ _ => rfl⟩)
          · (intro us W h9 hW hE hd hs K hK; obtain ⟨u0, u1, u2, u3, u4, u5, u6, u7, u8, u9, u10, u11, u12, u13, u14, rfl⟩ := rog 15 h9 rfl; clear h9; clear hd; clear hs; simp only [fillG, List.set_cons_zero, List.set_cons_succ]; refine want_n rfl ?_; go_wp2_with (first | fail); simp only [DoneG, fillG, List.set_cons_zero, List.set_cons_succ, relG, eqG, eqG1, eqG2, eqG3, gdG, gdG1, gnG, gnG1, List.getD_cons_zero, List.getD_cons_succ, List.getElem?_cons_succ, List.getElem?_cons_zero, Option.map_some, Option.getD_some, valsG, List.map_cons, List.map_nil, List.length_cons, List.length_nil]; exact ⟨_, rfl, (by first | with_reducible assumption | exact krg _ | exact Keep.al (krg _) _), fun _ _ => rfl⟩)
          · (intro us W h9 hW hE hd hs K hK; obtain ⟨u0, u1, u2, u3, u4, u5, u6, u7, u8, u9, u10, u11, u12, u13, u14, rfl⟩ := rog 15 h9 rfl; clear h9; simp only [DepG, AtG, and_true, relG, eqG, eqG1, eqG2, eqG3, gdG, gdG1, gnG, gnG1, List.getD_cons_zero, List.getD_cons_succ, List.getElem?_cons_succ, List.getElem?_cons_zero, Option.map_some, Option.getD_some, valsG, List.map_cons, List.map_nil, List.length_cons, List.length_nil] at hd; have d7 := hd; clear hd; subst d7; clear hs; simp only [fillG, List.set_cons_zero, List.set_cons_succ]; have hKW := Keep.tr (Keep.dr (Keep.rf _)) (hE rfl); have b2 := Keep.cell hKW b2; have c0 := Keep.cell hKW c0; have c1 := Keep.cell hKW c1; have c2 := Keep.cell hKW c2; have e0 := Keep.cell hKW e0; have e1 := Keep.cell hKW e1; have e2 := Keep.cell hKW e2; have m0 := Keep.cell hKW m0; have m1 := Keep.cell hKW m1; have m2 := Keep.cell hKW m2; have q1 := Keep.cell hKW q1; have q2 := Keep.cell hKW q2; refine want_n rfl ?_; go_wp2_with (first | fail); simp only [DoneG, fillG, List.set_cons_zero, List.set_cons_succ, relG, eqG, eqG1, eqG2, eqG3, gdG, gdG1, gnG, gnG1, List.getD_cons_zero, List.getD_cons_succ, List.getElem?_cons_succ, List.getElem?_cons_zero, Option.map_some, Option.getD_some, valsG, List.map_cons, List.map_nil, List.length_cons, List.length_nil]; exact ⟨_, rfl, (by first | with_reducible assumption | exact krg _ | exact Keep.al (krg _) _), fun _ _ => rfl⟩)
          · (intro us W h9 hW hE hd hs K hK; obtain ⟨u0, u1, u2, u3, u4, u5, u6, u7, u8, u9, u10, u11, u12, u13, u14, rfl⟩ := rog 15 h9 rfl; clear h9; simp only [DepG, AtG, and_true, relG, eqG, eqG1, eqG2, eqG3, gdG, gdG1, gnG, gnG1, List.getD_cons_zero, List.getD_cons_succ, List.getElem?_cons_succ, List.getElem?_cons_zero, Option.map_some, Option.getD_some, valsG, List.map_cons, List.map_nil, List.length_cons, List.length_nil] at hd; have d8 := hd; clear hd; subst d8; clear hs; simp only [fillG, List.set_cons_zero, List.set_cons_succ]; refine want_n rfl ?_; go_wp2_with (first | fail); simp only [DoneG, fillG, List.set_cons_zero, List.set_cons_succ, relG, eqG, eqG1, eqG2, eqG3, gdG, gdG1, gnG, gnG1, List.getD_cons_zero, List.getD_cons_succ, List.getElem?_cons_succ, List.getElem?_cons_zero, Option.map_some, Option.getD_some, valsG, List.map_cons, List.map_nil, List.length_cons, List.length_nil]; exact ⟨_, rfl, (by first | with_reducible assumption | exact krg _ | exact Keep.al (krg _) _), fun _ _ => rfl⟩)
          · (intro us W h9 hW hE hd hs K hK; obtain ⟨u0, u1, u2, u3, u4, u5, u6, u7, u8, u9, u10, u11, u12, u13, u14, rfl⟩ := rog 15 h9 rfl; clear h9; simp only [DepG, AtG, and_true, relG, eqG, eqG1, eqG2, eqG3, gdG, gdG1, gnG, gnG1, List.getD_cons_zero, List.getD_cons_succ, List.getElem?_cons_succ, List.getElem?_cons_zero, Option.map_some, Option.getD_some, valsG, List.map_cons, List.map_nil, List.length_cons, List.length_nil] at hd; have d9 := hd; clear hd; subst d9; clear hs; simp only [fillG, List.set_cons_zero, List.set_cons_succ]; have hKW := Keep.tr (Keep.dr (Keep.rf _)) (hE rfl); have b2 := Keep.cell hKW b2; have c0 := Keep.cell hKW c0; have c1 := Keep.cell hKW c1; have c2 := Keep.cell hKW c2; have e0 := Keep.cell hKW e0; have e1 := Keep.cell hKW e1; have e2 := Keep.cell hKW e2; have m0 := Keep.cell hKW m0; have m1 := Keep.cell hKW m1; have m2 := Keep.cell hKW m2; have q1 := Keep.cell hKW q1; have q2 := Keep.cell hKW q2; refine want_n rfl ?_; go_wp2_with (first | fail); simp only [DoneG, fillG, List.set_cons_zero, List.set_cons_succ, relG, eqG, eqG1, eqG2, eqG3, gdG, gdG1, gnG, gnG1, List.getD_cons_zero, List.getD_cons_succ, List.getElem?_cons_succ, List.getElem?_cons_zero, Option.map_some, Option.getD_some, valsG, List.map_cons, List.map_nil, List.length_cons, List.length_nil]; exact ⟨_, rfl, (by first | with_reducible assumption | exact krg _ | exact Keep.al (krg _) _), fun _ _ => rfl⟩)
          · (intro us W h9 hW hE hd hs K hK; obtain ⟨u0, u1, u2, u3, u4, u5, u6, u7, u8, u9, u10, u11, u12, u13, u14, rfl⟩ := rog 15 h9 rfl; clear h9; simp only [DepG, AtG, and_true, relG, eqG, eqG1, eqG2, eqG3, gdG, gdG1, gnG, gnG1, List.getD_cons_zero, List.getD_cons_succ, List.getElem?_cons_succ, List.getElem?_cons_zero, Option.map_some, Option.getD_some, valsG, List.map_cons, List.map_nil, List.length_cons, List.length_nil] at hd; have d10 := hd; clear hd; subst d10; clear hs; simp only [fillG, List.set_cons_zero, List.set_cons_succ]; have hKW := Keep.tr (Keep.dr (Keep.rf _)) (hE rfl); have b2 := Keep.cell hKW b2; have c0 := Keep.cell hKW c0; have c1 := Keep.cell hKW c1; have c2 := Keep.cell hKW c2; have e0 := Keep.cell hKW e0; have e1 := Keep.cell hKW e1; have e2 := Keep.cell hKW e2; have m0 := Keep.cell hKW m0; have m1 := Keep.cell hKW m1; have m2 := Keep.cell hKW m2; have q1 := Keep.cell hKW q1; have q2 := Keep.cell hKW q2; refine want_n rfl ?_; go_wp2_with (first | (go_at_call 23; refine (IH.out l _ _ (hkt1.out.keep (Keep.tr k0 hKW)) hlo (by omega)).mono ?_; rintro e w9 ⟨rfl, hk9⟩) | fail); simp only [DoneG, fillG, List.set_cons_zero, List.set_cons_succ, relG, eqG, eqG1, eqG2, eqG3, gdG, gdG1, gnG, gnG1, List.getD_cons_zero, List.getD_cons_succ, List.getElem?_cons_succ, List.getElem?_cons_zero, Option.map_some, Option.getD_some, valsG, List.map_cons, List.map_nil, List.length_cons, List.length_nil]; exact ⟨_, rfl, (by first | with_reducible assumption | exact krg _ | exact Keep.al (krg _) _), fun _ _ => rfl⟩)
          · (intro us W h9 hW hE hd hs K hK; obtain ⟨u0, u1, u2, u3, u4, u5, u6, u7, u8, u9, u10, u11, u12, u13, u14, rfl⟩ := rog 15 h9 rfl; clear h9; simp only [DepG, AtG, and_true, relG, eqG, eqG1, eqG2, eqG3, gdG, gdG1, gnG, gnG1, List.getD_cons_zero, List.getD_cons_succ, List.getElem?_cons_succ, List.getElem?_cons_zero, Option.map_some, Option.getD_some, valsG, List.map_cons, List.map_nil, List.length_cons, List.length_nil] at hd; obtain ⟨d6, d11⟩ := hd; subst d6; subst d11; clear hs; simp only [fillG, List.set_cons_zero, List.set_cons_succ]; have hKW := Keep.tr (Keep.dr (Keep.rf _)) (hE rfl); have b2 := Keep.cell hKW b2; have c0 := Keep.cell hKW c0; have c1 := Keep.cell hKW c1; have c2 := Keep.cell hKW c2; have e0 := Keep.cell hKW e0; have e1 := Keep.cell hKW e1; have e2 := Keep.cell hKW e2; have m0 := Keep.cell hKW m0; have m1 := Keep.cell hKW m1; have m2 := Keep.cell hKW m2; have q1 := Keep.cell hKW q1; have q2 := Keep.cell hKW q2; refine want_n rfl ?_; refine wp_sadd (.tmp 41) (.tmp 46) _ rfl ([40] ++ Em.showT k ++ [32, 45, 62, 32]) (Em.showT l) rfl rfl (by simp; omega) ?_; refine hK _ _ ?_; simp only [DoneG, fillG, List.set_cons_zero, List.set_cons_succ, relG, eqG, eqG1, eqG2, eqG3, gdG, gdG1, gnG, gnG1, List.getD_cons_zero, List.getD_cons_succ, List.getElem?_cons_succ, List.getElem?_cons_zero, Option.map_some, Option.getD_some, valsG, List.map_cons, List.map_nil, List.length_cons, List.length_nil]; exact ⟨_, rfl, (by first | with_reducible assumption | exact krg _ | exact Keep.al (krg _) _), fun _ _ => rfl⟩)
          · (intro us W h9 hW hE hd hs K hK; obtain ⟨u0, u1, u2, u3, u4, u5, u6, u7, u8, u9, u10, u11, u12, u13, u14, rfl⟩ := rog 15 h9 rfl; clear h9; simp only [DepG, AtG, and_true, relG, eqG, eqG1, eqG2, eqG3, gdG, gdG1, gnG, gnG1, List.getD_cons_zero, List.getD_cons_succ, List.getElem?_cons_succ, List.getElem?_cons_zero, Option.map_some, Option.getD_some, valsG, List.map_cons, List.map_nil, List.length_cons, List.length_nil] at hd; have d12 := hd; clear hd; subst d12; clear hs; simp only [fillG, List.set_cons_zero, List.set_cons_succ]; have hKW := Keep.tr (Keep.dr (Keep.rf _)) (hE rfl); have b2 := Keep.cell hKW b2; have c0 := Keep.cell hKW c0; have c1 := Keep.cell hKW c1; have c2 := Keep.cell hKW c2; have e0 := Keep.cell hKW e0; have e1 := Keep.cell hKW e1; have e2 := Keep.cell hKW e2; have m0 := Keep.cell hKW m0; have m1 := Keep.cell hKW m1; have m2 := Keep.cell hKW m2; have q1 := Keep.cell hKW q1; have q2 := Keep.cell hKW q2; refine want_n rfl ?_; refine wp_sadd (.tmp 47) (.const (.string ⟨#[41]⟩)) _ rfl ([40] ++ Em.showT k ++ [32, 45, 62, 32] ++ Em.showT l) [41] rfl rfl (by simp; omega) ?_; refine hK _ _ ?_; simp only [DoneG, fillG, List.set_cons_zero, List.set_cons_succ, relG, eqG, eqG1, eqG2, eqG3, gdG, gdG1, gnG, gnG1, List.getD_cons_zero, List.getD_cons_succ, List.getElem?_cons_succ, List.getElem?_cons_zero, Option.map_some, Option.getD_some, valsG, List.map_cons, List.map_nil, List.length_cons, List.length_nil]; exact ⟨_, rfl, (by first | with_reducible assumption | exact krg _ | exact Keep.al (krg _) _), fun _ _ => rfl⟩)
          · (intro us W h9 hW hE hd hs K hK; obtain ⟨u0, u1, u2, u3, u4, u5, u6, u7, u8, u9, u10, u11, u12, u13, u14, rfl⟩ := rog 15 h9 rfl; clear h9; simp only [DepG, AtG, and_true, relG, eqG, eqG1, eqG2, eqG3, gdG, gdG1, gnG, gnG1, List.getD_cons_zero, List.getD_cons_succ, List.getElem?_cons_succ, List.getElem?_cons_zero, Option.map_some, Option.getD_some, valsG, List.map_cons, List.map_nil, List.length_cons, List.length_nil] at hd; have d13 := hd; clear hd; subst d13; clear hs; simp only [fillG, List.set_cons_zero, List.set_cons_succ]; refine want_n rfl ?_; go_wp2_with (first | fail); simp only [DoneG, fillG, List.set_cons_zero, List.set_cons_succ, relG, eqG, eqG1, eqG2, eqG3, gdG, gdG1, gnG, gnG1, List.getD_cons_zero, List.getD_cons_succ, List.getElem?_cons_succ, List.getElem?_cons_zero, Option.map_some, Option.getD_some, valsG, List.map_cons, List.map_nil, List.length_cons, List.length_nil]; exact ⟨_, rfl, (by first | with_reducible assumption | exact krg _ | exact Keep.al (krg _) _), fun _ _ => rfl⟩)
        (intro us W4 h9 hW hE hA; obtain ⟨u0, u1, u2, u3, u4, u5, u6, u7, u8, u9, u10, u11, u12, u13, u14, rfl⟩ := rog 15 h9 rfl; clear h9; simp only [AllG, AtG, and_true, relG, eqG, eqG1, eqG2, eqG3, gdG, gdG1, gnG, gnG1, List.getD_cons_zero, List.getD_cons_succ, List.getElem?_cons_succ, List.getElem?_cons_zero, Option.map_some, Option.getD_some, valsG, List.map_cons, List.map_nil, List.length_cons, List.length_nil] at hA; have d14 := hA; clear hA; subst d14; simp only [fillG, List.set_cons_zero, List.set_cons_succ]; have k4 := Keep.tr (Keep.dr (Keep.rf _)) hW; clear hW hE)
        go_wp2_with fail
        go_ret
        rw [HT.out]
        exact ⟨by simp, Keep.tr k0 k4⟩
    · exfalso
      unfold Em.kidsOf at h1
      simp only [Em.wInt, Em.wBool, Em.wUnit, Em.wString, Em.wCell, Em.wVar, Em.wList, Em.wRef, Em.wPair, Em.wFun, j0, j1, j2, j3, j4, j5, j6, j7, j8, j9, or_self, if_false] at h1
      omega
end Go.Proofs.YtoippbbodhchkaaDoor
