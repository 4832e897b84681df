/- The law UnpickInto: walk. -/
import Derived.Test.YtoehaijmkmdggaaGreatGRvG
import Derived.Test.YtoehaijmkmdggaaGreatGRdK
import Derived.Test.YtoehaijmkmdggaaGreatGBldR
import Derived.Test.YtoehaijmkmdggaaGreatGHeapB
import Derived.Test.YtoehaijmkmdggaaGreatGPkL
set_option linter.unusedSimpArgs false
set_option linter.unusedVariables false
namespace Go.Proofs.YtoehaijmkmdggaaGreat
open Go.RowKit
open Em (Ty)
set_option linter.unusedVariables false
set_option linter.unusedSimpArgs false
set_option maxRecDepth 100000
/-- What Into comes to. -/
def Em.intoP (b : List UInt8) (t : Ty) (sz : Nat) (H : Em.Hp) : Int × Int × Em.Hp := if (Em.graphP b t).2 = 0 then Em.buildG sz H (Em.graphP b t).1 else (0, (Em.graphP b t).2, H)
theorem HRep.off {w : World} {p sz : Nat} {S : List Nat} {H : Em.Hp} (h : HRep w p S sz H) : ∀ i ∈ S, OffG w i := by
  obtain ⟨mb, L, rfl, h⟩ := h
  intro i hi
  rcases List.mem_cons.1 hi with rfl | hi
  · exact OffG.of h.top (by decide) (by decide)
  rcases List.mem_cons.1 hi with rfl | hi
  · obtain ⟨es, clock, h1, _⟩ := h.map
    intro cs ty fr e
    rw [h1] at e
    cases e
  · obtain ⟨x, hx, hi⟩ := List.mem_flatMap.1 hi
    obtain ⟨j, hj, rfl⟩ := List.getElem_of_mem hx
    have hj2 : j < H.length := by rw [← h.len]; exact hj
    obtain ⟨h1, h2⟩ := h.part j _ _ (List.getElem?_eq_getElem hj) (List.getElem?_eq_getElem hj2)
    rcases List.mem_cons.1 hi with rfl | hi
    · exact OffG.of h1 (by decide) (by decide)
    · obtain ⟨_, ⟨e2, _⟩ | ⟨g, c2, cur, e2, hb, hg, _⟩⟩ := h2
      · rw [e2] at hi
        simp [Value.ownBlock] at hi
      · rw [e2] at hi
        have hi : i = g := by simpa [Value.ownBlock] using hi
        subst hi
        exact OffG.of hg (by decide) (by decide)
theorem own_off {w : World} {B e sz n : Nat} {v : Value} {xs : List Value} (h : w.ownsRow B e sz v n xs) (h1 : ¬ 72 = e) (h2 : ¬ 59 = e) {i : Nat} (hi : v.ownBlock = some i) : OffG w i := by
  obtain ⟨_, ⟨e2, _⟩ | ⟨g, c2, cur, e2, hb, hg, _⟩⟩ := h
  · rw [e2] at hi
    simp [Value.ownBlock] at hi
  · rw [e2] at hi
    have hi : g = i := by simpa [Value.ownBlock] using hi
    subst hi
    exact OffG.of hg h1 h2
theorem RRep.off {w : World} {p sz : Nat} {S : List Nat} {H : Em.Hp} (h : RRep w p S sz H) : ∀ i ∈ S, OffG w i := by
  obtain ⟨a, t, f, fv, rfl, h, _⟩ := h
  intro i hi
  rcases mem_footV.1 hi with rfl | ⟨v, hv, ho⟩
  · exact OffG.of h.top (by decide) (by decide)
  rcases List.mem_cons.1 hv with rfl | hv
  · exact own_off h.ra (by decide) (by decide) ho
  rcases List.mem_cons.1 hv with rfl | hv
  · exact own_off h.rt (by decide) (by decide) ho
  rcases List.mem_cons.1 hv with rfl | hv
  · exact own_off h.rf (by decide) (by decide) ho
  · obtain ⟨j, hj, rfl⟩ := List.getElem_of_mem hv
    have hj2 : j < (H.map (·.2)).length := by rw [← h.len]; exact hj
    exact own_off (h.part j _ _ (List.getElem?_eq_getElem hj) (List.getElem?_eq_getElem hj2)) (by decide) (by decide) ho
theorem GrR.outX {w w' : World} {o : Em.Gr × Int} {e : Ending} (h : GrR w o e w') : ∃ A c, e = .returned (.tuple #[.agg #[.bool o.1.root.1, .int .i64 o.1.root.2, .slice A o.1.blocks.length c], .int .i64 o.2]) ∧ GrT w' (.agg #[.bool o.1.root.1, .int .i64 o.1.root.2, .slice A o.1.blocks.length c]) o.1 ∧ Keep w w' := by
  obtain ⟨v, rfl, hg, k⟩ := h
  have hg1 := hg.1
  obtain ⟨u, rfl, _, hsl⟩ := id hg1
  obtain ⟨A, c, rfl, _⟩ := id hsl
  exact ⟨A, c, rfl, hg, k⟩
theorem BldA.pre {w w1 w' : World} {p sz : Nat} {S : List Nat} {o : Int × Int × Em.Hp} {e : Ending} (k : Keep w w1) (h : BldA w1 p sz S o e w') : BldA w p sz S o e w' := by
  obtain ⟨h1, S', h2, h3⟩ := h
  exact ⟨h1, S', h2, Ext.of_keep k h3⟩
theorem BldB.pre {w w1 w' : World} {p sz : Nat} {S : List Nat} {o : Int × Int × Em.Hp} {e : Ending} (k : Keep w w1) (h : BldB w1 p sz S o e w') : BldB w p sz S o e w' := by
  obtain ⟨h1, S', h2, h3⟩ := h
  exact ⟨h1, S', h2, Ext.of_keep k h3⟩
--INTO0
set_option maxHeartbeats 8000000 in
theorem unpickInto {p sz : Nat} {S : List Nat} {H : Em.Hp} (w : World) (h : HRep w p S sz H) (b : List UInt8) (t : Ty) (d : Nat) (cs : List Value) (v : Value) (hb : Bs w v b) (ht : TyK d w cs t) (hl : b.length ≤ 300) : Calls Tryz.prog 10 #[.pointer (some ⟨p, 0, none⟩), v, .agg cs.toArray] w (BldA w p sz S (Em.intoP b t sz H)) := by
  cases d with
  | zero => exact ht.elim
  | succ d =>
    have HT := hide ht
    obtain ⟨v9, rfl, hn, hs⟩ := ht
    obtain ⟨Ak, ck, rfl, _⟩ := id hs
    have HB := hide hb
    obtain ⟨A, c, rfl, hlc, hcm, _⟩ := hb
    have GV := hide fun W (k : Keep w W) => unpickGraph b t (d + 1) _ W _ (HB.out.keep k) (HT.out.keep k)
    have HNE := hide fun (g : Em.Gr) (h : Em.graphP b t = (g, 0)) => Em.graphP_need h
    have HX := hide (show Em.intoP b t sz H = if (Em.graphP b t).2 = 0 then Em.buildG sz H (Em.graphP b t).1 else (0, (Em.graphP b t).2, H) from rfl)
    generalize Em.intoP b t sz H = res at *
    generalize hgo : Em.graphP b t = go at *
    clear hgo hs hn
    have kB : Keep w (w.alloc (.cells #[.string (str t.op), .int .i64 t.n, .slice Ak t.kids.length ck] 25)) := (by repeat (first | exact Keep.rf _ | assumption | apply Keep.al | apply Keep.dr | apply Keep.dn))
    have HH := hide h
    have KB := hide kB
    clear kB h
    go_enter Tryz.func10, Tryz.ntmps10
    go_wp2_with fail
    generalize World.alloc w _ = wa at *
    refine (GV.out wa KB.out).mono ?_
    intro e w3 hG
    obtain ⟨A3, c3, rfl, hg3, k3⟩ := hG.outX
    clear hG
    obtain ⟨gg, cc⟩ := go
    simp only at hg3 HX ⊢
    have ka : Keep w3 (w3.alloc (.cells #[.bool gg.root.1, .int .i64 gg.root.2, .slice A3 gg.blocks.length c3] 62)) := (by repeat (first | exact Keep.rf _ | assumption | apply Keep.al | apply Keep.dr | apply Keep.dn))
    have ha := heap_alloc_new w3 (.cells #[.bool gg.root.1, .int .i64 gg.root.2, .slice A3 gg.blocks.length c3] 62)
    have q0 := top_cells ha 0
    have q1 := top_cells ha 1
    have q2 := top_cells ha 2
    simp only [List.getElem?_toArray, List.getElem?_cons_succ, List.getElem?_cons_zero] at q0 q1 q2
    have HG := hide (hg3.keep ka)
    have K4 := hide (Keep.tr KB.out (Keep.tr k3 ka))
    clear ka ha k3 hg3 GV
    by_cases hc : cc = 0
    · subst hc
      have hne : Em.needN gg.blocks ≤ 100000 := by have := HNE.out gg rfl; omega
      have H4 := hide (HH.out.keep K4.out)
      have HBL := hide (shapeBuild _ H4.out _ gg (HG.out.2 S H4.out.off) hne)
      have HX2 := hide (HX.out.trans (if_pos rfl))
      clear hne HNE HX
      go_wp2_with fail
      generalize World.alloc w3 _ = w4 at *
      refine HBL.out.mono ?_
      intro e w5 hA
      have HA := hide hA
      obtain ⟨rfl, _⟩ := hA
      clear HBL q0 q1 q2
      go_wp2_with fail
      go_ret2
      rw [HX2.out]
      exact BldA.pre K4.out HA.out
    · have hcb : (cc != 0) = true := by rw [bne_iff_ne]; exact hc
      have HX2 := hide (HX.out.trans (if_neg hc))
      clear HX HNE hc q0 q1 q2
      go_wp2_with fail
      go_ret2
      rw [HX2.out]
      exact ⟨rfl, S, HH.out.keep K4.out, (Ext.rf w S).keep K4.out⟩
set_option maxHeartbeats 8000000 in
theorem refInto23 {p sz : Nat} {S : List Nat} {H : Em.Hp} (w : World) (h : RRep w p S sz H) (b : List UInt8) (t : Ty) (d : Nat) (cs : List Value) (v : Value) (hb : Bs w v b) (ht : TyK d w cs t) (hl : b.length ≤ 300) : Calls Tryz.prog 11 #[.pointer (some ⟨p, 0, none⟩), v, .agg cs.toArray] w (BldB w p sz S (Em.intoP b t sz H)) := by
  cases d with
  | zero => exact ht.elim
  | succ d =>
    have HT := hide ht
    obtain ⟨v9, rfl, hn, hs⟩ := ht
    obtain ⟨Ak, ck, rfl, _⟩ := id hs
    have HB := hide hb
    obtain ⟨A, c, rfl, hlc, hcm, _⟩ := hb
    have GV := hide fun W (k : Keep w W) => refGraph23 b t (d + 1) _ W _ (HB.out.keep k) (HT.out.keep k)
    have HNE := hide fun (g : Em.Gr) (h : Em.graphP b t = (g, 0)) => Em.graphP_need h
    have HX := hide (show Em.intoP b t sz H = if (Em.graphP b t).2 = 0 then Em.buildG sz H (Em.graphP b t).1 else (0, (Em.graphP b t).2, H) from rfl)
    generalize Em.intoP b t sz H = res at *
    generalize hgo : Em.graphP b t = go at *
    clear hgo hs hn
    have kB : Keep w (w.alloc (.cells #[.string (str t.op), .int .i64 t.n, .slice Ak t.kids.length ck] 25)) := (by repeat (first | exact Keep.rf _ | assumption | apply Keep.al | apply Keep.dr | apply Keep.dn))
    have HH := hide h
    have KB := hide kB
    clear kB h
    go_enter Tryz.func11, Tryz.ntmps11
    go_wp2_with fail
    generalize World.alloc w _ = wa at *
    refine (GV.out wa KB.out).mono ?_
    intro e w3 hG
    obtain ⟨A3, c3, rfl, hg3, k3⟩ := hG.outX
    clear hG
    obtain ⟨gg, cc⟩ := go
    simp only at hg3 HX ⊢
    have ka : Keep w3 (w3.alloc (.cells #[.bool gg.root.1, .int .i64 gg.root.2, .slice A3 gg.blocks.length c3] 62)) := (by repeat (first | exact Keep.rf _ | assumption | apply Keep.al | apply Keep.dr | apply Keep.dn))
    have ha := heap_alloc_new w3 (.cells #[.bool gg.root.1, .int .i64 gg.root.2, .slice A3 gg.blocks.length c3] 62)
    have q0 := top_cells ha 0
    have q1 := top_cells ha 1
    have q2 := top_cells ha 2
    simp only [List.getElem?_toArray, List.getElem?_cons_succ, List.getElem?_cons_zero] at q0 q1 q2
    have HG := hide (hg3.keep ka)
    have K4 := hide (Keep.tr KB.out (Keep.tr k3 ka))
    clear ka ha k3 hg3 GV
    by_cases hc : cc = 0
    · subst hc
      have hne : Em.needN gg.blocks ≤ 100000 := by have := HNE.out gg rfl; omega
      have H4 := hide (HH.out.keep K4.out)
      have HBL := hide (refBuild _ H4.out _ gg (HG.out.2 S H4.out.off) hne)
      have HX2 := hide (HX.out.trans (if_pos rfl))
      clear hne HNE HX
      go_wp2_with fail
      generalize World.alloc w3 _ = w4 at *
      refine HBL.out.mono ?_
      intro e w5 hA
      have HA := hide hA
      obtain ⟨rfl, _⟩ := hA
      clear HBL q0 q1 q2
      go_wp2_with fail
      go_ret2
      rw [HX2.out]
      exact BldB.pre K4.out HA.out
    · have hcb : (cc != 0) = true := by rw [bne_iff_ne]; exact hc
      have HX2 := hide (HX.out.trans (if_neg hc))
      clear HX HNE hc q0 q1 q2
      go_wp2_with fail
      go_ret2
      rw [HX2.out]
      exact ⟨rfl, S, HH.out.keep K4.out, (Ext.rf w S).keep K4.out⟩
--INTO1
set_option maxHeartbeats 16000000 in
theorem UnpickInto_walk (w : World) (v : Value) (b : List UInt8) (hb : Bs w v b) (_hz : b.length ≤ 140737488351232) (tv : Value) (t : Ty) (ht0 : TyV w tv t) (_ht1 : True) (words : Int) (hwo : (Lit.int .i64 words).wf = true) (ahead : ByteArray) (_ha : ahead.size ≤ 140737488351232) : Calls Tryz.prog 3 #[v, tv, .int .i64 words, .string ahead] w fun e w' => e = .returned (.bool true) ∧ Keep w w' := by
  obtain ⟨l, rfl⟩ : ∃ l, ahead = str l := ⟨_, (str_of ahead).symm⟩
  have hls : (str l).size = l.length := str_size l
  obtain ⟨d, cs, rfl, ht⟩ := ht0
  cases d with
  | zero => exact ht.elim
  | succ d =>
    have HT := hide ht
    obtain ⟨v9, rfl, hn, hs⟩ := ht
    obtain ⟨Ak, ck, rfl, _⟩ := id hs
    have HB := hide hb
    obtain ⟨A, c, rfl, hlc, hcm, _⟩ := hb
    have SZ := hide fun W (k : Keep w W) => refSizeT (d + 1) t W _ 100 (HT.out.keep k) (by omega) (by omega)
    clear hs hn
    by_cases g1 : 300 < b.length
    · go_enter Tryz.func3, Tryz.ntmps3
      go_wp2_with fail
      go_ret
      exact ⟨rfl, (by repeat (first | exact Keep.rf _ | assumption | apply Keep.al | apply Keep.dr | apply Keep.dn))⟩
    have hl3 : b.length ≤ 300 := by omega
    have hB := heap_alloc_new w (.cells #[.string (str t.op), .int .i64 t.n, .slice Ak t.kids.length ck] 25)
    have kB : Keep w (w.alloc (.cells #[.string (str t.op), .int .i64 t.n, .slice Ak t.kids.length ck] 25)) := (by repeat (first | exact Keep.rf _ | assumption | apply Keep.al | apply Keep.dr | apply Keep.dn))
    have hlt := (Array.getElem?_eq_some_iff.1 hB).1
    have HBX := hide hB
    have KB := hide kB
    clear hB kB
    go_enter Tryz.func3, Tryz.ntmps3
    go_wp2_with fail
    generalize World.alloc w _ = wa at *
    refine (SZ.out _ KB.out).mono ?_
    rintro e w1 ⟨rfl, k1⟩
    generalize hsz : Em.sz 100 t = sz
    have K1 := hide (Keep.tr KB.out k1)
    have hB1 := (k1.frm fun _ => False).heap (fun h => h) HBX.out
    have HB1 := hide hB1
    have hlt1 := (Array.getElem?_eq_some_iff.1 hB1).1
    have HLT1 := hide hlt1
    clear k1 hB1 hsz hlt HBX hlt1
    by_cases g2 : 50 < sz
    · go_wp2_with fail
      go_ret
      exact ⟨rfl, K1.out⟩
    by_cases g3 : words < 0
    · go_wp2_with fail
      go_ret
      exact ⟨rfl, K1.out⟩
    by_cases g4 : words > 1000
    · go_wp2_with fail
      go_ret
      exact ⟨rfl, K1.out⟩
    by_cases g5 : 50 < l.length
    · have g5' : ((str l).size : Int) > 50 := by omega
      clear g5 hls
      go_wp2_with fail
      go_ret
      exact ⟨rfl, K1.out⟩
    have g5' : ¬ ((str l).size : Int) > 50 := by omega
    obtain ⟨m, rfl⟩ := Int.eq_ofNat_of_zero_le (show 0 ≤ words by omega)
    have hm : m ≤ 1000 := by omega
    go_wp2_with fail
    refine (heapNew m _ (by omega)).mono ?_
    rintro e w2 ⟨p, S, rfl, hR, hS, hk⟩
    go_wp2_with fail
    refine (refNew m _ (by omega)).mono ?_
    rintro e w3 ⟨q, T, rfl, hR2, hT, hk2⟩
    have hB : Both w1 w3 p q m S T [] := ⟨hR.keep hk2, hR2, hS, fun k hk' => Nat.le_trans hk.size (hT k hk'), fun k hk' hm => by have := hR.lt k hk'; have := hT k hm; omega, Keep.tr hk hk2⟩
    have hSl : ∀ k ∈ S, k < w3.heap.size := fun k hk' => Nat.lt_of_lt_of_le (hR.lt k hk') hk2.size
    have hTl := hR2.lt
    have HSL := hide hSl
    have HTL := hide hTl
    have HBO := hide hB
    have hll : l.length ≤ 50 := by omega
    have HLS := hide hls
    clear hR hS hk hR2 hT hk2 hB g1 g2 g3 g4 g5 g5' hSl hTl
    go_wp2_with fail
    go_loopw [11, 12] (fun lv i W => ∃ k : Nat, k ≤ l.length ∧ i = .int .i64 (k : Int) ∧ W.ownsRow w3.heap.size 32 1 lv (wordsOf (l.take k)).length ((wordsOf (l.take k)).map (Value.int .i64)) ∧ Keep w3 W) (fun _ i _ => l.length - (intOf i).toNat)
    case atStart => exact ⟨0, Nat.zero_le _, rfl, ⟨by simp, .inl ⟨rfl, rfl⟩⟩, Keep.rf _⟩
    case round =>
      obtain ⟨k, hk, rfl, ho, kw⟩ := hrel
      obtain ⟨lA, lc, rfl⟩ := own_slice ho
      have HO := hide ho
      have HK3 := hide kw
      clear ho
      have hsz := HLS.out
      by_cases hlt2 : k < l.length
      · have hlti : (k : Int) < (l.length : Int) := by omega
        have hlk : (wordsOf (l.take k)).length = k := by rw [Em.wordsOf_len, List.length_take, Nat.min_eq_left hk]
        have hnx : wordsOf (l.take (k + 1)) = wordsOf (l.take k) ++ [intW (l[k].toNat : Int)] := by
          unfold wordsOf
          rw [List.take_succ_eq_append_getElem hlt2, List.map_append]
          rfl
        have HNX := hide hnx
        clear hnx
        have hw : wrap64 (((str l)[k]'(by rw [str_size]; exact hlt2)).toNat : Int) = (l[k].toNat : Int) := by
          have hb : (str l)[k]'(by rw [str_size]; exact hlt2) = l[k] := by simp [str]; rfl
          rw [hb]
          have := l[k].toNat_lt
          simp only [wrap64]
          omega
        have HW := hide hw
        clear hw
        have HLK := hide hlk
        clear hlk
        generalize wordsOf (l.take k) = ll at *
        go_wp2_with fail
        rw [HW.out]
        refine (refInt _ _).mono ?_
        rintro e w4 ⟨rfl, rfl⟩
        generalize intW (l[k].toNat : Int) = y at *
        go_wp2_with (first
          | (at_builtin; go_loud (refine appI ll [y] rfl (.tmp 50) (.tmp 56) _ _ _ _ Tryz.underlying31 infoW rfl (by omega) rfl w3.heap.size _ rfl (own_keep HO.out (by repeat (first | exact Keep.rf _ | assumption | apply Keep.al | apply Keep.dr | apply Keep.dn))) _ rfl (Cs.lit _ rfl rfl rfl (by simp) (by simp)) (by rw [size_alloc]; exact Nat.le_trans kw.size (Nat.le_succ _)) (by simp; have := HLK.out; omega) ?_); intro v3 w5 ho3 hg3 hat3; have HO3 := hide ho3; have HG3 := hide hg3; obtain ⟨A3, c3, e3⟩ := own_slice ho3; subst e3; clear ho3 hg3 hat3)
          | fail)
        have HK5 := hide (Frm.keep (Keep.al kw (.cells #[.int .i64 y] 32)) (Frm.of_grown (S := fun k => w3.heap.size ≤ k) HG3.out fun k e => (World.ownsRow.lt HO.out k e).1) fun _ h => h)
        go_roundw
        case rel => exact ⟨k + 1, by omega, by go_num, by rw [HNX.out]; simpa using HO3.out, HK5.out⟩
        case measure => simp [intOf]; omega
      · have hlti : ¬ (k : Int) < (l.length : Int) := by omega
        have hkn : k = l.length := by omega
        have hO : wr.ownsRow w3.heap.size 32 1 (.slice lA (wordsOf (l.take k)).length lc) (wordsOf l).length ((wordsOf l).map (Value.int .i64)) := by
          have := HO.out
          rw [hkn, List.take_length] at this
          rw [hkn, List.take_length]
          exact this
        have HIS := hide (own_is hO)
        have HOO := hide hO
        have hlk : (wordsOf (l.take k)).length = l.length := by rw [Em.wordsOf_len, List.length_take]; omega
        rw [hlk] at HOO HIS ⊢
        have HBW := hide (HBO.out.keep kw)
        have hwl : (wordsOf l).length ≤ 1000000 := by rw [Em.wordsOf_len]; omega
        have HWL := hide hwl
        have hlt9 := HLT1.out
        have HK13 := hide (HBO.out.2.2.2.2.2)
        have hBx := ((HBW.out.2.2.2.2.2).frm fun _ => False).heap (fun h => h) HB1.out
        have HBX := hide hBx
        have HNS := hide (fun h => Nat.lt_irrefl _ (Nat.lt_of_lt_of_le hlt9 (HBO.out.2.2.1 w.heap.size h)) : w.heap.size ∉ S)
        have HNT := hide (fun h => Nat.lt_irrefl _ (Nat.lt_of_lt_of_le hlt9 (HBO.out.2.2.2.1 w.heap.size h)) : w.heap.size ∉ T)
        clear hO hlk HO hwl hBx hlt9 hkn hk HB1 HBO
        have HWF := hide (wordsOf_wf l)
        generalize wordsOf l = ws at *
        clear hsz hlti
        have hlti : ¬ (l.length : Int) < (l.length : Int) := by omega
        go_wp2_with fail
        refine (heapAlloc wr HBW.out.1 1 (by decide) _ ws HIS.out HWF.out HWL.out).mono ?_
        intro e W1 R
        obtain ⟨rfl, S1, r1, x1⟩ := R.all HBW.out.1
        have HP1 := hide (HBW.out.parts x1)
        have HO1 := hide (x1.1.own HOO.out fun k e hm => by have := (World.ownsRow.lt HOO.out k e).1; have := HSL.out k hm; omega)
        have HR1 := hide r1
        have HX1 := hide x1
        clear R r1 x1
        go_wp2_with fail
        refine (refAlloc W1 HP1.out.1 1 (by decide) _ ws (own_is HO1.out) (fun W F => own_is (F.own HO1.out fun k e hm => by have := (World.ownsRow.lt HOO.out k e).1; have := HTL.out k hm; omega)) HWF.out HWL.out).mono ?_
        intro e W2 R
        obtain ⟨rfl, T2, r2, x2⟩ := R.all HP1.out.1
        have HB2 := hide (HBW.out.step HR1.out HX1.out r2 x2)
        have HBX2 := hide (x2.1.heap HNT.out (HX1.out.1.heap HNS.out HBX.out))
        have b0 := top_cells HBX2.out 0
        have b1 := top_cells HBX2.out 1
        have b2 := top_cells HBX2.out 2
        simp only [List.getElem?_toArray, List.getElem?_cons_succ, List.getElem?_cons_zero] at b0 b1 b2
        have HNS2 := hide (fun h => Nat.lt_irrefl _ (Nat.lt_of_lt_of_le HLT1.out (HB2.out.2.2.1 w.heap.size h)) : w.heap.size ∉ S1)
        clear R r2 x2 HR1 HX1 HP1 HO1 HOO HIS HBX HBW HNS HNT HSL HTL HWF HWL
        generalize allocE m [] 1 ws = r at *
        obtain ⟨an, aok, aH⟩ := r
        simp only at HB2 HBX2 HNS2 b0 b1 b2 ⊢
        have HU := hide (unpickInto W2 HB2.out.1 b t (d + 1) _ _ (HB.out.keep (Keep.tr K1.out HB2.out.2.2.2.2.2)) (HT.out.keep (Keep.tr K1.out HB2.out.2.2.2.2.2)) hl3)
        go_wp2_with fail
        refine HU.out.mono ?_
        rintro e W3 ⟨rfl, S3, r3, x3⟩
        have HP3 := hide (HB2.out.parts x3)
        have HBX3 := hide (x3.1.heap HNS2.out HBX2.out)
        have b0 := top_cells HBX3.out 0
        have b1 := top_cells HBX3.out 1
        have b2 := top_cells HBX3.out 2
        simp only [List.getElem?_toArray, List.getElem?_cons_succ, List.getElem?_cons_zero] at b0 b1 b2
        have HR3 := hide r3
        have HX3 := hide x3
        have HU2 := hide (refInto23 W3 HP3.out.1 b t (d + 1) _ _ (HB.out.keep (Keep.tr K1.out HP3.out.2)) (HT.out.keep (Keep.tr K1.out HP3.out.2)) hl3)
        clear r3 x3 HU
        go_wp2_with fail
        refine HU2.out.mono ?_
        rintro e W4 ⟨rfl, T4, r4, x4⟩
        have HB4 := hide (HB2.out.step HR3.out HX3.out r4 x4)
        clear r4 x4 HR3 HX3 HP3 HB2 HBX3 HBX2 b0 b1 b2 HU2
        generalize Em.intoP b t m aH = res at *
        obtain ⟨rv, re, rH⟩ := res
        simp only at HB4 ⊢
        go_wp2_with fail
        refine (heapUsed _ HB4.out.1).mono ?_
        rintro e w' ⟨rfl, rfl⟩
        go_wp2_with fail
        refine (refUsed _ HB4.out.2.1).mono ?_
        rintro e w' ⟨rfl, rfl⟩
        go_wp2_with fail
        refine (law23Known _).mono ?_
        rintro e w8 ⟨rfl, k8⟩
        go_wp2_with fail
        go_ret
        exact ⟨rfl, Keep.tr (Keep.tr K1.out HB4.out.2.2.2.2.2) k8⟩
end Go.Proofs.YtoehaijmkmdggaaGreat
