/- Walk: a graph is put into a heap (Build, package shape). Walk: a graph is put into a heap (Build, the reference of shape). -/
import Derived.Test.YtoehaijmkmdggaaGreatGBldG
set_option linter.unusedSimpArgs false
set_option linter.unusedVariables false
namespace Go.Proofs.YtoehaijmkmdggaaGreat
open Go.RowKit Go.Maps
set_option linter.unusedVariables false
set_option linter.unusedSimpArgs false
set_option maxRecDepth 100000
theorem intW_wf64 (n : Int) : (Lit.int .i64 (intW n)).wf = true := by
  unfold intW
  rw [IntKind.wrap_i64]
  simp [Lit.wf, IntKind.min, IntKind.max, IntKind.bits, IntKind.signed]
  omega
theorem wordG_wf {ws : List Int} (h : ∀ x ∈ ws, (Lit.int .i64 x).wf = true) (r : Bool × Int) : (Lit.int .i64 (Em.wordG ws r)).wf = true := by
  unfold Em.wordG
  split
  · exact intW_wf64 _
  · rw [List.getD_eq_getElem?_getD]
    cases hg : ws[r.2.toNat]? with
    | none => decide
    | some x => exact h x (List.mem_of_getElem? hg)
theorem allocE_wf {sz : Nat} {H : Em.Hp} {tag : Int} {fs : List Int} (h : Em.used H ≤ 20000) : (Lit.int .i64 (allocE sz H tag fs).1).wf = true := by
  unfold allocE Em.alloc
  split
  · exact (by decide : (Lit.int .i64 0).wf = true)
  · next n H' e =>
    split at e
    · cases e
    · cases e
      simp [Lit.wf, IntKind.min, IntKind.max, IntKind.bits, IntKind.signed]
      omega
/-- A Build was answered. -/
def BldA (w : World) (p sz : Nat) (S : List Nat) (o : Int × Int × Em.Hp) (e : Ending) (w' : World) : Prop :=
  e = .returned (.tuple #[.int .i64 o.1, .int .i64 o.2.1]) ∧ ∃ S', HRep w' p S' sz o.2.2 ∧ Ext w w' S S'
/-- The words so far, in the variable that holds them. -/
structure LBox (wS : World) (S : List Nat) (b : Nat) (W : World) (p sz : Nat) (ws : List Int) (H : Em.Hp) (S' : List Nat) (lv : Value) : Prop where
  rep : HRep W p S' sz H
  mem : ∀ k ∈ S', k ∈ S ∨ wS.heap.size ≤ k
  box : W.heap[b]? = some (.cells #[lv] 31)
  row : W.ownsRow wS.heap.size 32 1 lv ws.length (ws.map (Value.int .i64))
  out : ∀ k, lv.ownBlock = some k → k ∉ S'
  wf : ∀ x ∈ ws, (Lit.int .i64 x).wf = true
  frm : Frm (fun k => k ∈ S ∨ k = b) wS W
theorem LBox.lbS {wS W : World} {S S' : List Nat} {b p sz : Nat} {ws : List Int} {H : Em.Hp} {lv : Value} (h : LBox wS S b W p sz ws H S' lv) (hS : ∀ k ∈ S, k < b) (hb : b < wS.heap.size) : b ∉ S' := fun e => by
  rcases h.mem b e with e | e
  · have := hS b e; omega
  · omega
theorem LBox.step {wS W Wa W2 W3 w3 : World} {S S' S2 : List Nat} {b p sz : Nat} {ws : List Int} {H H2 : Em.Hp} {lv v3 : Value} {an : Int} (h : LBox wS S b W p sz ws H S' lv) (hS : ∀ k ∈ S, k < b) (hb : b < wS.heap.size)
    (ka : Keep W Wa) (x : Ext Wa W2 S' S2) (r : HRep W2 p S2 sz H2) (k3 : Keep W2 W3) (ho : w3.ownsRow wS.heap.size 32 1 v3 (ws ++ [an]).length ((ws ++ [an]).map (Value.int .i64))) (hg : W3.grownBy w3 lv.ownBlock) (hat : v3.ownBlock = lv.ownBlock ∨ v3.ownBlock = some W3.heap.size) (hw : (Lit.int .i64 an).wf = true) :
    LBox wS S b (w3.setCell ⟨b, 0, none⟩ v3) p sz (ws ++ [an]) H2 S2 v3 := by
  have hbS := h.lbS hS hb
  have hlt := World.ownsRow.lt h.row
  have hWs := h.frm.size
  have hWa := ka.size
  have hW2 := x.1.size
  have hW3 := k3.size
  have hS2 : ∀ k, lv.ownBlock = some k → k ∉ S2 := fun k e hk => by
    rcases x.2 k hk with e2 | e2
    · exact h.out k e e2
    · have := (hlt k e).2; omega
  have hbS2 : b ∉ S2 := fun e => by
    rcases x.2 b e with e2 | e2
    · exact hbS e2
    · omega
  have F3 : Frm (fun k => lv.ownBlock = some k) W3 w3 := Frm.of_grown hg fun _ e => e
  have hlb : ¬ lv.ownBlock = some b := fun e => by have := (hlt b e).1; omega
  have Fs : Frm (· = b) w3 (w3.setCell ⟨b, 0, none⟩ v3) := (Frm.rf (· = b) _).st (p := ⟨b, 0, none⟩) (.inl rfl) _
  have hv3 : ∀ k, v3.ownBlock = some k → wS.heap.size ≤ k := fun k e => (World.ownsRow.lt ho k e).1
  have htop : w3.heap[b]? = some (.cells #[lv] 31) := F3.heap hlb ((k3.frm fun _ => False).heap (fun h => h) (x.1.heap hbS ((ka.frm fun _ => False).heap (fun h => h) h.box)))
  refine { rep := ?_, mem := fun k hk => ?_, box := heap_setT (j := 0) htop v3, row := Fs.own ho fun k e e2 => (by have := hv3 k e; have e2 : k = b := e2; omega), out := fun k e hk => ?_, wf := fun y hy => ?_, frm := ?_ }
  · exact ((r.keep k3).frm F3 fun i hi e => hS2 i e hi).frm Fs fun i hi e => by
      have e : i = b := e
      exact hbS2 (e ▸ hi)
  · rcases x.2 k hk with e | e
    · exact h.mem k e
    · exact .inr (by omega)
  · rcases hat with e2 | e2
    · exact hS2 k (by rw [← e2, e]) hk
    · rw [e2] at e
      injection e with e
      have := r.lt k hk
      omega
  · rcases List.mem_append.1 hy with hy | hy
    · exact h.wf y hy
    · rw [List.mem_singleton.1 hy]; exact hw
  · refine (((((h.frm.trn (ka.frm fun _ => False) fun _ h => h.elim).trn x.1 fun i hi => ?_).trn (k3.frm fun _ => False) fun _ h => h.elim).trn F3 fun i hi => .inr (hlt i hi).1)).trn Fs fun i hi => .inl (.inr hi)
    rcases h.mem i hi with e | e
    · exact .inl (.inl e)
    · exact .inr e
theorem bld1_enters : Enters Tryz.prog 28 := enters_of Tryz.func28 (by kernel_rfl) rfl
theorem bld2_enters : Enters Tryz.prog 29 := enters_of Tryz.func29 (by kernel_rfl) rfl
theorem bld3_enters : Enters Tryz.prog 31 := enters_of Tryz.func31 (by kernel_rfl) rfl
set_option maxHeartbeats 16000000 in
theorem shapeBuild {p sz : Nat} {S : List Nat} {H : Em.Hp} (w : World) (h : HRep w p S sz H) (gv : Value) (g : Em.Gr) (hgs : GrS S w gv g) (hsm : Em.needN g.blocks ≤ 100000) :
    Calls Tryz.prog 17 #[.pointer (some ⟨p, 0, none⟩), gv] w (BldA w p sz S (Em.buildG sz H g)) := by
  obtain ⟨u, rfl, hrw, hsl, hav⟩ := id hgs
  obtain ⟨uA, uc, rfl, hlc, hcm, _⟩ := id hsl
  obtain ⟨⟨g1, g2⟩, bs⟩ := g
  simp only at hrw hlc hsm ⊢
  have HAV := hide hav
  have HSL := hide (show ∀ W, Frm (· ∈ S) w W → Sl 3 (KBkS S) W (.slice uA bs.length uc) bs from fun W F => hsl.frm hav F fun _ _ h => h.frm F)
  have HR := hide h
  have hSlt := hide h.lt
  have hnl := need_len bs
  have hA : ((w.alloc (.cells #[.pointer (some ⟨p, 0, none⟩)] 27)).alloc (.cells #[.bool g1, .int .i64 g2, .slice uA bs.length uc] 62)).heap[w.heap.size]? = some (.cells #[.pointer (some ⟨p, 0, none⟩)] 27) := ((Keep.al (Keep.rf _) _).frm fun _ => False).heap (fun h => h) (heap_alloc_new w _)
  have hB : ((w.alloc (.cells #[.pointer (some ⟨p, 0, none⟩)] 27)).alloc (.cells #[.bool g1, .int .i64 g2, .slice uA bs.length uc] 62)).heap[w.heap.size + 1]? = some (.cells #[.bool g1, .int .i64 g2, .slice uA bs.length uc] 62) := by
    have := heap_alloc_new (w.alloc (.cells #[.pointer (some ⟨p, 0, none⟩)] 27)) (.cells #[.bool g1, .int .i64 g2, .slice uA bs.length uc] 62)
    rwa [size_alloc] at this
  have K1 : Keep w ((w.alloc (.cells #[.pointer (some ⟨p, 0, none⟩)] 27)).alloc (.cells #[.bool g1, .int .i64 g2, .slice uA bs.length uc] 62)) := (by repeat (first | exact Keep.rf _ | assumption | apply Keep.al | apply Keep.dr | apply Keep.dn))
  have hs1 : w.heap.size + 2 = ((w.alloc (.cells #[.pointer (some ⟨p, 0, none⟩)] 27)).alloc (.cells #[.bool g1, .int .i64 g2, .slice uA bs.length uc] 62)).heap.size := by simp
  have a0 := top_cells hA 0
  have b0 := top_cells hB 0
  have b1 := top_cells hB 1
  have b2 := top_cells hB 2
  simp only [List.getElem?_toArray, List.getElem?_cons_succ, List.getElem?_cons_zero] at a0 b0 b1 b2
  have HK1 := hide K1
  have HA := hide hA
  have HB := hide hB
  have HIS := hide (fun (W : World) (F : Frm (· ∈ S) w W) => shapeIs W _ ⟨(g1, g2), bs⟩ (hgs.frm F).gr)
  have HBD := hide (show Em.buildG sz H ⟨(g1, g2), bs⟩ = if Em.isG ⟨(g1, g2), bs⟩ = true then if (sz : Int) - Em.used H < (Em.needN bs : Int) then (0, 8, H) else (Em.wordG (Em.putsB sz bs [] H).1 (g1, g2), 0, Em.setB (Em.putsB sz bs [] H).1 0 bs (Em.putsB sz bs [] H).2) else (0, 1, H) from rfl)
  have HALL := hide (fun (h : Em.isG ⟨(g1, g2), bs⟩ = true) => Em.isG_all h)
  clear hgs hsl hav h K1 hA hB
  generalize hOO : Em.buildG sz H ⟨(g1, g2), bs⟩ = oo at *
  clear hOO
  go_enter Tryz.func17, Tryz.ntmps17
  go_wp2_with fail
  generalize World.alloc (World.alloc w _) _ = w1 at *
  refine (HIS.out w1 (HK1.out.frm _)).mono ?_
  rintro e w2 ⟨rfl, k2⟩
  replace a0 := Keep.cell k2 a0
  replace b0 := Keep.cell k2 b0
  replace b1 := Keep.cell k2 b1
  replace b2 := Keep.cell k2 b2
  replace HA := hide ((k2.frm fun _ => False).heap (fun h => h) HA.out)
  replace HB := hide ((k2.frm fun _ => False).heap (fun h => h) HB.out)
  have HK2 := hide (Keep.tr HK1.out k2)
  have hs2 : w.heap.size + 2 ≤ w2.heap.size := by rw [hs1]; exact k2.size
  clear k2 HK1 hs1 HIS
  generalize hig : Em.isG ⟨(g1, g2), bs⟩ = ig at *
  cases ig with
  | false =>
    have HO := hide (show oo = (0, 1, H) from by rw [HBD.out]; rfl)
    clear HBD HALL hig
    go_wp2_with fail
    go_ret2
    rw [HO.out]
    exact ⟨rfl, S, HR.out.keep HK2.out, (Ext.rf w S).keep HK2.out⟩
  | true =>
    have hall := HALL.out rfl
    have HALL2 := hide hall
    clear HALL hig hall
    simp only [if_pos] at HBD
    have HSM := hide (fun (b : Em.Blk) (hb : b ∈ bs) => need_le hb)
    generalize hN : Em.needN bs = N at *
    have HN := hide hN
    clear hN
    go_wp2_with fail
    go_loopw [6, 26] (fun m i W => ∃ (j : Nat) (x : Nat), j ≤ bs.length ∧ i = .int .i64 (j : Int) ∧ m = .int .i64 (x : Int) ∧ x + Em.needN (bs.drop j) = N ∧ Keep w2 W) (fun _ i _ => bs.length - (intOf i).toNat)
    case atStart => exact ⟨0, 0, by omega, rfl, rfl, by rw [← HN.out]; simp, Keep.rf _⟩
    case round =>
      obtain ⟨j, x, hj, rfl, rfl, hx, hk⟩ := hrel
      have HX := hide hx
      have HK := hide hk
      have HKW := hide (Keep.tr HK2.out hk)
      clear hx
      by_cases hlt : j < bs.length
      · have hlti : (j : Int) < (bs.length : Int) := by omega
        have hr := HSL.out wr (HKW.out.frm _)
        obtain ⟨_, _, e, _, _, hr⟩ := hr
        cases e
        obtain ⟨ad, rfl, hcell⟩ := hr (by omega)
        obtain ⟨cs, hcs, hcl, hkt⟩ := hcell j hlt
        have hdr := need_drop hlt
        have hxx := HX.out
        rw [hdr] at hxx
        generalize bs[j] = b at *
        obtain ⟨kv, rfl, hbw, hks, _⟩ := hkt
        obtain ⟨kA, kc, rfl, kl, km, _⟩ := hks
        have q0 := hcl 0 _ rfl
        rw [Nat.add_zero] at q0
        have q1 := cell_off (hcl 1 _ rfl)
        have q2 := cell_off (hcl 2 _ rfl)
        have HXX := hide hxx
        have hb1 : x + 1 + b.str.length + b.kids.length ≤ 100000 := by omega
        have hbs : b.str.length ≤ 100000 := by omega
        have hbk : b.kids.length ≤ 100000 := by omega
        clear hcell hcl hr hdr hcs hxx hk
        go_wp2_with fail
        refine (shapeFields _ b.tag b.str kA b.kids.length kc hbs hbk).mono ?_
        rintro e w' ⟨rfl, k3⟩
        have HK3 := hide (Keep.tr (Keep.al HK.out (.cells #[.int .i64 b.tag, .string (str b.str), .slice kA b.kids.length kc] 72)) k3)
        clear k3
        go_wp2_with fail
        go_roundw
        case rel => exact ⟨j + 1, x + (1 + (b.str.length + b.kids.length)), by omega, by go_num, by go_num, by have := HXX.out; omega, HK3.out⟩
        case measure => simp [intOf]; omega
      · have hlti : ¬ (j : Int) < (bs.length : Int) := by omega
        have hxN : x = N := by
          have := HX.out
          rw [List.drop_of_length_le (by omega)] at this
          simpa [Em.needN] using this
        subst hxN
        clear HX
        have a0r := Keep.cell hk a0
        have HRr := hide (HR.out.keep HKW.out)
        have HUS := hide HR.out.small
        clear hlt hj hk
        go_wp2_with fail
        clear hlti
        apply region_all (by kernel_rfl) Keep Keep krg ktg krg ktg (fun _ _ h => h) [some 36, some 37, some 38, some 39, some 40, some 41, some 42] [eqG _ , eqG _ , eqG _ , eqG _ , eqG _ , eqG _ , eqG _ ] [⟨[], [], true, false, false⟩, ⟨[], [], true, false, false⟩, ⟨[1], [], true, false, false⟩, ⟨[], [], true, false, false⟩, ⟨[3], [], true, false, false⟩, ⟨[2, 4], [], true, false, false⟩, ⟨[0, 5], [], true, false, false⟩] [6] (by kernel_rfl) (by kernel_rfl) 
        · refine ⟨?_, ?_, ?_, ?_, ?_, ?_, ?_, trivial⟩ <;> (intro us W h9 hW hE hd hs K hK; obtain ⟨u0, u1, u2, u3, u4, u5, u6, rfl⟩ := rog 7 h9 rfl; clear h9; try simp only [DepG, AtG, and_true, relG, eqG, eqG1, eqG2, eqG3, gdG, gdG1, gnG, gnG1, List.getD_cons_zero, List.getD_cons_succ, List.getElem?_cons_succ, List.getElem?_cons_zero, Option.map_some, Option.getD_some, valsG, List.map_cons, List.map_nil, List.length_cons, List.length_nil] at hd)
          · ((try clear hd); clear hs; simp only [fillG, List.set_cons_zero, List.set_cons_succ]; refine want_n rfl ?_; go_wp2_with (first | fail); simp only [DoneG, fillG, List.set_cons_zero, List.set_cons_succ, relG, eqG, eqG1, eqG2, eqG3, gdG, gdG1, gnG, gnG1, List.getD_cons_zero, List.getD_cons_succ, List.getElem?_cons_succ, List.getElem?_cons_zero, Option.map_some, Option.getD_some, valsG, List.map_cons, List.map_nil, List.length_cons, List.length_nil]; exact ⟨_, rfl, (by first | with_reducible assumption | exact krg _ | exact Keep.al (krg _) _), fun _ _ => rfl⟩)
          · ((try clear hd); clear hs; simp only [fillG, List.set_cons_zero, List.set_cons_succ]; have hKW := Keep.tr (Keep.dr (Keep.rf _)) (hE rfl); have a0r := Keep.cell hKW a0r; refine want_n rfl ?_; go_wp2_with (first | fail); simp only [DoneG, fillG, List.set_cons_zero, List.set_cons_succ, relG, eqG, eqG1, eqG2, eqG3, gdG, gdG1, gnG, gnG1, List.getD_cons_zero, List.getD_cons_succ, List.getElem?_cons_succ, List.getElem?_cons_zero, Option.map_some, Option.getD_some, valsG, List.map_cons, List.map_nil, List.length_cons, List.length_nil]; exact ⟨_, rfl, (by first | with_reducible assumption | exact krg _ | exact Keep.al (krg _) _), fun _ _ => rfl⟩)
          · (have d1 := hd; clear hd; subst d1; clear hs; simp only [fillG, List.set_cons_zero, List.set_cons_succ]; have hKW := Keep.tr (Keep.dr (Keep.rf _)) (hE rfl); have a0r := Keep.cell hKW a0r; refine want_n rfl ?_; go_wp2_with (first | (go_at_call 27; refine (heapSize _ (HRr.out.keep hKW)).mono ?_; rintro e w' ⟨rfl, rfl⟩) | fail); simp only [DoneG, fillG, List.set_cons_zero, List.set_cons_succ, relG, eqG, eqG1, eqG2, eqG3, gdG, gdG1, gnG, gnG1, List.getD_cons_zero, List.getD_cons_succ, List.getElem?_cons_succ, List.getElem?_cons_zero, Option.map_some, Option.getD_some, valsG, List.map_cons, List.map_nil, List.length_cons, List.length_nil]; exact ⟨_, rfl, (by first | with_reducible assumption | exact krg _ | exact Keep.al (krg _) _), fun _ _ => rfl⟩)
          · ((try clear hd); clear hs; simp only [fillG, List.set_cons_zero, List.set_cons_succ]; have hKW := Keep.tr (Keep.dr (Keep.rf _)) (hE rfl); have a0r := Keep.cell hKW a0r; refine want_n rfl ?_; go_wp2_with (first | fail); simp only [DoneG, fillG, List.set_cons_zero, List.set_cons_succ, relG, eqG, eqG1, eqG2, eqG3, gdG, gdG1, gnG, gnG1, List.getD_cons_zero, List.getD_cons_succ, List.getElem?_cons_succ, List.getElem?_cons_zero, Option.map_some, Option.getD_some, valsG, List.map_cons, List.map_nil, List.length_cons, List.length_nil]; exact ⟨_, rfl, (by first | with_reducible assumption | exact krg _ | exact Keep.al (krg _) _), fun _ _ => rfl⟩)
          · (have d3 := hd; clear hd; subst d3; clear hs; simp only [fillG, List.set_cons_zero, List.set_cons_succ]; have hKW := Keep.tr (Keep.dr (Keep.rf _)) (hE rfl); have a0r := Keep.cell hKW a0r; refine want_n rfl ?_; go_wp2_with (first | (go_at_call 12; refine (heapUsed _ (HRr.out.keep hKW)).mono ?_; rintro e w' ⟨rfl, rfl⟩) | fail); simp only [DoneG, fillG, List.set_cons_zero, List.set_cons_succ, relG, eqG, eqG1, eqG2, eqG3, gdG, gdG1, gnG, gnG1, List.getD_cons_zero, List.getD_cons_succ, List.getElem?_cons_succ, List.getElem?_cons_zero, Option.map_some, Option.getD_some, valsG, List.map_cons, List.map_nil, List.length_cons, List.length_nil]; exact ⟨_, rfl, (by first | with_reducible assumption | exact krg _ | exact Keep.al (krg _) _), fun _ _ => rfl⟩)
          · (obtain ⟨d2, d4⟩ := hd; subst d2; subst d4; clear hs; simp only [fillG, List.set_cons_zero, List.set_cons_succ]; refine want_n rfl ?_; go_wp2_with (first | fail); simp only [DoneG, fillG, List.set_cons_zero, List.set_cons_succ, relG, eqG, eqG1, eqG2, eqG3, gdG, gdG1, gnG, gnG1, List.getD_cons_zero, List.getD_cons_succ, List.getElem?_cons_succ, List.getElem?_cons_zero, Option.map_some, Option.getD_some, valsG, List.map_cons, List.map_nil, List.length_cons, List.length_nil]; exact ⟨_, rfl, (by first | with_reducible assumption | exact krg _ | exact Keep.al (krg _) _), fun _ _ => rfl⟩)
          · (obtain ⟨d0, d5⟩ := hd; subst d0; subst d5; clear hs; simp only [fillG, List.set_cons_zero, List.set_cons_succ]; refine want_n rfl ?_; go_wp2_with (first | fail); simp only [DoneG, fillG, List.set_cons_zero, List.set_cons_succ, relG, eqG, eqG1, eqG2, eqG3, gdG, gdG1, gnG, gnG1, List.getD_cons_zero, List.getD_cons_succ, List.getElem?_cons_succ, List.getElem?_cons_zero, Option.map_some, Option.getD_some, valsG, List.map_cons, List.map_nil, List.length_cons, List.length_nil]; exact ⟨_, rfl, (by first | with_reducible assumption | exact krg _ | exact Keep.al (krg _) _), fun _ _ => rfl⟩)
        (intro us W3 h9 hW hE hA; obtain ⟨u0, u1, u2, u3, u4, u5, u6, rfl⟩ := rog 7 h9 rfl; clear h9; simp only [AllG, AtG, and_true, relG, eqG, eqG1, eqG2, eqG3, gdG, gdG1, gnG, gnG1, List.getD_cons_zero, List.getD_cons_succ, List.getElem?_cons_succ, List.getElem?_cons_zero, Option.map_some, Option.getD_some, valsG, List.map_cons, List.map_nil, List.length_cons, List.length_nil] at hA; have d6 := hA; clear hA; subst d6; simp only [fillG, List.set_cons_zero, List.set_cons_succ]; have k3 := Keep.tr (Keep.dr (Keep.rf _)) hW; clear hW hE)
        have HK3 := hide (Keep.tr HKW.out k3)
        have HA3 := hide (((Keep.tr HK.out k3).frm fun _ => False).heap (fun h => h) HA.out)
        have HB3 := hide (((Keep.tr HK.out k3).frm fun _ => False).heap (fun h => h) HB.out)
        have hs3 : w.heap.size + 2 ≤ W3.heap.size := Nat.le_trans hs2 (Keep.tr HK.out k3).size
        clear HA HB HK HKW k3 HK2 hs2 HRr a0 b0 b1 b2 a0r
        have hwz : wrap64 ((sz : Int) - (Em.used H : Int)) = (sz : Int) - (Em.used H : Int) := by
          have h1 := HUS.out.1
          have h2 := HUS.out.2.1
          simp only [wrap64]
          omega
        rw [hwz]
        clear hwz
        by_cases hbig : (sz : Int) - (Em.used H : Int) < (x : Int)
        · have HO := hide (show oo = (0, 8, H) from by rw [HBD.out, if_pos hbig])
          rw [decide_eq_true hbig]
          clear HBD hbig
          go_wp2_with fail
          go_ret2
          rw [HO.out]
          exact ⟨rfl, S, HR.out.keep HK3.out, (Ext.rf w S).keep HK3.out⟩
        · have HO := hide (show oo = (Em.wordG (Em.putsB sz bs [] H).1 (g1, g2), 0, Em.setB (Em.putsB sz bs [] H).1 0 bs (Em.putsB sz bs [] H).2) from by rw [HBD.out, if_neg hbig])
          have HPY := hide (show Em.putsB sz bs [] H = (Em.addrs (Em.used H) bs, H ++ bs.map fun b => (b.tag, Em.fields0 b)) from by
            have := Em.puts_yes sz bs [] H (fun b hb => (HALL2.out.1 b hb).1) (by rw [HN.out]; have h1 := HUS.out.1; omega)
            simpa using this)
          rw [decide_eq_false hbig]
          have hB30 := top_cells HB3.out 2
          simp only [List.getElem?_toArray, List.getElem?_cons_succ, List.getElem?_cons_zero] at hB30
          have hB3 := fun o => Keep.cell ((Keep.rf W3).al o) hB30
          have hlen32 : bs.length ≤ 100000 := by omega
          clear HBD hbig
          go_wp2_with fail
          have HA4 := hide (((Keep.al (Keep.rf W3) (.cells #[.slice none 0 0] 31)).frm fun _ => False).heap (fun h => h) HA3.out)
          have HB4 := hide (((Keep.al (Keep.rf W3) (.cells #[.slice none 0 0] 31)).frm fun _ => False).heap (fun h => h) HB3.out)
          have hL4 := heap_alloc_new W3 (.cells #[.slice none 0 0] 31)
          have HK4 := hide (Keep.al HK3.out (.cells #[.slice none 0 0] 31))
          have hs4 : W3.heap.size + 1 = (W3.alloc (.cells #[.slice none 0 0] 31)).heap.size := by simp
          have HL4 := hide hL4
          clear HA3 HB3 hB3 hB30 hL4 HK3
          generalize hl4 : World.alloc W3 _ = W4 at *
          generalize hlb : W3.heap.size = lb at *
          clear hl4 hlb
          have HT0 := hide (show LBox W4 S lb W4 p sz [] H S (.slice none 0 0) from ⟨HR.out.keep HK4.out, fun k hk => .inl hk, HL4.out, ⟨by simp, .inl ⟨rfl, rfl⟩⟩, by simp [Value.ownBlock], by simp, Frm.rf _ _⟩)
          go_loopw [46] (fun i W => ∃ (j : Nat) (ws : List Int) (H' : Em.Hp) (S' : List Nat) (lv : Value), j ≤ bs.length ∧ i = .int .i64 (j : Int) ∧ ws.length = j ∧ Em.putsB sz bs [] H = Em.putsB sz (bs.drop j) ws H' ∧ LBox W4 S lb W p sz ws H' S' lv) (fun i _ => bs.length - (intOf i).toNat)
          case atStart => exact ⟨0, [], H, S, _, Nat.zero_le _, rfl, rfl, rfl, HT0.out⟩
          case round =>
            obtain ⟨j, ws, H', S', lv, hj, rfl, hwl, hput, hbx⟩ := hrel
            subst hwl
            clear HT0 HL4
            have hSb : ∀ k ∈ S, k < lb := fun k hk => by have := hSlt.out k hk; omega
            have hFw : Frm (· ∈ S) w wr := (HK4.out.frm _).trn hbx.frm fun i hi => by
              rcases hi with e | e
              · exact .inl e
              · exact .inr (by omega)
            have hAr := hbx.frm.heap (fun e => by rcases e with e | e; have := hSlt.out _ e; omega; omega) HA4.out
            have hlS := hbx.lbS hSb (by omega)
            have hAS : w.heap.size ∉ S' := fun e => by
              rcases hbx.mem _ e with e | e
              · have := hSlt.out _ e; omega
              · omega
            have hr := HSL.out wr hFw
            obtain ⟨_, _, e, _, _, hr⟩ := hr
            cases e
            have HBX := hide hbx
            have HFW := hide hFw
            have HPUT := hide hput
            have HAR := hide hAr
            have HLS := hide hlS
            have HAS := hide hAS
            have HSB := hide hSb
            have hWr := hbx.frm.size
            clear hbx hFw hput hAr hlS hAS hSb
            by_cases hlt : ws.length < bs.length
            · have hlti : (ws.length : Int) < (bs.length : Int) := by omega
              obtain ⟨ad, rfl, hcell⟩ := hr (by omega)
              obtain ⟨cs, hcs, hcl, hkt⟩ := hcell ws.length hlt
              have hmem := hide (List.getElem_mem hlt)
              have hdr := hide (List.drop_eq_getElem_cons hlt)
              generalize bs[ws.length] = b at *
              have hok := hide (HALL2.out.1 b hmem.out).1
              have hsmb := HSM.out b hmem.out
              obtain ⟨kv, rfl, hbw, hks, _⟩ := hkt
              obtain ⟨kA, kc, rfl, kl, km, _⟩ := hks
              have q0 := hcl 0 _ rfl
              rw [Nat.add_zero] at q0
              have q1 := cell_off (hcl 1 _ rfl)
              have q2 := cell_off (hcl 2 _ rfl)
              have HPN := hide (show Em.putsB sz bs [] H = Em.putsB sz (bs.drop (ws.length + 1)) (ws ++ [(allocE sz H' b.tag (Em.fields0 b)).1]) (allocE sz H' b.tag (Em.fields0 b)).2.2 from by rw [HPUT.out, hdr.out]; rfl)
              have HAW := hide (allocE_wf (tag := b.tag) (fs := Em.fields0 b) (by have h1 := HBX.out.rep.small; omega : Em.used H' ≤ 20000) (sz := sz))
              obtain ⟨lA, lc, rfl⟩ := own_slice HBX.out.row
              clear hcell hcl hr hcs
              have hnb := heap_alloc_new wr (.cells #[.int .i64 b.tag, .string (str b.str), .slice kA b.kids.length kc] 72)
              have ka : Keep wr (wr.alloc (.cells #[.int .i64 b.tag, .string (str b.str), .slice kA b.kids.length kc] 72)) := (by repeat (first | exact Keep.rf _ | assumption | apply Keep.al | apply Keep.dr | apply Keep.dn))
              have z0 := top_cells hnb 0
              have z1 := top_cells hnb 1
              have z2 := top_cells hnb 2
              have zA : (wr.alloc (.cells #[.int .i64 b.tag, .string (str b.str), .slice kA b.kids.length kc] 72)).cell? ⟨w.heap.size, 0, none⟩ = some (.pointer (some ⟨p, 0, none⟩)) := Keep.cell ka (top_cells HAR.out 0)
              simp only [List.getElem?_toArray, List.getElem?_cons_succ, List.getElem?_cons_zero] at z0 z1 z2
              have KA := hide ka
              have hmf : ∀ (fn : Fn) (first cap : Array Value) (w : World), (Instr.makeFunc fn first cap).run Tryz.prog w = .ok (.func fn first cap) w := fun _ _ _ _ => rfl
              have he1 : ∀ (args : Array Value) (w : World), (callFunc 28 args).run Tryz.prog w = .ok (.enter 28 args) w := bld1_enters
              have he2 : ∀ (args : Array Value) (w : World), (callFunc 29 args).run Tryz.prog w = .ok (.enter 29 args) w := bld2_enters
              clear hnb ka
              by_cases htag : b.tag = 1
              · have htb : (b.tag == 1) = true := by simp [htag]
                rw [htag] at z0 z1 z2 zA
                have KA1 := KA
                rw [htag] at KA1
                go_wp2_with fail
                refine (putClo2 _ (HBX.out.rep.keep KA1.out) _ _ b.str zA z1 (by omega)).mono ?_
                rintro e w2' ⟨rfl, S2, r2, x2⟩
                rw [show Em.fields0 ⟨1, b.str, []⟩ = Em.fields0 b from by unfold Em.fields0; rw [if_pos rfl, if_pos htag]] at r2 ⊢
                rw [show allocE sz H' 1 (Em.fields0 b) = allocE sz H' b.tag (Em.fields0 b) from by rw [htag]] at r2 ⊢
                generalize allocE sz H' b.tag (Em.fields0 b) = ae at *
                obtain ⟨an, ab, aH⟩ := ae
                simp only at r2 HAW HPN ⊢
                have zL : w2'.cell? ⟨lb, 0, none⟩ = some (.slice lA ws.length lc) := x2.1.cell (a := ⟨lb, 0, none⟩) HLS.out (Keep.cell KA1.out (top_cells HBX.out.box 0))
                have hrow2 := x2.1.own (own_keep HBX.out.row KA1.out) fun k e hk => HBX.out.out k e hk
                have htop2 := x2.1.heap HLS.out ((KA1.out.frm fun _ => False).heap (fun h => h) HBX.out.box)
                have hsz2 : W4.heap.size ≤ w2'.heap.size := Nat.le_trans hWr (Nat.le_trans KA1.out.size x2.1.size)
                have HR2 := hide r2
                have HX2 := hide x2
                have HROW2 := hide hrow2
                have HTOP2 := hide htop2
                clear r2 x2 hrow2 htop2 z0 z1 z2 zA q0 q1 q2
                go_wp2_with (first
                  | (at_builtin; go_loud (refine appI ws [an] rfl (.tmp 60) (.tmp 62) _ _ _ _ Tryz.underlying31 infoW rfl (by omega) rfl W4.heap.size _ rfl (own_keep HROW2.out (by repeat (first | exact Keep.rf _ | assumption | apply Keep.al | apply Keep.dr | apply Keep.dn))) _ rfl (Cs.lit _ rfl rfl rfl (by simp) (by simp)) (by rw [size_alloc]; exact Nat.le_trans hsz2 (Nat.le_succ _)) (by simp; omega) ?_); intro v3 w3 ho3 hg3 hat3; have tp := (Frm.of_grown (S := fun k => W4.heap.size ≤ k) hg3 fun k e => (World.ownsRow.lt HBX.out.row k e).1).heap (fun e => by have e : W4.heap.size ≤ lb := e; omega) (((Keep.al (Keep.rf w2') (.cells #[.int .i64 an] 32)).frm fun _ => False).heap (fun h => h) HTOP2.out); have tpc := top_cells tp 0; have tpf := top_free tp 0; simp only [List.getElem?_toArray, List.getElem?_cons_succ, List.getElem?_cons_zero] at tpc; have HO3 := hide ho3; have HG3 := hide hg3; have HAT := hide hat3; obtain ⟨A3, c3, e3⟩ := own_slice ho3; subst e3; clear ho3 hg3 hat3 tp)
                  | fail)
                have HNX := hide (HBX.out.step HSB.out (by omega) KA1.out HX2.out HR2.out (Keep.al (Keep.rf w2') (.cells #[.int .i64 an] 32)) HO3.out HG3.out HAT.out HAW.out)
                go_roundw
                case rel => exact ⟨ws.length + 1, ws ++ [an], aH, S2, _, by omega, by go_num, by simp, HPN.out, by simpa using HNX.out⟩
                case measure => simp [intOf]; omega
              · have htb : (b.tag == 1) = false := by simp [htag]
                go_wp2_with fail
                refine (putClo1 _ (HBX.out.rep.keep KA.out) _ _ b.tag kA b.kids.length kc zA z0 z2 hbw (by omega)).mono ?_
                rintro e w2' ⟨rfl, S2, r2, x2⟩
                rw [show List.replicate b.kids.length 0 = Em.fields0 b from by unfold Em.fields0; rw [if_neg htag]] at r2 ⊢
                generalize allocE sz H' b.tag (Em.fields0 b) = ae at *
                obtain ⟨an, ab, aH⟩ := ae
                simp only at r2 HAW HPN ⊢
                have zL : w2'.cell? ⟨lb, 0, none⟩ = some (.slice lA ws.length lc) := x2.1.cell (a := ⟨lb, 0, none⟩) HLS.out (Keep.cell KA.out (top_cells HBX.out.box 0))
                have hrow2 := x2.1.own (own_keep HBX.out.row KA.out) fun k e hk => HBX.out.out k e hk
                have htop2 := x2.1.heap HLS.out ((KA.out.frm fun _ => False).heap (fun h => h) HBX.out.box)
                have hsz2 : W4.heap.size ≤ w2'.heap.size := Nat.le_trans hWr (Nat.le_trans KA.out.size x2.1.size)
                have HR2 := hide r2
                have HX2 := hide x2
                have HROW2 := hide hrow2
                have HTOP2 := hide htop2
                clear r2 x2 hrow2 htop2 z0 z1 z2 zA q0 q1 q2
                go_wp2_with (first
                  | (at_builtin; go_loud (refine appI ws [an] rfl (.tmp 60) (.tmp 62) _ _ _ _ Tryz.underlying31 infoW rfl (by omega) rfl W4.heap.size _ rfl (own_keep HROW2.out (by repeat (first | exact Keep.rf _ | assumption | apply Keep.al | apply Keep.dr | apply Keep.dn))) _ rfl (Cs.lit _ rfl rfl rfl (by simp) (by simp)) (by rw [size_alloc]; exact Nat.le_trans hsz2 (Nat.le_succ _)) (by simp; omega) ?_); intro v3 w3 ho3 hg3 hat3; have tp := (Frm.of_grown (S := fun k => W4.heap.size ≤ k) hg3 fun k e => (World.ownsRow.lt HBX.out.row k e).1).heap (fun e => by have e : W4.heap.size ≤ lb := e; omega) (((Keep.al (Keep.rf w2') (.cells #[.int .i64 an] 32)).frm fun _ => False).heap (fun h => h) HTOP2.out); have tpc := top_cells tp 0; have tpf := top_free tp 0; simp only [List.getElem?_toArray, List.getElem?_cons_succ, List.getElem?_cons_zero] at tpc; have HO3 := hide ho3; have HG3 := hide hg3; have HAT := hide hat3; obtain ⟨A3, c3, e3⟩ := own_slice ho3; subst e3; clear ho3 hg3 hat3 tp)
                  | fail)
                have HNX := hide (HBX.out.step HSB.out (by omega) KA.out HX2.out HR2.out (Keep.al (Keep.rf w2') (.cells #[.int .i64 an] 32)) HO3.out HG3.out HAT.out HAW.out)
                go_roundw
                case rel => exact ⟨ws.length + 1, ws ++ [an], aH, S2, _, by omega, by go_num, by simp, HPN.out, by simpa using HNX.out⟩
                case measure => simp [intOf]; omega
            · have hlti : ¬ (ws.length : Int) < (bs.length : Int) := by omega
              have hwsl : ws.length = bs.length := by omega
              have hP : Em.putsB sz bs [] H = (ws, H') := by
                rw [HPUT.out, List.drop_of_length_le (by omega)]
                rfl
              have HO2 := hide (show oo = (Em.wordG ws (g1, g2), 0, Em.setB ws 0 bs H') from by rw [HO.out, hP])
              obtain ⟨lA, lc, rfl⟩ := own_slice HBX.out.row
              have HWL := hide hwsl
              have hB5 := HBX.out.frm.heap (fun e => by rcases e with e | e; have := hSlt.out _ e; omega; omega) HB4.out
              have HB5 := hide hB5
              have zB0 := top_cells hB5 0
              have zB1 := top_cells hB5 1
              have zB2 := top_cells hB5 2
              simp only [List.getElem?_toArray, List.getElem?_cons_succ, List.getElem?_cons_zero] at zB0 zB1 zB2
              have hBS : w.heap.size + 1 ∉ S' := fun e => by
                rcases HBX.out.mem _ e with e | e
                · have := hSlt.out _ e; omega
                · omega
              have HBS := hide hBS
              have hmf : ∀ (fn : Fn) (first cap : Array Value) (w : World), (Instr.makeFunc fn first cap).run Tryz.prog w = .ok (.func fn first cap) w := fun _ _ _ _ => rfl
              have he3 : ∀ (args : Array Value) (w : World), (callFunc 31 args).run Tryz.prog w = .ok (.enter 31 args) w := bld3_enters
              have hw4 := HK4.out.size
              clear HO HPY HPUT hP hr hwsl hlt HB4 hB5 hBS HA4
              go_wp2_with fail
              rename World => w5
              go_loopw [69] (fun v W => ∃ (i : Nat) (Hc : Em.Hp), i ≤ bs.length ∧ v = .int .i64 (i : Int) ∧ Em.setB ws 0 bs H' = Em.setB ws i (bs.drop i) Hc ∧ HRep W p S' sz Hc ∧ Frm (· ∈ S') w5 W) (fun v _ => bs.length - (intOf v).toNat)
              case atStart => exact ⟨0, H', Nat.zero_le _, rfl, rfl, HBX.out.rep, Frm.rf _ _⟩
              case round =>
                obtain ⟨i, Hc, hi, rfl, hset, hrep, hF⟩ := hrel
                have hFw : Frm (· ∈ S) w wr := HFW.out.trn hF fun k hk => by
                  rcases HBX.out.mem k hk with e | e
                  · exact .inl e
                  · exact .inr (by omega)
                have HSET := hide hset
                have HREP := hide hrep
                have HF := hide hF
                have HFW2 := hide hFw
                clear hset hrep hF hFw
                by_cases hlt : i < bs.length
                · have hlti2 : (i : Int) < (bs.length : Int) := by omega
                  obtain ⟨_, _, e, _, _, hr0⟩ := HSL.out w (Frm.rf _ _)
                  cases e
                  obtain ⟨ad, rfl, hcell⟩ := hr0 (by omega)
                  obtain ⟨cs, hcs, hcl, hkt⟩ := hcell i hlt
                  have hadS : ad.block ∉ S := HAV.out ad _ _ rfl (by omega)
                  have hmem := hide (List.getElem_mem hlt)
                  have hdr := hide (List.drop_eq_getElem_cons hlt)
                  generalize bs[i] = b at *
                  obtain ⟨kv, rfl, hbw, hks, hkav⟩ := hkt
                  obtain ⟨kA, kc, rfl, kl, km, _⟩ := id hks
                  have q0 := HFW2.out.cell (fun e => hadS (by rwa [add_block] at e)) (hcl 0 _ rfl)
                  rw [Nat.add_zero] at q0
                  have q1 := cell_off (HFW2.out.cell (fun e => hadS (by rwa [add_block] at e)) (hcl 1 _ rfl))
                  have q2 := cell_off (HFW2.out.cell (fun e => hadS (by rwa [add_block] at e)) (hcl 2 _ rfl))
                  have HKS := hide hks
                  have HKAV := hide hkav
                  have hiw : i < ws.length := by have := HWL.out; omega
                  have hiwi : (i : Int) < (ws.length : Int) := by omega
                  have HSN := hide (show Em.setB ws 0 bs H' = Em.setB ws (i + 1) (bs.drop (i + 1)) (Em.setK ws (ws.getD i 0) 0 b.kids Hc) from by rw [HSET.out, hdr.out]; rfl)
                  have hga : ws.getD i 0 = ws[i] := by simp [List.getD_eq_getElem?_getD, hiw]
                  have haw := HBX.out.wf _ (List.getElem_mem hiw)
                  have HGA := hide hga
                  clear hcell hcl hr0 hcs hks hkav hadS hga
                  go_wp2_with fail
                  have KA := hide (show Keep wr (wr.alloc (.cells #[.int .i64 b.tag, .string (str b.str), .slice kA b.kids.length kc] 72)) from (by repeat (first | exact Keep.rf _ | assumption | apply Keep.al | apply Keep.dr | apply Keep.dn)))
                  have HREP6 := hide (HREP.out.keep KA.out)
                  have HF6 := hide (HF.out.tr (KA.out.frm _))
                  have HFW6 := hide (HFW2.out.tr (KA.out.frm _))
                  have hkl : (b.kids.length : Int) ≤ 100000 := by have := HSM.out b hmem.out; omega
                  clear q0 q1 q2 HREP HFW2 HSET hdr
                  generalize World.alloc wr _ = w6 at *
                  go_loopw [77] (fun v W => ∃ (k : Nat) (Hk : Em.Hp), k ≤ b.kids.length ∧ v = .int .i64 (k : Int) ∧ Em.setK ws (ws.getD i 0) 0 b.kids Hc = Em.setK ws (ws.getD i 0) k (b.kids.drop k) Hk ∧ HRep W p S' sz Hk ∧ Frm (· ∈ S') w6 W) (fun v _ => b.kids.length - (intOf v).toNat)
                  case atStart => exact ⟨0, Hc, Nat.zero_le _, rfl, rfl, HREP6.out, Frm.rf _ _⟩
                  case round =>
                    obtain ⟨k, Hk, hk, rfl, hsk, hrep, hF⟩ := hrel
                    have hFw : Frm (· ∈ S) w wr := HFW6.out.trn hF fun q hq => by
                      rcases HBX.out.mem q hq with e | e
                      · exact .inl e
                      · exact .inr (by omega)
                    have hF5 := HF6.out.tr hF
                    have HSK := hide hsk
                    have HREP := hide hrep
                    have HFK := hide hF
                    clear hsk hrep hF
                    by_cases hltk : k < b.kids.length
                    · have hltki : (k : Int) < (b.kids.length : Int) := by omega
                      obtain ⟨_, _, e, _, _, hkr⟩ := HKS.out.frm (K' := KRf) HKAV.out hFw (fun _ _ h => h)
                      cases e
                      obtain ⟨ak, rfl, hkc⟩ := hkr (by omega)
                      obtain ⟨ks, hks1, hks2, hkt, hkw⟩ := hkc k hltk
                      have hdk := hide (List.drop_eq_getElem_cons hltk)
                      have hmk := hide (List.getElem_mem hltk)
                      generalize b.kids[k] = x9 at *
                      obtain ⟨x1, x2⟩ := x9
                      simp only at hkt hkw
                      subst hkt
                      have v0 := hks2 0 _ rfl
                      rw [Nat.add_zero] at v0
                      have v1 := cell_off (hks2 1 _ rfl)
                      have hrow := hF5.own HBX.out.row fun q e hq => HBX.out.out q e hq
                      obtain ⟨lg, rfl⟩ : ∃ g : Nat, lA = some ⟨g, 0, none⟩ := by
                        obtain ⟨_, ⟨_, h00⟩ | ⟨g, c, cur, e, _⟩⟩ := HBX.out.row
                        · omega
                        · cases e
                          exact ⟨g, rfl⟩
                      have kr : Keep wr (wr.alloc (.cells #[.bool x1, .int .i64 x2] 59)) := (by repeat (first | exact Keep.rf _ | assumption | apply Keep.al | apply Keep.dr | apply Keep.dn))
                      have hnr := heap_alloc_new wr (.cells #[.bool x1, .int .i64 x2] 59)
                      have zr0 := top_cells hnr 0
                      have zr1 := top_cells hnr 1
                      simp only [List.getElem?_toArray, List.getElem?_cons_succ, List.getElem?_cons_zero] at zr0 zr1
                      have zA : (wr.alloc (.cells #[.bool x1, .int .i64 x2] 59)).cell? ⟨w.heap.size, 0, none⟩ = some (.pointer (some ⟨p, 0, none⟩)) := Keep.cell kr (top_cells (hF5.heap HAS.out HAR.out) 0)
                      have zL : (wr.alloc (.cells #[.bool x1, .int .i64 x2] 59)).cell? ⟨lb, 0, none⟩ = some (.slice (some ⟨lg, 0, none⟩) ws.length lc) := Keep.cell kr (top_cells (hF5.heap HLS.out HBX.out.box) 0)
                      have zW : (wr.alloc (.cells #[.bool x1, .int .i64 x2] 59)).cell? ⟨lg, i, none⟩ = some (.int .i64 (ws[i])) := by
                        have := Keep.cell kr (own_at hrow i (by simpa using hiw)).1
                        simpa using this
                      have HROW := hide (own_keep hrow kr)
                      have HRP := hide (HREP.out.keep kr)
                      have HF8 := hide (HFK.out.tr (kr.frm _))
                      have HRO := hide (show Em.refOk ws.length (x1, x2) from HWL.out ▸ (HALL2.out.1 b hmem.out).2 _ hmk.out)
                      have HKN := hide (show Em.setK ws (ws.getD i 0) 0 b.kids Hc = Em.setK ws (ws.getD i 0) (k + 1) (b.kids.drop (k + 1)) (putE Hk (ws.getD i 0) (k : Int) (Em.wordG ws (x1, x2))).2 from by rw [HSK.out, hdk.out]; rfl)
                      rw [HGA.out] at HKN
                      have HVW := hide (wordG_wf HBX.out.wf (x1, x2))
                      generalize hav : ws[i] = a at *
                      clear hav hkc hks2 hkr hrow hnr hFw hF5
                      go_wp2_with fail
                      clear v0 v1 kr
                      generalize World.alloc wr _ = w7 at *
                      generalize wr.heap.size = rb at *
                      apply region_last 9 _ (by kernel_rfl) Keep Keep krg ktg krg ktg (fun _ _ h => h) [some 82, some 83, some 84, some 85, some 86, some 87, some 88, some 89, some 90, some 91] [eqG _ , eqG _ , eqG _ , eqG _ , eqG _ , eqG _ , eqG _ , eqG _ , fun us _ v => v = .int .i64 (Em.wordG ws (x1, x2)), fun _ _ _ => True] [⟨[], [], true, false, false⟩, ⟨[], [], true, false, false⟩, ⟨[], [], true, false, false⟩, ⟨[1, 2], [], true, false, false⟩, ⟨[3], [], true, false, false⟩, ⟨[], [], true, false, false⟩, ⟨[], [], true, false, false⟩, ⟨[], [], true, false, false⟩, ⟨[6, 7], [], true, false, false⟩, ⟨[0, 4, 5, 8], [], true, false, false⟩] [0, 4, 5, 8] (by kernel_rfl) (by kernel_rfl) (by kernel_rfl) rfl (by kernel_rfl)
                      · refine ⟨?_, ?_, ?_, ?_, ?_, ?_, ?_, ?_, ?_, trivial⟩ <;> (intro us W h9 hW hE hd hs K hK; obtain ⟨u0, u1, u2, u3, u4, u5, u6, u7, u8, u9, rfl⟩ := rog 10 h9 rfl; clear h9; try simp only [DepG, AtG, and_true, relG, eqG, eqG1, eqG2, eqG3, gdG, gdG1, gnG, gnG1, List.getD_cons_zero, List.getD_cons_succ, List.getElem?_cons_succ, List.getElem?_cons_zero, Option.map_some, Option.getD_some, valsG, List.map_cons, List.map_nil, List.length_cons, List.length_nil] at hd)
                        · ((try clear hd); clear hs; simp only [fillG, List.set_cons_zero, List.set_cons_succ]; have hKW := Keep.tr (Keep.dr (Keep.rf _)) (hE rfl); have zA := Keep.cell hKW zA; have zL := Keep.cell hKW zL; have zW := Keep.cell hKW zW; have zr0 := Keep.cell hKW zr0; have zr1 := Keep.cell hKW zr1; refine want_n rfl ?_; go_wp2_with (first | fail); simp only [DoneG, fillG, List.set_cons_zero, List.set_cons_succ, relG, eqG, eqG1, eqG2, eqG3, gdG, gdG1, gnG, gnG1, List.getD_cons_zero, List.getD_cons_succ, List.getElem?_cons_succ, List.getElem?_cons_zero, Option.map_some, Option.getD_some, valsG, List.map_cons, List.map_nil, List.length_cons, List.length_nil]; exact ⟨_, rfl, (by first | with_reducible assumption | exact krg _ | exact Keep.al (krg _) _), fun _ _ => rfl⟩)
                        · ((try clear hd); clear hs; simp only [fillG, List.set_cons_zero, List.set_cons_succ]; have hKW := Keep.tr (Keep.dr (Keep.rf _)) (hE rfl); have zA := Keep.cell hKW zA; have zL := Keep.cell hKW zL; have zW := Keep.cell hKW zW; have zr0 := Keep.cell hKW zr0; have zr1 := Keep.cell hKW zr1; refine want_n rfl ?_; go_wp2_with (first | fail); simp only [DoneG, fillG, List.set_cons_zero, List.set_cons_succ, relG, eqG, eqG1, eqG2, eqG3, gdG, gdG1, gnG, gnG1, List.getD_cons_zero, List.getD_cons_succ, List.getElem?_cons_succ, List.getElem?_cons_zero, Option.map_some, Option.getD_some, valsG, List.map_cons, List.map_nil, List.length_cons, List.length_nil]; exact ⟨_, rfl, (by first | with_reducible assumption | exact krg _ | exact Keep.al (krg _) _), fun _ _ => rfl⟩)
                        · ((try clear hd); clear hs; simp only [fillG, List.set_cons_zero, List.set_cons_succ]; refine want_n rfl ?_; go_wp2_with (first | fail); simp only [DoneG, fillG, List.set_cons_zero, List.set_cons_succ, relG, eqG, eqG1, eqG2, eqG3, gdG, gdG1, gnG, gnG1, List.getD_cons_zero, List.getD_cons_succ, List.getElem?_cons_succ, List.getElem?_cons_zero, Option.map_some, Option.getD_some, valsG, List.map_cons, List.map_nil, List.length_cons, List.length_nil]; exact ⟨_, rfl, (by first | with_reducible assumption | exact krg _ | exact Keep.al (krg _) _), fun _ _ => rfl⟩)
                        · (obtain ⟨d1, d2⟩ := hd; subst d1; subst d2; clear hs; simp only [fillG, List.set_cons_zero, List.set_cons_succ]; refine want_n rfl ?_; go_wp2_with (first | fail); simp only [DoneG, fillG, List.set_cons_zero, List.set_cons_succ, relG, eqG, eqG1, eqG2, eqG3, gdG, gdG1, gnG, gnG1, List.getD_cons_zero, List.getD_cons_succ, List.getElem?_cons_succ, List.getElem?_cons_zero, Option.map_some, Option.getD_some, valsG, List.map_cons, List.map_nil, List.length_cons, List.length_nil]; exact ⟨_, rfl, (by first | with_reducible assumption | exact krg _ | exact Keep.al (krg _) _), fun _ _ => rfl⟩)
                        · (have d3 := hd; clear hd; subst d3; clear hs; simp only [fillG, List.set_cons_zero, List.set_cons_succ]; have hKW := Keep.tr (Keep.dr (Keep.rf _)) (hE rfl); have zA := Keep.cell hKW zA; have zL := Keep.cell hKW zL; have zW := Keep.cell hKW zW; have zr0 := Keep.cell hKW zr0; have zr1 := Keep.cell hKW zr1; refine want_n rfl ?_; go_wp2_with (first | fail); simp only [DoneG, fillG, List.set_cons_zero, List.set_cons_succ, relG, eqG, eqG1, eqG2, eqG3, gdG, gdG1, gnG, gnG1, List.getD_cons_zero, List.getD_cons_succ, List.getElem?_cons_succ, List.getElem?_cons_zero, Option.map_some, Option.getD_some, valsG, List.map_cons, List.map_nil, List.length_cons, List.length_nil]; exact ⟨_, rfl, (by first | with_reducible assumption | exact krg _ | exact Keep.al (krg _) _), fun _ _ => rfl⟩)
                        · ((try clear hd); clear hs; simp only [fillG, List.set_cons_zero, List.set_cons_succ]; refine want_n rfl ?_; go_wp2_with (first | fail); simp only [DoneG, fillG, List.set_cons_zero, List.set_cons_succ, relG, eqG, eqG1, eqG2, eqG3, gdG, gdG1, gnG, gnG1, List.getD_cons_zero, List.getD_cons_succ, List.getElem?_cons_succ, List.getElem?_cons_zero, Option.map_some, Option.getD_some, valsG, List.map_cons, List.map_nil, List.length_cons, List.length_nil]; exact ⟨_, rfl, (by first | with_reducible assumption | exact krg _ | exact Keep.al (krg _) _), fun _ _ => rfl⟩)
                        · ((try clear hd); clear hs; simp only [fillG, List.set_cons_zero, List.set_cons_succ]; refine want_n rfl ?_; go_wp2_with (first | fail); simp only [DoneG, fillG, List.set_cons_zero, List.set_cons_succ, relG, eqG, eqG1, eqG2, eqG3, gdG, gdG1, gnG, gnG1, List.getD_cons_zero, List.getD_cons_succ, List.getElem?_cons_succ, List.getElem?_cons_zero, Option.map_some, Option.getD_some, valsG, List.map_cons, List.map_nil, List.length_cons, List.length_nil]; exact ⟨_, rfl, (by first | with_reducible assumption | exact krg _ | exact Keep.al (krg _) _), fun _ _ => rfl⟩)
                        · ((try clear hd); clear hs; simp only [fillG, List.set_cons_zero, List.set_cons_succ]; have hKW := Keep.tr (Keep.dr (Keep.rf _)) (hE rfl); have zA := Keep.cell hKW zA; have zL := Keep.cell hKW zL; have zW := Keep.cell hKW zW; have zr0 := Keep.cell hKW zr0; have zr1 := Keep.cell hKW zr1; refine want_n rfl ?_; go_wp2_with (first | fail); simp only [DoneG, fillG, List.set_cons_zero, List.set_cons_succ, relG, eqG, eqG1, eqG2, eqG3, gdG, gdG1, gnG, gnG1, List.getD_cons_zero, List.getD_cons_succ, List.getElem?_cons_succ, List.getElem?_cons_zero, Option.map_some, Option.getD_some, valsG, List.map_cons, List.map_nil, List.length_cons, List.length_nil]; exact ⟨_, rfl, (by first | with_reducible assumption | exact krg _ | exact Keep.al (krg _) _), fun _ _ => rfl⟩)
                        · (obtain ⟨d6, d7⟩ := hd; subst d6; subst d7; clear hs; simp only [fillG, List.set_cons_zero, List.set_cons_succ]; have hKW := Keep.tr (Keep.dr (Keep.rf _)) (hE rfl); have zA := Keep.cell hKW zA; have zL := Keep.cell hKW zL; have zW := Keep.cell hKW zW; have zr0 := Keep.cell hKW zr0; have zr1 := Keep.cell hKW zr1; refine want_n rfl ?_; go_wp2_with (first | (go_at_call 31; go_loud (refine (wordClo _ (x1, x2) lb _ ws zL (own_is (own_keep HROW.out hKW)) HRO.out).mono ?_); rintro e w' ⟨rfl, hk8⟩) | fail); simp only [DoneG, fillG, List.set_cons_zero, List.set_cons_succ, relG, eqG, eqG1, eqG2, eqG3, gdG, gdG1, gnG, gnG1, List.getD_cons_zero, List.getD_cons_succ, List.getElem?_cons_succ, List.getElem?_cons_zero, Option.map_some, Option.getD_some, valsG, List.map_cons, List.map_nil, List.length_cons, List.length_nil]; exact ⟨_, rfl, (by first | with_reducible assumption | exact krg _ | exact Keep.al (krg _) _), fun _ _ => rfl⟩)
                      (intro us W8 h9 hW hE hA hl9; obtain ⟨u0, u1, u2, u3, u4, u5, u6, u7, u8, u9, rfl⟩ := rog 10 h9 rfl; clear h9; clear hl9; simp only [AllG, AtG, and_true, relG, eqG, eqG1, eqG2, eqG3, gdG, gdG1, gnG, gnG1, List.getD_cons_zero, List.getD_cons_succ, List.getElem?_cons_succ, List.getElem?_cons_zero, Option.map_some, Option.getD_some, valsG, List.map_cons, List.map_nil, List.length_cons, List.length_nil] at hA; obtain ⟨d0, d4, d5, d8⟩ := hA; subst d0; subst d4; subst d5; subst d8; simp only [fillG, List.set_cons_zero, List.set_cons_succ]; have k8 := Keep.tr (Keep.dr (Keep.rf _)) hW; clear hW hE; refine want_n rfl ?_)
                      have HRS := hide (HRP.out.keep k8)
                      have HK8 := hide k8
                      clear zA zL zW zr0 zr1 k8
                      go_wp2_with fail
                      refine (heapSet _ HRS.out a haw (k : Int) _ HVW.out).mono ?_
                      intro e w9 hS
                      obtain ⟨rfl, r9, x9⟩ := hS.all HRS.out
                      have HZ := hide (And.intro r9 ((HF8.out.tr (HK8.out.frm _)).tr x9.1))
                      clear r9 x9 hS
                      generalize putE Hk a (k : Int) (Em.wordG ws (x1, x2)) = pe at *
                      obtain ⟨pb, pH⟩ := pe
                      simp only at HZ HKN ⊢
                      go_wp2_with fail
                      go_roundw
                      case rel => exact ⟨k + 1, pH, by omega, by go_num, by rw [HGA.out]; exact HKN.out, HZ.out.1, HZ.out.2⟩
                      case measure => simp [intOf]; omega
                    · have hltki : ¬ (k : Int) < (b.kids.length : Int) := by omega
                      have hke : Em.setK ws (ws.getD i 0) 0 b.kids Hc = Hk := by
                        rw [HSK.out, List.drop_of_length_le (by omega)]
                        rfl
                      have HSN2 := hide (show Em.setB ws 0 bs H' = Em.setB ws (i + 1) (bs.drop (i + 1)) Hk from by rw [HSN.out, hke])
                      clear hke hltk HKS HKAV
                      go_wp2_with fail
                      go_roundw
                      case rel => exact ⟨i + 1, Hk, by omega, by go_num, HSN2.out, HREP.out, hF5⟩
                      case measure => simp [intOf]; omega
                · have hlti2 : ¬ (i : Int) < (bs.length : Int) := by omega
                  have hse : Em.setB ws 0 bs H' = Hc := by
                    rw [HSET.out, List.drop_of_length_le (by omega)]
                    rfl
                  have HO3 := hide (show oo = (Em.wordG ws (g1, g2), 0, Hc) from by rw [HO2.out, hse])
                  have hrow := HF.out.own HBX.out.row fun q e hq => HBX.out.out q e hq
                  have zL : wr.cell? ⟨lb, 0, none⟩ = some (.slice lA ws.length lc) := top_cells (HF.out.heap HLS.out HBX.out.box) 0
                  have hB9 := HF.out.heap HBS.out HB5.out
                  have y0 := top_cells hB9 0
                  have y1 := top_cells hB9 1
                  simp only [List.getElem?_toArray, List.getElem?_cons_succ, List.getElem?_cons_zero] at y0 y1
                  have HW := hide (wordClo wr (g1, g2) lb _ ws zL (own_is hrow) (HWL.out ▸ HALL2.out.2))
                  clear hse hlt hrow hB9 zL
                  go_wp2_with fail
                  refine HW.out.mono ?_
                  rintro e w9 ⟨rfl, k9⟩
                  have HK9 := hide k9
                  clear k9
                  generalize Em.wordG ws (g1, g2) = y at *
                  go_wp2_with fail
                  go_ret2
                  rw [HO3.out]
                  refine ⟨rfl, S', HREP.out.keep HK9.out, HFW2.out.tr (HK9.out.frm _), fun q hq => ?_⟩
                  rcases HBX.out.mem q hq with e | e
                  · exact .inl e
                  · exact .inr (by omega)
end Go.Proofs.YtoehaijmkmdggaaGreat
namespace Go.Proofs.YtoehaijmkmdggaaGreat
open Go.RowKit Go.Maps
set_option linter.unusedVariables false
set_option linter.unusedSimpArgs false
set_option maxRecDepth 100000
def BldB (w : World) (p sz : Nat) (S : List Nat) (o : Int × Int × Em.Hp) (e : Ending) (w' : World) : Prop :=
  e = .returned (.tuple #[.int .i64 o.1, .int .i64 o.2.1]) ∧ ∃ S', RRep w' p S' sz o.2.2 ∧ Ext w w' S S'
def HalfR (B : World) (p m : Nat) (S : List Nat) (H : Em.Hp) (W : World) : Prop := ∃ S', RRep W p S' m H ∧ Ext B W S S'
theorem HalfR.keep {B W W' : World} {p m : Nat} {S : List Nat} {H : Em.Hp} (h : HalfR B p m S H W) (k : Keep W W') : HalfR B p m S H W' := by
  obtain ⟨S', h1, h2⟩ := h
  exact ⟨S', h1.keep k, h2.keep k⟩
/-- The words so far. -/
structure LRow (wS : World) (S : List Nat) (W : World) (p sz : Nat) (ws : List Int) (H : Em.Hp) (S' : List Nat) (lv : Value) : Prop where
  rep : RRep W p S' sz H
  mem : ∀ k ∈ S', k ∈ S ∨ wS.heap.size ≤ k
  row : W.ownsRow wS.heap.size 32 1 lv ws.length (ws.map (Value.int .i64))
  out : ∀ k, lv.ownBlock = some k → k ∉ S'
  wf : ∀ x ∈ ws, (Lit.int .i64 x).wf = true
  frm : Frm (fun k => k ∈ S) wS W
theorem LRow.step {wS W Wa W2 W3 w3 : World} {S S' S2 : List Nat} {p sz : Nat} {ws : List Int} {H H2 : Em.Hp} {lv v3 : Value} {an : Int} (h : LRow wS S W p sz ws H S' lv)
    (ka : Keep W Wa) (x : Ext Wa W2 S' S2) (r : RRep W2 p S2 sz H2) (k3 : Keep W2 W3) (ho : w3.ownsRow wS.heap.size 32 1 v3 (ws ++ [an]).length ((ws ++ [an]).map (Value.int .i64))) (hg : W3.grownBy w3 lv.ownBlock) (hat : v3.ownBlock = lv.ownBlock ∨ v3.ownBlock = some W3.heap.size) (hw : (Lit.int .i64 an).wf = true) :
    LRow wS S w3 p sz (ws ++ [an]) H2 S2 v3 := by
  have hlt := World.ownsRow.lt h.row
  have hWs := h.frm.size
  have hWa := ka.size
  have hW2 := x.1.size
  have hW3 := k3.size
  have hS2 : ∀ k, lv.ownBlock = some k → k ∉ S2 := fun k e hk => by
    rcases x.2 k hk with e2 | e2
    · exact h.out k e e2
    · have := (hlt k e).2; omega
  have F3 : Frm (fun k => lv.ownBlock = some k) W3 w3 := Frm.of_grown hg fun _ e => e
  refine { rep := ?_, mem := fun k hk => ?_, row := ho, out := fun k e hk => ?_, wf := fun y hy => ?_, frm := ?_ }
  · exact (r.keep k3).frm F3 fun i hi e => hS2 i e hi
  · rcases x.2 k hk with e | e
    · exact h.mem k e
    · exact .inr (by omega)
  · rcases hat with e2 | e2
    · exact hS2 k (by rw [← e2, e]) hk
    · rw [e2] at e
      injection e with e
      have := r.lt k hk
      omega
  · rcases List.mem_append.1 hy with hy | hy
    · exact h.wf y hy
    · rw [List.mem_singleton.1 hy]; exact hw
  · refine (((h.frm.trn (ka.frm fun _ => False) fun _ h => h.elim).trn x.1 fun i hi => ?_).trn (k3.frm fun _ => False) fun _ h => h.elim).trn F3 fun i hi => .inr (hlt i hi).1
    rcases h.mem i hi with e | e
    · exact .inl e
    · exact .inr e
theorem RRep.sz_cell {w : World} {p sz : Nat} {S : List Nat} {H : Em.Hp} (h : RRep w p S sz H) : w.cell? ⟨p, 3, none⟩ = some (.int .i64 (sz : Int)) := by
  obtain ⟨a, t, f, fv, rfl, h, _⟩ := h
  exact top_cells h.top 3
set_option maxHeartbeats 16000000 in
theorem refBuild {p sz : Nat} {S : List Nat} {H : Em.Hp} (w : World) (h : RRep w p S sz H) (gv : Value) (g : Em.Gr) (hgs : GrS S w gv g) (hsm : Em.needN g.blocks ≤ 100000) :
    Calls Tryz.prog 19 #[.pointer (some ⟨p, 0, none⟩), gv] w (BldB w p sz S (Em.buildG sz H g)) := by
  obtain ⟨u, rfl, hrw, hsl, hav⟩ := id hgs
  obtain ⟨uA, uc, rfl, hlc, hcm, _⟩ := id hsl
  obtain ⟨⟨g1, g2⟩, bs⟩ := g
  simp only at hrw hlc hsm ⊢
  have HAV := hide hav
  have HSL := hide (show ∀ W, Frm (· ∈ S) w W → Sl 3 (KBkS S) W (.slice uA bs.length uc) bs from fun W F => hsl.frm hav F fun _ _ h => h.frm F)
  have HR := hide h
  have hSlt := hide h.lt
  have hnl := need_len bs
  have hB := heap_alloc_new w (.cells #[.bool g1, .int .i64 g2, .slice uA bs.length uc] 62)
  have K1 : Keep w (w.alloc (.cells #[.bool g1, .int .i64 g2, .slice uA bs.length uc] 62)) := (by repeat (first | exact Keep.rf _ | assumption | apply Keep.al | apply Keep.dr | apply Keep.dn))
  have hs1 : w.heap.size + 1 = (w.alloc (.cells #[.bool g1, .int .i64 g2, .slice uA bs.length uc] 62)).heap.size := by simp
  have b0 := top_cells hB 0
  have b1 := top_cells hB 1
  have b2 := top_cells hB 2
  simp only [List.getElem?_toArray, List.getElem?_cons_succ, List.getElem?_cons_zero] at b0 b1 b2
  have HK1 := hide K1
  have HB := hide hB
  have HIS := hide (fun (W : World) (F : Frm (· ∈ S) w W) => refIs18 W _ ⟨(g1, g2), bs⟩ (hgs.frm F).gr)
  have HWD := hide (fun (W : World) (F : Frm (· ∈ S) w W) => refWords18 W _ ⟨(g1, g2), bs⟩ (hgs.frm F).gr hsm)
  have HBD := hide (show Em.buildG sz H ⟨(g1, g2), bs⟩ = if Em.isG ⟨(g1, g2), bs⟩ = true then if (sz : Int) - Em.used H < (Em.needN bs : Int) then (0, 8, H) else (Em.wordG (Em.putsB sz bs [] H).1 (g1, g2), 0, Em.setB (Em.putsB sz bs [] H).1 0 bs (Em.putsB sz bs [] H).2) else (0, 1, H) from rfl)
  have HALL := hide (fun (h : Em.isG ⟨(g1, g2), bs⟩ = true) => Em.isG_all h)
  clear hgs hsl hav h K1 hB
  generalize hOO : Em.buildG sz H ⟨(g1, g2), bs⟩ = oo at *
  clear hOO
  go_enter Tryz.func19, Tryz.ntmps19
  go_wp2_with fail
  generalize World.alloc w _ = w1 at *
  refine (HIS.out w1 (HK1.out.frm _)).mono ?_
  rintro e w2 ⟨rfl, k2⟩
  replace b0 := Keep.cell k2 b0
  replace b1 := Keep.cell k2 b1
  replace b2 := Keep.cell k2 b2
  replace HB := hide ((k2.frm fun _ => False).heap (fun h => h) HB.out)
  have HK2 := hide (Keep.tr HK1.out k2)
  have hs2 : w.heap.size + 1 ≤ w2.heap.size := by rw [hs1]; exact k2.size
  clear k2 HK1 hs1 HIS
  generalize hig : Em.isG ⟨(g1, g2), bs⟩ = ig at *
  cases ig with
  | false =>
    have HO := hide (show oo = (0, 1, H) from by rw [HBD.out]; rfl)
    clear HBD HALL hig
    go_wp2_with fail
    go_ret2
    rw [HO.out]
    exact ⟨rfl, S, HR.out.keep HK2.out, (Ext.rf w S).keep HK2.out⟩
  | true =>
    have hall := HALL.out rfl
    have HALL2 := hide hall
    clear HALL hig hall
    simp only [if_pos] at HBD
    have HSM := hide (fun (b : Em.Blk) (hb : b ∈ bs) => need_le hb)
    generalize hN : Em.needN bs = N at *
    have HN := hide hN
    have HRr := hide (HR.out.keep HK2.out)
    have HUS := hide HR.out.smallR
    have zp := HRr.out.sz_cell
    clear hN
    go_wp2_with fail
    apply region_all (by kernel_rfl) Keep Keep krg ktg krg ktg (fun _ _ h => h) [some 15, some 16, some 17, some 18, some 19, some 20, some 21, some 22, some 23, some 24] [eqG _ , eqG _ , eqG _ , eqG _ , eqG _ , eqG _ , eqG _ , eqG _ , eqG _ , eqG _ ] [⟨[], [], true, false, false⟩, ⟨[0], [], true, false, false⟩, ⟨[], [], true, false, false⟩, ⟨[2], [], true, false, false⟩, ⟨[3], [], true, false, false⟩, ⟨[4], [], true, false, false⟩, ⟨[], [], true, false, false⟩, ⟨[6], [], true, false, false⟩, ⟨[5, 7], [], true, false, false⟩, ⟨[1, 8], [], true, false, false⟩] [9] (by kernel_rfl) (by kernel_rfl) 
    · refine ⟨?_, ?_, ?_, ?_, ?_, ?_, ?_, ?_, ?_, ?_, trivial⟩ <;> (intro us W h9 hW hE hd hs K hK; obtain ⟨u0, u1, u2, u3, u4, u5, u6, u7, u8, u9, rfl⟩ := rog 10 h9 rfl; clear h9; try simp only [DepG, AtG, and_true, relG, eqG, eqG1, eqG2, eqG3, gdG, gdG1, gnG, gnG1, List.getD_cons_zero, List.getD_cons_succ, List.getElem?_cons_succ, List.getElem?_cons_zero, Option.map_some, Option.getD_some, valsG, List.map_cons, List.map_nil, List.length_cons, List.length_nil] at hd)
      · ((try clear hd); clear hs; simp only [fillG, List.set_cons_zero, List.set_cons_succ]; have hKW := Keep.tr (Keep.dr (Keep.rf _)) (hE rfl); have b0 := Keep.cell hKW b0; have b1 := Keep.cell hKW b1; have b2 := Keep.cell hKW b2; have zp := Keep.cell hKW zp; refine want_n rfl ?_; go_wp2_with (first | fail); simp only [DoneG, fillG, List.set_cons_zero, List.set_cons_succ, relG, eqG, eqG1, eqG2, eqG3, gdG, gdG1, gnG, gnG1, List.getD_cons_zero, List.getD_cons_succ, List.getElem?_cons_succ, List.getElem?_cons_zero, Option.map_some, Option.getD_some, valsG, List.map_cons, List.map_nil, List.length_cons, List.length_nil]; exact ⟨_, rfl, (by first | with_reducible assumption | exact krg _ | exact Keep.al (krg _) _), fun _ _ => rfl⟩)
      · (have d0 := hd; clear hd; subst d0; clear hs; simp only [fillG, List.set_cons_zero, List.set_cons_succ]; have hKW := Keep.tr (Keep.dr (Keep.rf _)) (hE rfl); have b0 := Keep.cell hKW b0; have b1 := Keep.cell hKW b1; have b2 := Keep.cell hKW b2; have zp := Keep.cell hKW zp; refine want_n rfl ?_; go_wp2_with (first | (go_at_call 39; refine (HWD.out _ ((Keep.tr HK2.out hKW).frm _)).mono ?_; rintro e w' ⟨rfl, hk8⟩) | fail); simp only [DoneG, fillG, List.set_cons_zero, List.set_cons_succ, relG, eqG, eqG1, eqG2, eqG3, gdG, gdG1, gnG, gnG1, List.getD_cons_zero, List.getD_cons_succ, List.getElem?_cons_succ, List.getElem?_cons_zero, Option.map_some, Option.getD_some, valsG, List.map_cons, List.map_nil, List.length_cons, List.length_nil]; exact ⟨_, rfl, (by first | with_reducible assumption | exact krg _ | exact Keep.al (krg _) _), fun _ _ => rfl⟩)
      · ((try clear hd); clear hs; simp only [fillG, List.set_cons_zero, List.set_cons_succ]; refine want_n rfl ?_; go_wp2_with (first | fail); simp only [DoneG, fillG, List.set_cons_zero, List.set_cons_succ, relG, eqG, eqG1, eqG2, eqG3, gdG, gdG1, gnG, gnG1, List.getD_cons_zero, List.getD_cons_succ, List.getElem?_cons_succ, List.getElem?_cons_zero, Option.map_some, Option.getD_some, valsG, List.map_cons, List.map_nil, List.length_cons, List.length_nil]; exact ⟨_, rfl, (by first | with_reducible assumption | exact krg _ | exact Keep.al (krg _) _), fun _ _ => rfl⟩)
      · (have d2 := hd; clear hd; subst d2; clear hs; simp only [fillG, List.set_cons_zero, List.set_cons_succ]; refine want_n rfl ?_; go_wp2_with (first | fail); simp only [DoneG, fillG, List.set_cons_zero, List.set_cons_succ, relG, eqG, eqG1, eqG2, eqG3, gdG, gdG1, gnG, gnG1, List.getD_cons_zero, List.getD_cons_succ, List.getElem?_cons_succ, List.getElem?_cons_zero, Option.map_some, Option.getD_some, valsG, List.map_cons, List.map_nil, List.length_cons, List.length_nil]; exact ⟨_, rfl, (by first | with_reducible assumption | exact krg _ | exact Keep.al (krg _) _), fun _ _ => rfl⟩)
      · (have d3 := hd; clear hd; subst d3; clear hs; simp only [fillG, List.set_cons_zero, List.set_cons_succ]; refine want_n rfl ?_; go_wp2_with (first | fail); simp only [DoneG, fillG, List.set_cons_zero, List.set_cons_succ, relG, eqG, eqG1, eqG2, eqG3, gdG, gdG1, gnG, gnG1, List.getD_cons_zero, List.getD_cons_succ, List.getElem?_cons_succ, List.getElem?_cons_zero, Option.map_some, Option.getD_some, valsG, List.map_cons, List.map_nil, List.length_cons, List.length_nil]; exact ⟨_, rfl, (by first | with_reducible assumption | exact krg _ | exact Keep.al (krg _) _), fun _ _ => rfl⟩)
      · (have d4 := hd; clear hd; subst d4; clear hs; simp only [fillG, List.set_cons_zero, List.set_cons_succ]; have hKW := Keep.tr (Keep.dr (Keep.rf _)) (hE rfl); have b0 := Keep.cell hKW b0; have b1 := Keep.cell hKW b1; have b2 := Keep.cell hKW b2; have zp := Keep.cell hKW zp; refine want_n rfl ?_; go_wp2_with (first | fail); simp only [DoneG, fillG, List.set_cons_zero, List.set_cons_succ, relG, eqG, eqG1, eqG2, eqG3, gdG, gdG1, gnG, gnG1, List.getD_cons_zero, List.getD_cons_succ, List.getElem?_cons_succ, List.getElem?_cons_zero, Option.map_some, Option.getD_some, valsG, List.map_cons, List.map_nil, List.length_cons, List.length_nil]; exact ⟨_, rfl, (by first | with_reducible assumption | exact krg _ | exact Keep.al (krg _) _), fun _ _ => rfl⟩)
      · ((try clear hd); clear hs; simp only [fillG, List.set_cons_zero, List.set_cons_succ]; refine want_n rfl ?_; go_wp2_with (first | fail); simp only [DoneG, fillG, List.set_cons_zero, List.set_cons_succ, relG, eqG, eqG1, eqG2, eqG3, gdG, gdG1, gnG, gnG1, List.getD_cons_zero, List.getD_cons_succ, List.getElem?_cons_succ, List.getElem?_cons_zero, Option.map_some, Option.getD_some, valsG, List.map_cons, List.map_nil, List.length_cons, List.length_nil]; exact ⟨_, rfl, (by first | with_reducible assumption | exact krg _ | exact Keep.al (krg _) _), fun _ _ => rfl⟩)
      · (have d6 := hd; clear hd; subst d6; clear hs; simp only [fillG, List.set_cons_zero, List.set_cons_succ]; have hKW := Keep.tr (Keep.dr (Keep.rf _)) (hE rfl); have b0 := Keep.cell hKW b0; have b1 := Keep.cell hKW b1; have b2 := Keep.cell hKW b2; have zp := Keep.cell hKW zp; refine want_n rfl ?_; go_wp2_with (first | (go_at_call 13; refine (refUsed _ (HRr.out.keep hKW)).mono ?_; rintro e w' ⟨rfl, rfl⟩) | fail); simp only [DoneG, fillG, List.set_cons_zero, List.set_cons_succ, relG, eqG, eqG1, eqG2, eqG3, gdG, gdG1, gnG, gnG1, List.getD_cons_zero, List.getD_cons_succ, List.getElem?_cons_succ, List.getElem?_cons_zero, Option.map_some, Option.getD_some, valsG, List.map_cons, List.map_nil, List.length_cons, List.length_nil]; exact ⟨_, rfl, (by first | with_reducible assumption | exact krg _ | exact Keep.al (krg _) _), fun _ _ => rfl⟩)
      · (obtain ⟨d5, d7⟩ := hd; subst d5; subst d7; clear hs; simp only [fillG, List.set_cons_zero, List.set_cons_succ]; refine want_n rfl ?_; go_wp2_with (first | fail); simp only [DoneG, fillG, List.set_cons_zero, List.set_cons_succ, relG, eqG, eqG1, eqG2, eqG3, gdG, gdG1, gnG, gnG1, List.getD_cons_zero, List.getD_cons_succ, List.getElem?_cons_succ, List.getElem?_cons_zero, Option.map_some, Option.getD_some, valsG, List.map_cons, List.map_nil, List.length_cons, List.length_nil]; exact ⟨_, rfl, (by first | with_reducible assumption | exact krg _ | exact Keep.al (krg _) _), fun _ _ => rfl⟩)
      · (obtain ⟨d1, d8⟩ := hd; subst d1; subst d8; clear hs; simp only [fillG, List.set_cons_zero, List.set_cons_succ]; refine want_n rfl ?_; go_wp2_with (first | fail); simp only [DoneG, fillG, List.set_cons_zero, List.set_cons_succ, relG, eqG, eqG1, eqG2, eqG3, gdG, gdG1, gnG, gnG1, List.getD_cons_zero, List.getD_cons_succ, List.getElem?_cons_succ, List.getElem?_cons_zero, Option.map_some, Option.getD_some, valsG, List.map_cons, List.map_nil, List.length_cons, List.length_nil]; exact ⟨_, rfl, (by first | with_reducible assumption | exact krg _ | exact Keep.al (krg _) _), fun _ _ => rfl⟩)
    (intro us W3 h9 hW hE hA; obtain ⟨u0, u1, u2, u3, u4, u5, u6, u7, u8, u9, rfl⟩ := rog 10 h9 rfl; clear h9; simp only [AllG, AtG, and_true, relG, eqG, eqG1, eqG2, eqG3, gdG, gdG1, gnG, gnG1, List.getD_cons_zero, List.getD_cons_succ, List.getElem?_cons_succ, List.getElem?_cons_zero, Option.map_some, Option.getD_some, valsG, List.map_cons, List.map_nil, List.length_cons, List.length_nil] at hA; have d9 := hA; clear hA; subst d9; simp only [fillG, List.set_cons_zero, List.set_cons_succ]; have k3 := Keep.tr (Keep.dr (Keep.rf _)) hW; clear hW hE)
    have hwz : wrap64 ((sz : Int) - (Em.used H : Int)) = (sz : Int) - (Em.used H : Int) := by
      have h1 := HUS.out.1
      have h2 := HUS.out.2
      simp only [wrap64]
      omega
    rw [hwz]
    clear hwz
    have HK3 := hide (Keep.tr HK2.out k3)
    have HB3 := hide ((k3.frm fun _ => False).heap (fun h => h) HB.out)
    have hs3 : w.heap.size + 1 ≤ W3.heap.size := Nat.le_trans hs2 k3.size
    clear HB HK2 hs2 HRr b0 b1 b2 zp k3
    by_cases hbig : (sz : Int) - (Em.used H : Int) < (N : Int)
    · have HO := hide (show oo = (0, 8, H) from by rw [HBD.out, if_pos hbig])
      rw [decide_eq_true hbig]
      clear HBD hbig
      go_wp2_with fail
      go_ret2
      rw [HO.out]
      exact ⟨rfl, S, HR.out.keep HK3.out, (Ext.rf w S).keep HK3.out⟩
    · have HO := hide (show oo = (Em.wordG (Em.putsB sz bs [] H).1 (g1, g2), 0, Em.setB (Em.putsB sz bs [] H).1 0 bs (Em.putsB sz bs [] H).2) from by rw [HBD.out, if_neg hbig])
      rw [decide_eq_false hbig]
      have hlen32 : bs.length ≤ 100000 := by omega
      have HT0 := hide (show LRow W3 S W3 p sz [] H S (.slice none 0 0) from ⟨HR.out.keep HK3.out, fun k hk => .inl hk, ⟨by simp, .inl ⟨rfl, rfl⟩⟩, by simp [Value.ownBlock], by simp, Frm.rf _ _⟩)
      clear HBD hbig
      go_wp2_with fail
      go_loopw [6, 7] (fun lv i W => ∃ (ws : List Int) (H' : Em.Hp) (S' : List Nat), ws.length ≤ bs.length ∧ i = .int .i64 (ws.length : Int) ∧ Em.putsB sz bs [] H = Em.putsB sz (bs.drop ws.length) ws H' ∧ LRow W3 S W p sz ws H' S' lv) (fun _ i _ => bs.length - (intOf i).toNat)
      case atStart => exact ⟨[], H, S, Nat.zero_le _, rfl, rfl, HT0.out⟩
      case round =>
        obtain ⟨ws, H', S', hj, rfl, hput, hbx⟩ := hrel
        clear HT0
        obtain ⟨lA, lc, rfl⟩ := own_slice hbx.row
        have hFw : Frm (· ∈ S) w wr := (HK3.out.frm _).trn hbx.frm fun i hi => .inl hi
        have hBr := hbx.frm.heap (fun e => by have := hSlt.out _ e; omega) HB3.out
        have hBS : w.heap.size ∉ S' := fun e => by
          rcases hbx.mem _ e with e | e
          · have := hSlt.out _ e; omega
          · omega
        have hr := HSL.out wr hFw
        obtain ⟨_, _, e, _, _, hr⟩ := hr
        cases e
        have HBX := hide hbx
        have HFW := hide hFw
        have HPUT := hide hput
        have HBR := hide hBr
        have HBS := hide hBS
        have hWr := hbx.frm.size
        have y2 := top_cells hBr 2
        simp only [List.getElem?_toArray, List.getElem?_cons_succ, List.getElem?_cons_zero] at y2
        clear hbx hFw hput hBr hBS
        by_cases hlt : ws.length < bs.length
        · have hlti : (ws.length : Int) < (bs.length : Int) := by omega
          obtain ⟨ad, rfl, hcell⟩ := hr (by omega)
          obtain ⟨cs, hcs, hcl, hkt⟩ := hcell ws.length hlt
          have hmem := hide (List.getElem_mem hlt)
          have hdr := hide (List.drop_eq_getElem_cons hlt)
          generalize bs[ws.length] = b at *
          have hsmb := HSM.out b hmem.out
          obtain ⟨kv, rfl, hbw, hks, _⟩ := hkt
          obtain ⟨kA, kc, rfl, kl, km, _⟩ := hks
          have q0 := hcl 0 _ rfl
          rw [Nat.add_zero] at q0
          have q1 := cell_off (hcl 1 _ rfl)
          have q2 := cell_off (hcl 2 _ rfl)
          have HPN := hide (show Em.putsB sz bs [] H = Em.putsB sz (bs.drop (ws.length + 1)) (ws ++ [(allocE sz H' b.tag (Em.fields0 b)).1]) (allocE sz H' b.tag (Em.fields0 b)).2.2 from by rw [HPUT.out, hdr.out]; rfl)
          have HAW := hide (allocE_wf (tag := b.tag) (fs := Em.fields0 b) (by have h1 := HBX.out.rep.smallR; omega : Em.used H' ≤ 20000) (sz := sz))
          clear hcell hcl hr hcs
          have hnb := heap_alloc_new wr (.cells #[.int .i64 b.tag, .string (str b.str), .slice kA b.kids.length kc] 72)
          have ka : Keep wr (wr.alloc (.cells #[.int .i64 b.tag, .string (str b.str), .slice kA b.kids.length kc] 72)) := (by repeat (first | exact Keep.rf _ | assumption | apply Keep.al | apply Keep.dr | apply Keep.dn))
          have z0 := top_cells hnb 0
          have z1 := top_cells hnb 1
          have z2 := top_cells hnb 2
          simp only [List.getElem?_toArray, List.getElem?_cons_succ, List.getElem?_cons_zero] at z0 z1 z2
          have KA := hide ka
          clear hnb ka
          by_cases htag : b.tag = 1
          · have htb : (b.tag == 1) = true := by simp [htag]
            rw [htag] at z0 z1 z2
            have KA1 := KA
            rw [htag] at KA1
            go_wp2_with fail
            refine (refPut18 _ (HBX.out.rep.keep KA1.out) b.str (by omega)).mono ?_
            rintro e w2' ⟨rfl, S2, r2, x2⟩
            rw [show wordsOf b.str = Em.fields0 b from by unfold Em.fields0; rw [if_pos htag]] at r2 ⊢
            rw [show allocE sz H' 1 (Em.fields0 b) = allocE sz H' b.tag (Em.fields0 b) from by rw [htag]] at r2 ⊢
            generalize allocE sz H' b.tag (Em.fields0 b) = ae at *
            obtain ⟨an, ab, aH⟩ := ae
            simp only at r2 HAW HPN ⊢
            have hrow2 := x2.1.own (own_keep HBX.out.row KA1.out) fun k e hk => HBX.out.out k e hk
            have hsz2 : W3.heap.size ≤ w2'.heap.size := Nat.le_trans hWr (Nat.le_trans KA1.out.size x2.1.size)
            have HR2 := hide r2
            have HX2 := hide x2
            have HROW2 := hide hrow2
            clear r2 x2 hrow2 z0 z1 z2 q0 q1 q2
            go_wp2_with (first
              | (at_builtin; go_loud (refine appI ws [an] rfl (.tmp 58) (.tmp 60) _ _ _ _ Tryz.underlying31 infoW rfl (by omega) rfl W3.heap.size _ rfl (own_keep HROW2.out (by repeat (first | exact Keep.rf _ | assumption | apply Keep.al | apply Keep.dr | apply Keep.dn))) _ rfl (Cs.lit _ rfl rfl rfl (by simp) (by simp)) (by rw [size_alloc]; exact Nat.le_trans hsz2 (Nat.le_succ _)) (by simp; omega) ?_); intro v3 w3 ho3 hg3 hat3; have HO3 := hide ho3; have HG3 := hide hg3; have HAT := hide hat3; obtain ⟨A3, c3, e3⟩ := own_slice ho3; subst e3; clear ho3 hg3 hat3)
              | fail)
            have HNX := hide (HBX.out.step KA1.out HX2.out HR2.out (Keep.al (Keep.rf w2') (.cells #[.int .i64 an] 32)) HO3.out HG3.out HAT.out HAW.out)
            go_roundw
            case rel => exact ⟨ws ++ [an], aH, S2, by simp; omega, by simp, by simpa using HPN.out, by simpa using HNX.out⟩
            case measure => simp [intOf]; omega
          · have htb : (b.tag == 1) = false := by simp [htag]
            have hlr := hide (List.length_replicate (n := b.kids.length) (a := (0 : Int)))
            have HFE := hide (show List.replicate b.kids.length 0 = Em.fields0 b from by unfold Em.fields0; rw [if_neg htag])
            have HREPA := hide (HBX.out.rep.keep KA.out)
            have HLT := hide HREPA.out.lt
            have hbk : b.kids.length ≤ 100000 := by omega
            have HROWA := hide (own_keep HBX.out.row KA.out)
            have KAS := hide KA.out.size
            generalize hae : allocE sz H' b.tag (Em.fields0 b) = ae at *
            obtain ⟨an, ab, aH⟩ := ae
            have HAE := hide hae
            simp only at HAW HPN
            clear hae
            go_wp2_with fail
            clear q0 q1 q2 y2
            generalize World.alloc wr _ = wa at *
            generalize wr.heap.size = nb at *
            apply region_all (by kernel_rfl) Keep AnyW krg ktg anyrf anytr anyk [some 48, some 49, some 50, some 51, some 52, some 53, some 54, some 55, some 47, some 56, some 57, some 9] [eqG _ , eqG _ , eqG _ , eqG _ , eqG _ , eqG _ , fun us W v => ∃ A c, v = .slice A b.kids.length c ∧ W.ownsRow wa.heap.size 32 1 (.slice A b.kids.length c) b.kids.length ((List.replicate b.kids.length (0 : Int)).map (Value.int .i64)), fun us W v => v = .tuple #[.int .i64 an, .bool ab] ∧ HalfR wa p sz S' aH W, eqG _ , eqG _ , eqG _ , eqG _ ] [⟨[], [], true, false, false⟩, ⟨[], [], true, false, false⟩, ⟨[1], [], true, false, false⟩, ⟨[], [], true, false, false⟩, ⟨[3], [], true, false, false⟩, ⟨[4], [], true, false, false⟩, ⟨[5], [], true, false, true⟩, ⟨[0, 2, 6], [], true, true, true⟩, ⟨[7], [], false, false, true⟩, ⟨[7, 8], [], false, false, false⟩, ⟨[7, 8], [], false, false, false⟩, ⟨[7, 9], [], false, false, false⟩] [7, 11] (by kernel_rfl) (by kernel_rfl) 
            · refine ⟨?_, ?_, ?_, ?_, ?_, ?_, ?_, ?_, ?_, ?_, ?_, ?_, trivial⟩ <;> (intro us W h9 hW hE hd hs K hK; obtain ⟨u0, u1, u2, u3, u4, u5, u6, u7, u8, u9, u10, u11, rfl⟩ := rog 12 h9 rfl; clear h9; try simp only [DepG, AtG, and_true, relG, eqG, eqG1, eqG2, eqG3, gdG, gdG1, gnG, gnG1, List.getD_cons_zero, List.getD_cons_succ, List.getElem?_cons_succ, List.getElem?_cons_zero, Option.map_some, Option.getD_some, valsG, List.map_cons, List.map_nil, List.length_cons, List.length_nil] at hd)
              · ((try clear hd); clear hs; simp only [fillG, List.set_cons_zero, List.set_cons_succ]; refine want_n rfl ?_; go_wp2_with (first | fail); simp only [DoneG, fillG, List.set_cons_zero, List.set_cons_succ, relG, eqG, eqG1, eqG2, eqG3, gdG, gdG1, gnG, gnG1, List.getD_cons_zero, List.getD_cons_succ, List.getElem?_cons_succ, List.getElem?_cons_zero, Option.map_some, Option.getD_some, valsG, List.map_cons, List.map_nil, List.length_cons, List.length_nil]; exact ⟨_, rfl, (by first | with_reducible assumption | exact krg _ | exact Keep.al (krg _) _), fun _ _ => rfl⟩)
              · ((try clear hd); clear hs; simp only [fillG, List.set_cons_zero, List.set_cons_succ]; refine want_n rfl ?_; go_wp2_with (first | fail); simp only [DoneG, fillG, List.set_cons_zero, List.set_cons_succ, relG, eqG, eqG1, eqG2, eqG3, gdG, gdG1, gnG, gnG1, List.getD_cons_zero, List.getD_cons_succ, List.getElem?_cons_succ, List.getElem?_cons_zero, Option.map_some, Option.getD_some, valsG, List.map_cons, List.map_nil, List.length_cons, List.length_nil]; exact ⟨_, rfl, (by first | with_reducible assumption | exact krg _ | exact Keep.al (krg _) _), fun _ _ => rfl⟩)
              · (have d1 := hd; clear hd; subst d1; clear hs; simp only [fillG, List.set_cons_zero, List.set_cons_succ]; have hKW := Keep.tr (Keep.dr (Keep.rf _)) (hE rfl); have z0 := Keep.cell hKW z0; have z2 := Keep.cell hKW z2; refine want_n rfl ?_; go_wp2_with (first | fail); simp only [DoneG, fillG, List.set_cons_zero, List.set_cons_succ, relG, eqG, eqG1, eqG2, eqG3, gdG, gdG1, gnG, gnG1, List.getD_cons_zero, List.getD_cons_succ, List.getElem?_cons_succ, List.getElem?_cons_zero, Option.map_some, Option.getD_some, valsG, List.map_cons, List.map_nil, List.length_cons, List.length_nil]; exact ⟨_, rfl, (by first | with_reducible assumption | exact krg _ | exact Keep.al (krg _) _), fun _ _ => rfl⟩)
              · ((try clear hd); clear hs; simp only [fillG, List.set_cons_zero, List.set_cons_succ]; refine want_n rfl ?_; go_wp2_with (first | fail); simp only [DoneG, fillG, List.set_cons_zero, List.set_cons_succ, relG, eqG, eqG1, eqG2, eqG3, gdG, gdG1, gnG, gnG1, List.getD_cons_zero, List.getD_cons_succ, List.getElem?_cons_succ, List.getElem?_cons_zero, Option.map_some, Option.getD_some, valsG, List.map_cons, List.map_nil, List.length_cons, List.length_nil]; exact ⟨_, rfl, (by first | with_reducible assumption | exact krg _ | exact Keep.al (krg _) _), fun _ _ => rfl⟩)
              · (have d3 := hd; clear hd; subst d3; clear hs; simp only [fillG, List.set_cons_zero, List.set_cons_succ]; have hKW := Keep.tr (Keep.dr (Keep.rf _)) (hE rfl); have z0 := Keep.cell hKW z0; have z2 := Keep.cell hKW z2; refine want_n rfl ?_; go_wp2_with (first | fail); simp only [DoneG, fillG, List.set_cons_zero, List.set_cons_succ, relG, eqG, eqG1, eqG2, eqG3, gdG, gdG1, gnG, gnG1, List.getD_cons_zero, List.getD_cons_succ, List.getElem?_cons_succ, List.getElem?_cons_zero, Option.map_some, Option.getD_some, valsG, List.map_cons, List.map_nil, List.length_cons, List.length_nil]; exact ⟨_, rfl, (by first | with_reducible assumption | exact krg _ | exact Keep.al (krg _) _), fun _ _ => rfl⟩)
              · (have d4 := hd; clear hd; subst d4; clear hs; simp only [fillG, List.set_cons_zero, List.set_cons_succ]; have hKW := Keep.tr (Keep.dr (Keep.rf _)) (hE rfl); have z0 := Keep.cell hKW z0; have z2 := Keep.cell hKW z2; refine want_n rfl ?_; go_wp2_with (first | fail); simp only [DoneG, fillG, List.set_cons_zero, List.set_cons_succ, relG, eqG, eqG1, eqG2, eqG3, gdG, gdG1, gnG, gnG1, List.getD_cons_zero, List.getD_cons_succ, List.getElem?_cons_succ, List.getElem?_cons_zero, Option.map_some, Option.getD_some, valsG, List.map_cons, List.map_nil, List.length_cons, List.length_nil]; exact ⟨_, rfl, (by first | with_reducible assumption | exact krg _ | exact Keep.al (krg _) _), fun _ _ => rfl⟩)
              · (have d5 := hd; clear hd; subst d5; clear hs; simp only [fillG, List.set_cons_zero, List.set_cons_succ]; have hKW := Keep.tr (Keep.dr (Keep.rf _)) (hE rfl); have z0 := Keep.cell hKW z0; have z2 := Keep.cell hKW z2; refine want_n rfl ?_; refine wp_mkW (.tmp 53) (.tmp 53) rfl rfl rfl (by omega) ?_; intro w9 ho9 hk8; refine hK _ _ ?_; simp only [DoneG, fillG, List.set_cons_zero, List.set_cons_succ, relG, eqG, eqG1, eqG2, eqG3, gdG, gdG1, gnG, gnG1, List.getD_cons_zero, List.getD_cons_succ, List.getElem?_cons_succ, List.getElem?_cons_zero, Option.map_some, Option.getD_some, valsG, List.map_cons, List.map_nil, List.length_cons, List.length_nil]; exact ⟨_, rfl, (by first | with_reducible assumption | exact krg _ | exact Keep.al (krg _) _), fun W9 hk9 => ⟨_, _, rfl, own_keep (own_lower ho9 (Below.size hKW)) hk9⟩⟩)
              · (obtain ⟨d0, d2, d6⟩ := hd; subst d0; subst d2; obtain ⟨A6, c6, rfl, o6⟩ := d6; clear hs; simp only [fillG, List.set_cons_zero, List.set_cons_succ]; have hKW := Keep.tr (Keep.dr (Keep.rf _)) (hE rfl); have z0 := Keep.cell hKW z0; have z2 := Keep.cell hKW z2; refine want_n rfl ?_; go_wp2_with (first | (go_at_call 9; refine (refAlloc _ (HREPA.out.keep hKW) b.tag hbw _ (List.replicate b.kids.length 0) (by have := (Cs.of_own o6).1; exact this) (fun W9 F9 => by have := (Cs.of_own (F9.own o6 fun q e hq => by have h1 := (World.ownsRow.lt o6 q e).1; have h2 := HLT.out q hq; omega)).1; exact this) (zeros_wf0 b.kids.length) (by rw [hlr.out]; omega)).mono ?_; intro e w9 hA; obtain ⟨rfl, S9, r9, x9⟩ := hA.all (HREPA.out.keep hKW); rw [HFE.out, HAE.out] at r9 ⊢) | fail); simp only [DoneG, fillG, List.set_cons_zero, List.set_cons_succ, relG, eqG, eqG1, eqG2, eqG3, gdG, gdG1, gnG, gnG1, List.getD_cons_zero, List.getD_cons_succ, List.getElem?_cons_succ, List.getElem?_cons_zero, Option.map_some, Option.getD_some, valsG, List.map_cons, List.map_nil, List.length_cons, List.length_nil]; exact ⟨_, rfl, (by first | with_reducible assumption | exact trivial), fun W9 hk9 => ⟨rfl, HalfR.keep ⟨S9, r9, Ext.of_keep hKW x9⟩ hk9⟩⟩)
              · (have d7 := hd; clear hd; obtain ⟨rfl, d7⟩ := d7; clear hs; simp only [fillG, List.set_cons_zero, List.set_cons_succ]; refine want_n rfl ?_; go_wp2_with (first | fail); simp only [DoneG, fillG, List.set_cons_zero, List.set_cons_succ, relG, eqG, eqG1, eqG2, eqG3, gdG, gdG1, gnG, gnG1, List.getD_cons_zero, List.getD_cons_succ, List.getElem?_cons_succ, List.getElem?_cons_zero, Option.map_some, Option.getD_some, valsG, List.map_cons, List.map_nil, List.length_cons, List.length_nil]; exact ⟨_, rfl, (by first | with_reducible assumption | exact krg _ | exact Keep.al (krg _) _), fun _ _ => rfl⟩)
              · (obtain ⟨d7, d8⟩ := hd; obtain ⟨rfl, d7⟩ := d7; subst d8; clear hs; simp only [fillG, List.set_cons_zero, List.set_cons_succ]; refine want_n rfl ?_; go_wp2_with (first | fail); simp only [DoneG, fillG, List.set_cons_zero, List.set_cons_succ, relG, eqG, eqG1, eqG2, eqG3, gdG, gdG1, gnG, gnG1, List.getD_cons_zero, List.getD_cons_succ, List.getElem?_cons_succ, List.getElem?_cons_zero, Option.map_some, Option.getD_some, valsG, List.map_cons, List.map_nil, List.length_cons, List.length_nil]; exact ⟨_, rfl, (by first | with_reducible assumption | exact krg _ | exact Keep.al (krg _) _), fun _ _ => rfl⟩)
              · (obtain ⟨d7, d8⟩ := hd; obtain ⟨rfl, d7⟩ := d7; subst d8; clear hs; simp only [fillG, List.set_cons_zero, List.set_cons_succ]; refine want_n rfl ?_; go_wp2_with (first | fail); simp only [DoneG, fillG, List.set_cons_zero, List.set_cons_succ, relG, eqG, eqG1, eqG2, eqG3, gdG, gdG1, gnG, gnG1, List.getD_cons_zero, List.getD_cons_succ, List.getElem?_cons_succ, List.getElem?_cons_zero, Option.map_some, Option.getD_some, valsG, List.map_cons, List.map_nil, List.length_cons, List.length_nil]; exact ⟨_, rfl, (by first | with_reducible assumption | exact krg _ | exact Keep.al (krg _) _), fun _ _ => rfl⟩)
              · (obtain ⟨d7, d9⟩ := hd; obtain ⟨rfl, d7⟩ := d7; subst d9; clear hs; simp only [fillG, List.set_cons_zero, List.set_cons_succ]; refine want_n rfl ?_; go_wp2_with (first | fail); simp only [DoneG, fillG, List.set_cons_zero, List.set_cons_succ, relG, eqG, eqG1, eqG2, eqG3, gdG, gdG1, gnG, gnG1, List.getD_cons_zero, List.getD_cons_succ, List.getElem?_cons_succ, List.getElem?_cons_zero, Option.map_some, Option.getD_some, valsG, List.map_cons, List.map_nil, List.length_cons, List.length_nil]; exact ⟨_, rfl, (by first | with_reducible assumption | exact krg _ | exact Keep.al (krg _) _), fun _ _ => rfl⟩)
            (intro us W5 h9 hW hE hA; obtain ⟨u0, u1, u2, u3, u4, u5, u6, u7, u8, u9, u10, u11, rfl⟩ := rog 12 h9 rfl; clear h9; simp only [AllG, AtG, and_true, relG, eqG, eqG1, eqG2, eqG3, gdG, gdG1, gnG, gnG1, List.getD_cons_zero, List.getD_cons_succ, List.getElem?_cons_succ, List.getElem?_cons_zero, Option.map_some, Option.getD_some, valsG, List.map_cons, List.map_nil, List.length_cons, List.length_nil] at hA; obtain ⟨d7, d11⟩ := hA; obtain ⟨rfl, d7⟩ := d7; subst d11; simp only [fillG, List.set_cons_zero, List.set_cons_succ])
            obtain ⟨S2, r2, x2⟩ := d7
            have hrow2 := x2.1.own HROWA.out fun k e hk => HBX.out.out k e hk
            have hsz2 : W3.heap.size ≤ W5.heap.size := Nat.le_trans hWr (Nat.le_trans KAS.out x2.1.size)
            have HR2 := hide r2
            have HX2 := hide x2
            have HROW2 := hide hrow2
            clear r2 x2 hrow2 z0 z1 z2
            go_wp2_with (first
              | (at_builtin; go_loud (refine appI ws [an] rfl (.tmp 58) (.tmp 60) _ _ _ _ Tryz.underlying31 infoW rfl (by omega) rfl W3.heap.size _ rfl (own_keep HROW2.out (by repeat (first | exact Keep.rf _ | assumption | apply Keep.al | apply Keep.dr | apply Keep.dn))) _ rfl (Cs.lit _ rfl rfl rfl (by simp) (by simp)) (by rw [size_alloc]; exact Nat.le_trans hsz2 (Nat.le_succ _)) (by simp; omega) ?_); intro v3 w3 ho3 hg3 hat3; have HO3 := hide ho3; have HG3 := hide hg3; have HAT := hide hat3; obtain ⟨A3, c3, e3⟩ := own_slice ho3; subst e3; clear ho3 hg3 hat3)
              | fail)
            have HNX := hide (HBX.out.step KA.out HX2.out HR2.out (Keep.al (Keep.rf W5) (.cells #[.int .i64 an] 32)) HO3.out HG3.out HAT.out HAW.out)
            go_roundw
            case rel => exact ⟨ws ++ [an], aH, S2, by simp; omega, by simp, by simpa using HPN.out, by simpa using HNX.out⟩
            case measure => simp [intOf]; omega
        · have hlti : ¬ (ws.length : Int) < (bs.length : Int) := by omega
          have hwsl : ws.length = bs.length := by omega
          have hP : Em.putsB sz bs [] H = (ws, H') := by
            rw [HPUT.out, List.drop_of_length_le (by omega)]
            rfl
          have HO2 := hide (show oo = (Em.wordG ws (g1, g2), 0, Em.setB ws 0 bs H') from by rw [HO.out, hP])
          have HWL := hide hwsl
          have hw4 := HK3.out.size
          clear HO HPUT hP hr hwsl hlt HB3
          go_wp2_with fail
          clear hlti y2
          rename World => w5
          go_loopw [10] (fun v W => ∃ (i : Nat) (Hc : Em.Hp), i ≤ bs.length ∧ v = .int .i64 (i : Int) ∧ Em.setB ws 0 bs H' = Em.setB ws i (bs.drop i) Hc ∧ RRep W p S' sz Hc ∧ Frm (· ∈ S') w5 W) (fun v _ => bs.length - (intOf v).toNat)
          case atStart => exact ⟨0, H', Nat.zero_le _, rfl, rfl, HBX.out.rep, Frm.rf _ _⟩
          case round =>
            obtain ⟨i, Hc, hi, rfl, hset, hrep, hF⟩ := hrel
            have hFw : Frm (· ∈ S) w wr := HFW.out.trn hF fun k hk => by
              rcases HBX.out.mem k hk with e | e
              · exact .inl e
              · exact .inr (by omega)
            have hBq := hF.heap HBS.out HBR.out
            have y0 := top_cells hBq 0
            have y1 := top_cells hBq 1
            have y2 := top_cells hBq 2
            simp only [List.getElem?_toArray, List.getElem?_cons_succ, List.getElem?_cons_zero] at y0 y1 y2
            have HSET := hide hset
            have HREP := hide hrep
            have HF := hide hF
            have HFW2 := hide hFw
            clear hset hrep hF hFw hBq
            by_cases hlt : i < bs.length
            · have hlti2 : (i : Int) < (bs.length : Int) := by omega
              obtain ⟨_, _, e, _, _, hr0⟩ := HSL.out w (Frm.rf _ _)
              cases e
              obtain ⟨ad, rfl, hcell⟩ := hr0 (by omega)
              obtain ⟨cs, hcs, hcl, hkt⟩ := hcell i hlt
              have hadS : ad.block ∉ S := HAV.out ad _ _ rfl (by omega)
              have hmem := hide (List.getElem_mem hlt)
              have hdr := hide (List.drop_eq_getElem_cons hlt)
              generalize bs[i] = b at *
              obtain ⟨kv, rfl, hbw, hks, hkav⟩ := hkt
              obtain ⟨kA, kc, rfl, kl, km, _⟩ := id hks
              have HQ2 := hide (hcl 2 _ rfl)
              have HADS := hide hadS
              have HKS := hide hks
              have HKAV := hide hkav
              have hiw : i < ws.length := by have := HWL.out; omega
              have hiwi : (i : Int) < (ws.length : Int) := by omega
              have HSN := hide (show Em.setB ws 0 bs H' = Em.setB ws (i + 1) (bs.drop (i + 1)) (Em.setK ws (ws.getD i 0) 0 b.kids Hc) from by rw [HSET.out, hdr.out]; rfl)
              have hga : ws.getD i 0 = ws[i] := by simp [List.getD_eq_getElem?_getD, hiw]
              have haw := HBX.out.wf _ (List.getElem_mem hiw)
              have HGA := hide hga
              have hkl : (b.kids.length : Int) ≤ 100000 := by have := HSM.out b hmem.out; omega
              clear hcell hcl hr0 hcs hks hkav hadS hga
              go_wp2_with fail
              clear y0 y1 y2
              rename World => w6
              go_loopw [11] (fun v W => ∃ (k : Nat) (Hk : Em.Hp), k ≤ b.kids.length ∧ v = .int .i64 (k : Int) ∧ Em.setK ws (ws.getD i 0) 0 b.kids Hc = Em.setK ws (ws.getD i 0) k (b.kids.drop k) Hk ∧ RRep W p S' sz Hk ∧ Frm (· ∈ S') w6 W) (fun v _ => b.kids.length - (intOf v).toNat)
              case atStart => exact ⟨0, Hc, Nat.zero_le _, rfl, rfl, HREP.out, Frm.rf _ _⟩
              case round =>
                obtain ⟨k, Hk, hk, rfl, hsk, hrep, hF⟩ := hrel
                have hFw : Frm (· ∈ S) w wr := HFW2.out.trn hF fun q hq => by
                  rcases HBX.out.mem q hq with e | e
                  · exact .inl e
                  · exact .inr (by omega)
                have hF5 := HF.out.tr hF
                have hBq := hF5.heap HBS.out HBR.out
                have y2 := top_cells hBq 2
                simp only [List.getElem?_toArray, List.getElem?_cons_succ, List.getElem?_cons_zero] at y2
                have q2 := cell_off (hFw.cell (fun e => HADS.out (by rwa [add_block] at e)) HQ2.out)
                have HSK := hide hsk
                have HRK := hide hrep
                have HFK := hide hF
                clear hsk hrep hF hBq
                by_cases hltk : k < b.kids.length
                · have hltki : (k : Int) < (b.kids.length : Int) := by omega
                  obtain ⟨_, _, e, _, _, hkr⟩ := HKS.out.frm (K' := KRf) HKAV.out hFw (fun _ _ h => h)
                  cases e
                  obtain ⟨ak, rfl, hkc⟩ := hkr (by omega)
                  obtain ⟨ks, hks1, hks2, hkt, hkw⟩ := hkc k hltk
                  have hdk := hide (List.drop_eq_getElem_cons hltk)
                  have hmk := hide (List.getElem_mem hltk)
                  generalize b.kids[k] = x9 at *
                  obtain ⟨x1, x2⟩ := x9
                  simp only at hkt hkw
                  subst hkt
                  have v0 := hks2 0 _ rfl
                  rw [Nat.add_zero] at v0
                  have v1 := cell_off (hks2 1 _ rfl)
                  have hrow := hF5.own HBX.out.row fun q e hq => HBX.out.out q e hq
                  obtain ⟨lg, rfl⟩ : ∃ g : Nat, lA = some ⟨g, 0, none⟩ := by
                    obtain ⟨_, ⟨_, h00⟩ | ⟨g, c, cur, e, _⟩⟩ := HBX.out.row
                    · omega
                    · cases e
                      exact ⟨g, rfl⟩
                  have zW : wr.cell? ⟨lg, i, none⟩ = some (.int .i64 (ws[i])) := by
                    have := (own_at hrow i (by simpa using hiw)).1
                    simpa using this
                  have HROW := hide hrow
                  have HRO := hide (show Em.refOk ws.length (x1, x2) from HWL.out ▸ (HALL2.out.1 b hmem.out).2 _ hmk.out)
                  have HKN := hide (show Em.setK ws (ws.getD i 0) 0 b.kids Hc = Em.setK ws (ws.getD i 0) (k + 1) (b.kids.drop (k + 1)) (putE Hk (ws.getD i 0) (k : Int) (Em.wordG ws (x1, x2))).2 from by rw [HSK.out, hdk.out]; rfl)
                  rw [HGA.out] at HKN
                  have HVW := hide (wordG_wf HBX.out.wf (x1, x2))
                  generalize hav : ws[i] = a at *
                  clear hav hkc hks2 hkr hrow hFw hF5
                  go_wp2_with fail
                  apply region_last 17 _ (by kernel_rfl) Keep Keep krg ktg krg ktg (fun _ _ h => h) [some 80, some 81, some 82, some 83, some 84, some 85, some 86, some 87, some 88, some 89, some 90, some 91, some 92, some 93, some 94, some 95, some 96, some 97] [eqG _ , eqG _ , eqG _ , eqG _ , eqG _ , eqG _ , eqG _ , eqG _ , eqG _ , eqG _ , eqG _ , eqG _ , eqG _ , eqG _ , eqG _ , eqG _ , fun us _ v => v = .int .i64 (Em.wordG ws (x1, x2)), fun _ _ _ => True] [⟨[], [], true, false, false⟩, ⟨[], [], true, false, false⟩, ⟨[], [], true, false, false⟩, ⟨[1, 2], [], true, false, false⟩, ⟨[3], [], true, false, false⟩, ⟨[], [], true, false, false⟩, ⟨[], [], true, false, false⟩, ⟨[6], [], true, false, false⟩, ⟨[], [], true, false, false⟩, ⟨[7, 8], [], true, false, false⟩, ⟨[9], [], true, false, false⟩, ⟨[10], [], true, false, false⟩, ⟨[], [], true, false, false⟩, ⟨[11, 12], [], true, false, false⟩, ⟨[13], [], true, false, false⟩, ⟨[], [], true, false, false⟩, ⟨[14, 15], [], true, false, false⟩, ⟨[0, 4, 5, 16], [], true, false, false⟩] [0, 4, 5, 16] (by kernel_rfl) (by kernel_rfl) (by kernel_rfl) rfl (by kernel_rfl)
                  · refine ⟨?_, ?_, ?_, ?_, ?_, ?_, ?_, ?_, ?_, ?_, ?_, ?_, ?_, ?_, ?_, ?_, ?_, trivial⟩ <;> (intro us W h9 hW hE hd hs K hK; obtain ⟨u0, u1, u2, u3, u4, u5, u6, u7, u8, u9, u10, u11, u12, u13, u14, u15, u16, u17, rfl⟩ := rog 18 h9 rfl; clear h9; try simp only [DepG, AtG, and_true, relG, eqG, eqG1, eqG2, eqG3, gdG, gdG1, gnG, gnG1, List.getD_cons_zero, List.getD_cons_succ, List.getElem?_cons_succ, List.getElem?_cons_zero, Option.map_some, Option.getD_some, valsG, List.map_cons, List.map_nil, List.length_cons, List.length_nil] at hd)
                    · ((try clear hd); clear hs; simp only [fillG, List.set_cons_zero, List.set_cons_succ]; refine want_n rfl ?_; go_wp2_with (first | fail); simp only [DoneG, fillG, List.set_cons_zero, List.set_cons_succ, relG, eqG, eqG1, eqG2, eqG3, gdG, gdG1, gnG, gnG1, List.getD_cons_zero, List.getD_cons_succ, List.getElem?_cons_succ, List.getElem?_cons_zero, Option.map_some, Option.getD_some, valsG, List.map_cons, List.map_nil, List.length_cons, List.length_nil]; exact ⟨_, rfl, (by first | with_reducible assumption | exact krg _ | exact Keep.al (krg _) _), fun _ _ => rfl⟩)
                    · ((try clear hd); clear hs; simp only [fillG, List.set_cons_zero, List.set_cons_succ]; refine want_n rfl ?_; go_wp2_with (first | fail); simp only [DoneG, fillG, List.set_cons_zero, List.set_cons_succ, relG, eqG, eqG1, eqG2, eqG3, gdG, gdG1, gnG, gnG1, List.getD_cons_zero, List.getD_cons_succ, List.getElem?_cons_succ, List.getElem?_cons_zero, Option.map_some, Option.getD_some, valsG, List.map_cons, List.map_nil, List.length_cons, List.length_nil]; exact ⟨_, rfl, (by first | with_reducible assumption | exact krg _ | exact Keep.al (krg _) _), fun _ _ => rfl⟩)
                    · ((try clear hd); clear hs; simp only [fillG, List.set_cons_zero, List.set_cons_succ]; refine want_n rfl ?_; go_wp2_with (first | fail); simp only [DoneG, fillG, List.set_cons_zero, List.set_cons_succ, relG, eqG, eqG1, eqG2, eqG3, gdG, gdG1, gnG, gnG1, List.getD_cons_zero, List.getD_cons_succ, List.getElem?_cons_succ, List.getElem?_cons_zero, Option.map_some, Option.getD_some, valsG, List.map_cons, List.map_nil, List.length_cons, List.length_nil]; exact ⟨_, rfl, (by first | with_reducible assumption | exact krg _ | exact Keep.al (krg _) _), fun _ _ => rfl⟩)
                    · (obtain ⟨d1, d2⟩ := hd; subst d1; subst d2; clear hs; simp only [fillG, List.set_cons_zero, List.set_cons_succ]; refine want_n rfl ?_; go_wp2_with (first | fail); simp only [DoneG, fillG, List.set_cons_zero, List.set_cons_succ, relG, eqG, eqG1, eqG2, eqG3, gdG, gdG1, gnG, gnG1, List.getD_cons_zero, List.getD_cons_succ, List.getElem?_cons_succ, List.getElem?_cons_zero, Option.map_some, Option.getD_some, valsG, List.map_cons, List.map_nil, List.length_cons, List.length_nil]; exact ⟨_, rfl, (by first | with_reducible assumption | exact krg _ | exact Keep.al (krg _) _), fun _ _ => rfl⟩)
                    · (have d3 := hd; clear hd; subst d3; clear hs; simp only [fillG, List.set_cons_zero, List.set_cons_succ]; have hKW := Keep.tr (Keep.dr (Keep.rf _)) (hE rfl); have y2 := Keep.cell hKW y2; have q2 := Keep.cell hKW q2; have v0 := Keep.cell hKW v0; have v1 := Keep.cell hKW v1; have zW := Keep.cell hKW zW; refine want_n rfl ?_; go_wp2_with (first | fail); simp only [DoneG, fillG, List.set_cons_zero, List.set_cons_succ, relG, eqG, eqG1, eqG2, eqG3, gdG, gdG1, gnG, gnG1, List.getD_cons_zero, List.getD_cons_succ, List.getElem?_cons_succ, List.getElem?_cons_zero, Option.map_some, Option.getD_some, valsG, List.map_cons, List.map_nil, List.length_cons, List.length_nil]; exact ⟨_, rfl, (by first | with_reducible assumption | exact krg _ | exact Keep.al (krg _) _), fun _ _ => rfl⟩)
                    · ((try clear hd); clear hs; simp only [fillG, List.set_cons_zero, List.set_cons_succ]; refine want_n rfl ?_; go_wp2_with (first | fail); simp only [DoneG, fillG, List.set_cons_zero, List.set_cons_succ, relG, eqG, eqG1, eqG2, eqG3, gdG, gdG1, gnG, gnG1, List.getD_cons_zero, List.getD_cons_succ, List.getElem?_cons_succ, List.getElem?_cons_zero, Option.map_some, Option.getD_some, valsG, List.map_cons, List.map_nil, List.length_cons, List.length_nil]; exact ⟨_, rfl, (by first | with_reducible assumption | exact krg _ | exact Keep.al (krg _) _), fun _ _ => rfl⟩)
                    · ((try clear hd); clear hs; simp only [fillG, List.set_cons_zero, List.set_cons_succ]; refine want_n rfl ?_; go_wp2_with (first | fail); simp only [DoneG, fillG, List.set_cons_zero, List.set_cons_succ, relG, eqG, eqG1, eqG2, eqG3, gdG, gdG1, gnG, gnG1, List.getD_cons_zero, List.getD_cons_succ, List.getElem?_cons_succ, List.getElem?_cons_zero, Option.map_some, Option.getD_some, valsG, List.map_cons, List.map_nil, List.length_cons, List.length_nil]; exact ⟨_, rfl, (by first | with_reducible assumption | exact krg _ | exact Keep.al (krg _) _), fun _ _ => rfl⟩)
                    · (have d6 := hd; clear hd; subst d6; clear hs; simp only [fillG, List.set_cons_zero, List.set_cons_succ]; have hKW := Keep.tr (Keep.dr (Keep.rf _)) (hE rfl); have y2 := Keep.cell hKW y2; have q2 := Keep.cell hKW q2; have v0 := Keep.cell hKW v0; have v1 := Keep.cell hKW v1; have zW := Keep.cell hKW zW; refine want_n rfl ?_; go_wp2_with (first | fail); simp only [DoneG, fillG, List.set_cons_zero, List.set_cons_succ, relG, eqG, eqG1, eqG2, eqG3, gdG, gdG1, gnG, gnG1, List.getD_cons_zero, List.getD_cons_succ, List.getElem?_cons_succ, List.getElem?_cons_zero, Option.map_some, Option.getD_some, valsG, List.map_cons, List.map_nil, List.length_cons, List.length_nil]; exact ⟨_, rfl, (by first | with_reducible assumption | exact krg _ | exact Keep.al (krg _) _), fun _ _ => rfl⟩)
                    · ((try clear hd); clear hs; simp only [fillG, List.set_cons_zero, List.set_cons_succ]; refine want_n rfl ?_; go_wp2_with (first | fail); simp only [DoneG, fillG, List.set_cons_zero, List.set_cons_succ, relG, eqG, eqG1, eqG2, eqG3, gdG, gdG1, gnG, gnG1, List.getD_cons_zero, List.getD_cons_succ, List.getElem?_cons_succ, List.getElem?_cons_zero, Option.map_some, Option.getD_some, valsG, List.map_cons, List.map_nil, List.length_cons, List.length_nil]; exact ⟨_, rfl, (by first | with_reducible assumption | exact krg _ | exact Keep.al (krg _) _), fun _ _ => rfl⟩)
                    · (obtain ⟨d7, d8⟩ := hd; subst d7; subst d8; clear hs; simp only [fillG, List.set_cons_zero, List.set_cons_succ]; refine want_n rfl ?_; go_wp2_with (first | fail); simp only [DoneG, fillG, List.set_cons_zero, List.set_cons_succ, relG, eqG, eqG1, eqG2, eqG3, gdG, gdG1, gnG, gnG1, List.getD_cons_zero, List.getD_cons_succ, List.getElem?_cons_succ, List.getElem?_cons_zero, Option.map_some, Option.getD_some, valsG, List.map_cons, List.map_nil, List.length_cons, List.length_nil]; exact ⟨_, rfl, (by first | with_reducible assumption | exact krg _ | exact Keep.al (krg _) _), fun _ _ => rfl⟩)
                    · (have d9 := hd; clear hd; subst d9; clear hs; simp only [fillG, List.set_cons_zero, List.set_cons_succ]; refine want_n rfl ?_; go_wp2_with (first | fail); simp only [DoneG, fillG, List.set_cons_zero, List.set_cons_succ, relG, eqG, eqG1, eqG2, eqG3, gdG, gdG1, gnG, gnG1, List.getD_cons_zero, List.getD_cons_succ, List.getElem?_cons_succ, List.getElem?_cons_zero, Option.map_some, Option.getD_some, valsG, List.map_cons, List.map_nil, List.length_cons, List.length_nil]; exact ⟨_, rfl, (by first | with_reducible assumption | exact krg _ | exact Keep.al (krg _) _), fun _ _ => rfl⟩)
                    · (have d10 := hd; clear hd; subst d10; clear hs; simp only [fillG, List.set_cons_zero, List.set_cons_succ]; have hKW := Keep.tr (Keep.dr (Keep.rf _)) (hE rfl); have y2 := Keep.cell hKW y2; have q2 := Keep.cell hKW q2; have v0 := Keep.cell hKW v0; have v1 := Keep.cell hKW v1; have zW := Keep.cell hKW zW; refine want_n rfl ?_; go_wp2_with (first | fail); simp only [DoneG, fillG, List.set_cons_zero, List.set_cons_succ, relG, eqG, eqG1, eqG2, eqG3, gdG, gdG1, gnG, gnG1, List.getD_cons_zero, List.getD_cons_succ, List.getElem?_cons_succ, List.getElem?_cons_zero, Option.map_some, Option.getD_some, valsG, List.map_cons, List.map_nil, List.length_cons, List.length_nil]; exact ⟨_, rfl, (by first | with_reducible assumption | exact krg _ | exact Keep.al (krg _) _), fun _ _ => rfl⟩)
                    · ((try clear hd); clear hs; simp only [fillG, List.set_cons_zero, List.set_cons_succ]; refine want_n rfl ?_; go_wp2_with (first | fail); simp only [DoneG, fillG, List.set_cons_zero, List.set_cons_succ, relG, eqG, eqG1, eqG2, eqG3, gdG, gdG1, gnG, gnG1, List.getD_cons_zero, List.getD_cons_succ, List.getElem?_cons_succ, List.getElem?_cons_zero, Option.map_some, Option.getD_some, valsG, List.map_cons, List.map_nil, List.length_cons, List.length_nil]; exact ⟨_, rfl, (by first | with_reducible assumption | exact krg _ | exact Keep.al (krg _) _), fun _ _ => rfl⟩)
                    · (obtain ⟨d11, d12⟩ := hd; subst d11; subst d12; clear hs; simp only [fillG, List.set_cons_zero, List.set_cons_succ]; refine want_n rfl ?_; go_wp2_with (first | fail); simp only [DoneG, fillG, List.set_cons_zero, List.set_cons_succ, relG, eqG, eqG1, eqG2, eqG3, gdG, gdG1, gnG, gnG1, List.getD_cons_zero, List.getD_cons_succ, List.getElem?_cons_succ, List.getElem?_cons_zero, Option.map_some, Option.getD_some, valsG, List.map_cons, List.map_nil, List.length_cons, List.length_nil]; exact ⟨_, rfl, (by first | with_reducible assumption | exact krg _ | exact Keep.al (krg _) _), fun _ _ => rfl⟩)
                    · (have d13 := hd; clear hd; subst d13; clear hs; simp only [fillG, List.set_cons_zero, List.set_cons_succ]; have hKW := Keep.tr (Keep.dr (Keep.rf _)) (hE rfl); have y2 := Keep.cell hKW y2; have q2 := Keep.cell hKW q2; have v0 := Keep.cell hKW v0; have v1 := Keep.cell hKW v1; have zW := Keep.cell hKW zW; refine want_n rfl ?_; go_wp2_with (first | fail); simp only [DoneG, fillG, List.set_cons_zero, List.set_cons_succ, relG, eqG, eqG1, eqG2, eqG3, gdG, gdG1, gnG, gnG1, List.getD_cons_zero, List.getD_cons_succ, List.getElem?_cons_succ, List.getElem?_cons_zero, Option.map_some, Option.getD_some, valsG, List.map_cons, List.map_nil, List.length_cons, List.length_nil]; exact ⟨_, rfl, (by first | with_reducible assumption | exact krg _ | exact Keep.al (krg _) _), fun _ _ => rfl⟩)
                    · ((try clear hd); clear hs; simp only [fillG, List.set_cons_zero, List.set_cons_succ]; refine want_n rfl ?_; go_wp2_with (first | fail); simp only [DoneG, fillG, List.set_cons_zero, List.set_cons_succ, relG, eqG, eqG1, eqG2, eqG3, gdG, gdG1, gnG, gnG1, List.getD_cons_zero, List.getD_cons_succ, List.getElem?_cons_succ, List.getElem?_cons_zero, Option.map_some, Option.getD_some, valsG, List.map_cons, List.map_nil, List.length_cons, List.length_nil]; exact ⟨_, rfl, (by first | with_reducible assumption | exact krg _ | exact Keep.al (krg _) _), fun _ _ => rfl⟩)
                    · (obtain ⟨d14, d15⟩ := hd; subst d14; subst d15; clear hs; simp only [fillG, List.set_cons_zero, List.set_cons_succ]; have hKW := Keep.tr (Keep.dr (Keep.rf _)) (hE rfl); have y2 := Keep.cell hKW y2; have q2 := Keep.cell hKW q2; have v0 := Keep.cell hKW v0; have v1 := Keep.cell hKW v1; have zW := Keep.cell hKW zW; refine want_n rfl ?_; go_wp2_with (first | (go_at_call 42; go_loud (refine (refWord18 _ (x1, x2) _ ws (own_is (own_keep HROW.out hKW)) HRO.out).mono ?_); rintro e w' ⟨rfl, hk8⟩) | fail); simp only [DoneG, fillG, List.set_cons_zero, List.set_cons_succ, relG, eqG, eqG1, eqG2, eqG3, gdG, gdG1, gnG, gnG1, List.getD_cons_zero, List.getD_cons_succ, List.getElem?_cons_succ, List.getElem?_cons_zero, Option.map_some, Option.getD_some, valsG, List.map_cons, List.map_nil, List.length_cons, List.length_nil]; exact ⟨_, rfl, (by first | with_reducible assumption | exact krg _ | exact Keep.al (krg _) _), fun _ _ => rfl⟩)
                  (intro us W8 h9 hW hE hA hl9; obtain ⟨u0, u1, u2, u3, u4, u5, u6, u7, u8, u9, u10, u11, u12, u13, u14, u15, u16, u17, rfl⟩ := rog 18 h9 rfl; clear h9; clear hl9; simp only [AllG, AtG, and_true, relG, eqG, eqG1, eqG2, eqG3, gdG, gdG1, gnG, gnG1, List.getD_cons_zero, List.getD_cons_succ, List.getElem?_cons_succ, List.getElem?_cons_zero, Option.map_some, Option.getD_some, valsG, List.map_cons, List.map_nil, List.length_cons, List.length_nil] at hA; obtain ⟨d0, d4, d5, d16⟩ := hA; subst d0; subst d4; subst d5; subst d16; simp only [fillG, List.set_cons_zero, List.set_cons_succ]; have k8 := Keep.tr (Keep.dr (Keep.rf _)) hW; clear hW hE; refine want_n rfl ?_)
                  have HRS := hide (HRK.out.keep k8)
                  have HK8 := hide k8
                  clear y2 q2 v0 v1 zW k8
                  go_wp2_with fail
                  refine (refSet _ HRS.out a haw (k : Int) _ HVW.out).mono ?_
                  intro e w9 hS
                  obtain ⟨rfl, r9, x9⟩ := hS.all HRS.out
                  have HZ := hide (And.intro r9 ((HFK.out.tr (HK8.out.frm _)).tr x9.1))
                  clear r9 x9 hS
                  generalize putE Hk a (k : Int) (Em.wordG ws (x1, x2)) = pe at *
                  obtain ⟨pb, pH⟩ := pe
                  simp only at HZ HKN ⊢
                  go_wp2_with fail
                  go_roundw
                  case rel => exact ⟨k + 1, pH, by omega, by go_num, by rw [HGA.out]; exact HKN.out, HZ.out.1, HZ.out.2⟩
                  case measure => simp [intOf]; omega
                · have hltki : ¬ (k : Int) < (b.kids.length : Int) := by omega
                  have hke : Em.setK ws (ws.getD i 0) 0 b.kids Hc = Hk := by
                    rw [HSK.out, List.drop_of_length_le (by omega)]
                    rfl
                  have HSN2 := hide (show Em.setB ws 0 bs H' = Em.setB ws (i + 1) (bs.drop (i + 1)) Hk from by rw [HSN.out, hke])
                  clear hke hltk HKS HKAV
                  go_wp2_with fail
                  go_roundw
                  case rel => exact ⟨i + 1, Hk, by omega, by go_num, HSN2.out, HRK.out, hF5⟩
                  case measure => simp [intOf]; omega
            · have hlti2 : ¬ (i : Int) < (bs.length : Int) := by omega
              have hse : Em.setB ws 0 bs H' = Hc := by
                rw [HSET.out, List.drop_of_length_le (by omega)]
                rfl
              have HO3 := hide (show oo = (Em.wordG ws (g1, g2), 0, Hc) from by rw [HO2.out, hse])
              have hrow := HF.out.own HBX.out.row fun q e hq => HBX.out.out q e hq
              have HW := hide (refWord18 wr (g1, g2) _ ws (own_is hrow) (HWL.out ▸ HALL2.out.2))
              clear hse hlt hrow
              go_wp2_with fail
              refine HW.out.mono ?_
              rintro e w9 ⟨rfl, k9⟩
              have HK9 := hide k9
              clear k9
              generalize Em.wordG ws (g1, g2) = y at *
              go_wp2_with fail
              go_ret2
              rw [HO3.out]
              refine ⟨rfl, S', HREP.out.keep HK9.out, HFW2.out.tr (HK9.out.frm _), fun q hq => ?_⟩
              rcases HBX.out.mem q hq with e | e
              · exact .inl e
              · exact .inr (by omega)
end Go.Proofs.YtoehaijmkmdggaaGreat
