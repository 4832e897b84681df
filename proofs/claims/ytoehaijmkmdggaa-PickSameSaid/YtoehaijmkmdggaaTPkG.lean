/- Walks: pick.Bytes. -/
import Derived.Test.YtoehaijmkmdggaaTPkB
set_option linter.unusedSimpArgs false
set_option linter.unusedVariables false
namespace Go.Proofs.Ytoehaijmkmdggaa
open Go.RowKit Go.Maps
open Em (Ty)
set_option linter.unusedVariables false
set_option linter.unusedSimpArgs false
set_option maxRecDepth 100000
theorem pkBlk_step {B f hp sz : Nat} {w0 : World} {p mb : Nat} {S : List Nat} {H : Em.Hp} (hrep : HRep w0 hp S sz H) (hval : ValKC B w0 p mb (.pointer (some ⟨hp, 0, none⟩)) H f) : BlkKC B w0 p mb (.pointer (some ⟨hp, 0, none⟩)) H f := by
  intro Z w ov tys s n t d cs h ht hok hpl hi hn hl hf
  by_cases hop : t.op = Em.wString
  · exact pkBlk_str hrep n t d cs h ht hok hpl hi hn hl hop _ (hide rfl)
  · exact pkBlk_kids hrep n t d cs h ht hok hpl hi hn hl hop hf hval _ (hide rfl)
theorem pkVal {B hp sz : Nat} {w0 : World} {p mb : Nat} {S : List Nat} {H : Em.Hp} (hrep : HRep w0 hp S sz H) : ∀ f, ValKC B w0 p mb (.pointer (some ⟨hp, 0, none⟩)) H f
  | 0 => fun Z w ov tys s n t d cs h ht hok hn hl hf => absurd hf (Nat.not_lt_zero _)
  | f + 1 => pkVal_step (pkBlk_step hrep (pkVal hrep f))
theorem PkM.start {tt : Nat} {w0 w : World} {p mb : Nat} {hv : Value} (ht : w.heap[p]? = some (.cells #[hv, .slice none 0 0, .map (some mb)] tt)) (hm : MapN w mb (fun _ => none) 0) (k : Keep w0 w) (hp : w0.heap.size ≤ p) (hmb : w0.heap.size ≤ mb) (hne : mb ≠ p) : PkM tt w0.heap.size (fun _ => False) w0 w p mb hv (.slice none 0 0) [] ⟨[], [], []⟩ :=
  { top := ht, k0 := k, p0 := ⟨Nat.le_refl _, hp, hmb⟩, own := Ob.nil _ _ _, map := hm, ty := rfl, len := rfl, tya := fun y h => (by cases h), z := fun k h => h.elim, d1 := fun k e => by simp [Value.ownBlock] at e, d2 := hne, lim := by simp }
/-- Bytes and an error were answered. -/
def ByR (w : World) (o : List UInt8 × Int) (e : Ending) (w' : World) : Prop := ∃ A c, e = .returned (.tuple #[.slice A o.1.length c, .int .i64 o.2]) ∧ Bs w' (.slice A o.1.length c) o.1 ∧ Keep w w'
theorem ByR.none {w w' : World} {o : List UInt8 × Int} {c : Int} (h : o = ([], c)) (k : Keep w w') : ByR w o (.returned (.tuple #[.slice none 0 0, .int .i64 c])) w' := by
  subst h
  exact ⟨Option.none, 0, rfl, (Ob.nil w' 0 5).bs, k⟩
set_option maxHeartbeats 8000000 in
theorem pickBytes {hp sz : Nat} {S : List Nat} {H : Em.Hp} (w : World) (hrep : HRep w hp S sz H) (n : Int) (hn : (Lit.int .i64 n).wf = true) (t : Ty) (d : Nat) (cs : List Value) (ht : TyK d w cs t) : Calls Try.prog 17 #[.pointer (some ⟨hp, 0, none⟩), .int .i64 n, .agg cs.toArray] w (ByR w (Em.bytesK H n t)) := by
  cases d with
  | zero => exact ht.elim
  | succ d =>
    have HT0 := hide ht
    obtain ⟨v9, rfl, hn0, hs⟩ := ht
    obtain ⟨A, c, rfl, _⟩ := id hs
    have kx : Keep w (w.alloc (.cells #[.string (str t.op), .int .i64 t.n, .slice A t.kids.length c] 25)) := (by repeat (first | exact Keep.rf _ | assumption | apply Keep.al | apply Keep.dr | apply Keep.dn))
    have hX := heap_alloc_new w (.cells #[.string (str t.op), .int .i64 t.n, .slice A t.kids.length c] 25)
    have b0 := top_cells hX 0
    have b1 := top_cells hX 1
    have b2 := top_cells hX 2
    simp only [List.getElem?_toArray, List.getElem?_cons_succ, List.getElem?_cons_zero] at b0 b1 b2
    have KX := hide kx
    have HIS := hide (fun W (k : Keep w W) => typIsT t W _ ⟨d + 1, _, rfl, HT0.out.keep k⟩)
    have HSE := hide (fun W (k : Keep w W) => typSent t W _ ⟨d + 1, _, rfl, HT0.out.keep k⟩)
    have HRP := hide hrep
    clear hX kx hs hn0 hrep
    have hnotok : (Em.isT t && Em.sentT t) = false → Em.bytesK H n t = ([], 6) := fun h => by unfold Em.bytesK; rw [if_neg (by rw [h]; decide)]
    have hmm := @run_makeMap Try.prog
    go_enter Try.func17, Try.ntmps17
    go_wp2_with fail
    generalize World.alloc w _ = w1 at *
    refine (HIS.out _ KX.out).mono ?_
    rintro e w2 ⟨rfl, k2⟩
    cases hT : Em.isT t with
    | false =>
      have HX2 := hide (hnotok (by rw [hT]; rfl))
      have K2 := hide (Keep.tr KX.out k2)
      clear hT hnotok b0 b1 b2
      go_wp2_with fail
      go_ret2
      exact ByR.none HX2.out K2.out
    | true =>
      have HT := hide hT
      have b0 := Keep.cell k2 b0
      have b1 := Keep.cell k2 b1
      have b2 := Keep.cell k2 b2
      have K2 := hide (Keep.tr KX.out k2)
      clear hT k2
      go_wp2_with fail
      refine (HSE.out _ K2.out).mono ?_
      rintro e w3 ⟨rfl, k3⟩
      have b0 := Keep.cell k3 b0
      have b1 := Keep.cell k3 b1
      have b2 := Keep.cell k3 b2
      have K3 := hide (Keep.tr K2.out k3)
      clear k3
      cases hS : Em.sentT t with
      | false =>
        have HX2 := hide (hnotok (by rw [HT.out, hS]; rfl))
        clear hS hnotok b0 b1 b2
        go_wp2_with fail
        go_ret2
        exact ByR.none HX2.out K3.out
      | true =>
        have hokS : Em.okS t = true := by
          unfold Em.okS
          rw [hS, Bool.and_true]
          have := HT.out
          unfold Em.isT at this
          exact (Bool.and_eq_true _ _ ▸ this).2
        have HXX := hide (show Em.bytesK H n t = match Em.valK H 2001 n t ⟨[], [], []⟩ with
          | .err c => ([], c)
          | .ok s => if 4000 < s.b.length then ([], 7) else (s.b, 0) from by
          unfold Em.bytesK
          rw [if_pos (by rw [HT.out, hS]; rfl)]
          cases Em.valK H 2001 n t ⟨[], [], []⟩ <;> rfl)
        have k5 : Keep w3 ((w3.alloc (.map #[] 0)).alloc (.cells #[.pointer (some ⟨hp, 0, none⟩), .slice none 0 0, .map (some w3.heap.size)] 88)) := (by repeat (first | exact Keep.rf _ | assumption | apply Keep.al | apply Keep.dr | apply Keep.dn))
        have hm5 : MapN ((w3.alloc (.map #[] 0)).alloc (.cells #[.pointer (some ⟨hp, 0, none⟩), .slice none 0 0, .map (some w3.heap.size)] 88)) w3.heap.size (fun _ => none) 0 := (MapN.new w3 rfl).frm ((Keep.al (Keep.rf _) _).frm fun _ => False) fun h => h
        have hsz := K3.out.size
        have hM := PkM.start (new_second w3 (.map #[] 0) (.cells #[.pointer (some ⟨hp, 0, none⟩), .slice none 0 0, .map (some w3.heap.size)] 88)) hm5 (Keep.tr K3.out k5) (by omega) (by omega) (by omega)
        have HV := hide (pkVal HRP.out 2001 _ _ _ _ _ n t (d + 1) _ hM ((TyI.of HT0.out).keep (Keep.tr K3.out k5) |>.mono fun k hk => .inl hk) hokS hn (by simp) (by simp))
        have b0 := Keep.cell k5 b0
        have b1 := Keep.cell k5 b1
        have b2 := Keep.cell k5 b2
        have HM := hide hM
        clear hS hnotok k5 hm5 hM hokS
        go_wp2_with fail
        clear hmm
        generalize World.alloc (World.alloc w3 _) _ = w5 at *
        refine HV.out.mono ?_
        intro e w6 hA
        generalize hy : Em.valK H 2001 n t ⟨[], [], []⟩ = y at *
        clear b0 b1 b2
        cases y with
        | err c9 =>
          obtain ⟨rfl, hc9, k9⟩ := hA
          have HX2 := hide (show Em.bytesK H n t = ([], c9) from HXX.out)
          have hcn : (c9 != 0) = true := by rw [bne_iff_ne]; omega
          have hcz : (c9 == 0) = false := by rw [beq_eq_false_iff_ne]; omega
          have K9 := hide k9
          clear hc9 k9 HV hy HXX
          go_wp2_with fail
          go_ret2
          exact ByR.none HX2.out K9.out
        | ok s1 =>
          obtain ⟨rfl, Z1, ov1, tys1, hd1, hw1⟩ := hA
          obtain ⟨A1, c1, rfl⟩ := hd1.own.slice
          have p1 := top_cells hd1.top 1
          simp only [List.getElem?_toArray, List.getElem?_cons_succ, List.getElem?_cons_zero] at p1
          have HD1 := hide hd1
          have HY := hide (show Em.bytesK H n t = if 4000 < s1.b.length then ([], 7) else (s1.b, 0) from HXX.out)
          clear hd1 hw1 HV hy HXX
          by_cases hlen : 4000 < s1.b.length
          · have hli : (s1.b.length : Int) > 4000 := by omega
            have HX2 := hide (HY.out.trans (if_pos hlen))
            go_wp2_with fail
            go_ret2
            exact ByR.none HX2.out HD1.out.k0
          · have hli : ¬ (s1.b.length : Int) > 4000 := by omega
            have HX2 := hide (HY.out.trans (if_neg hlen))
            go_wp2_with fail
            go_ret2
            rw [HX2.out]
            exact ⟨A1, c1, rfl, HD1.out.own.bs, HD1.out.k0⟩
end Go.Proofs.Ytoehaijmkmdggaa
