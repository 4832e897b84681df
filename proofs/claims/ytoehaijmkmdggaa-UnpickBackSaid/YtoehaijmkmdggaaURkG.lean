/- Walks: Bytes of the reference 22, where it comes to bytes. -/
import Derived.Test.YtoehaijmkmdggaaURkW
import Derived.Test.YtoehaijmkmdggaaURkWL
import Derived.Test.YtoehaijmkmdggaaURkWS
import Derived.Test.YtoehaijmkmdggaaUPkG
set_option linter.unusedSimpArgs false
set_option linter.unusedVariables false
namespace Go.Proofs.Ytoehaijmkmdggaa
open Go.RowKit Go.Maps
open Em (Ty)
set_option linter.unusedVariables false
set_option linter.unusedSimpArgs false
set_option maxRecDepth 100000
theorem rkNode_step {B f hp sz : Nat} {w0 : World} {p mb : Nat} {S : List Nat} {H : Em.Hp} (hrep : RRep w0 hp S sz H) (ih : NodC B w0 p mb (.pointer (some ⟨hp, 0, none⟩)) H f) : NodC B w0 p mb (.pointer (some ⟨hp, 0, none⟩)) H (f + 1) := by
  intro Z w tv ov tys s n t d cs s' h ht hok hn hl hv
  rw [Em.valK] at hv
  by_cases hp9 : Em.isPl t.op
  · rw [if_pos hp9] at hv
    exact rkNode_plain n t d cs h ht hok hn hl hp9 s' hv
  rw [if_neg hp9] at hv
  by_cases hop : t.op = Em.wList
  · by_cases h1 : n = 1
    · rw [if_pos ⟨hop, h1⟩] at hv
      injection hv with hv
      subst hv
      exact rkNode_nil n t d cs h ht hok hn hl hp9 hop h1
    · rw [if_neg (fun h => h1 h.2), show Em.firstOf t.op = 1 from if_pos hop] at hv
      cases hi : Em.posK s.ws n with
      | none =>
        rw [hi] at hv
        exact rkNode_kidsL n t d cs h ht hok hn hl hrep hp9 hop h1 hi s' hv ih
      | some i =>
        rw [hi] at hv
        simp only at hv
        cases ht' : s.ty[i]? with
        | none => rw [ht'] at hv; cases hv
        | some t' =>
          rw [ht'] at hv
          simp only at hv
          by_cases he : Em.eqT t' t = true
          · rw [if_pos he] at hv
            injection hv with hv
            subst hv
            exact rkNode_seenL n t d cs h ht hok hn hl hp9 hop h1 i hi t' ht' he
          · rw [if_neg he] at hv
            cases hv
  · rw [if_neg (fun h => hop h.1), show Em.firstOf t.op = 0 from if_neg hop] at hv
    cases hi : Em.posK s.ws n with
    | none =>
      rw [hi] at hv
      by_cases hst : t.op = Em.wString
      · exact rkNode_str n t d cs h ht hok hn hl hrep hp9 hst hi s' hv
      · exact rkNode_kidsM n t d cs h ht hok hn hl hrep hp9 ⟨hop, hst⟩ hi s' hv ih
    | some i =>
      rw [hi] at hv
      simp only at hv
      cases ht' : s.ty[i]? with
      | none => rw [ht'] at hv; cases hv
      | some t' =>
        rw [ht'] at hv
        simp only at hv
        by_cases he : Em.eqT t' t = true
        · rw [if_pos he] at hv
          injection hv with hv
          subst hv
          exact rkNode_seenN n t d cs h ht hok hn hl hp9 hop i hi t' ht' he
        · rw [if_neg he] at hv
          cases hv
theorem rkNode {B hp sz : Nat} {w0 : World} {p mb : Nat} {S : List Nat} {H : Em.Hp} (hrep : RRep w0 hp S sz H) : ∀ f, NodC B w0 p mb (.pointer (some ⟨hp, 0, none⟩)) H f
  | 0 => fun Z w tv ov tys s n t d cs s' h ht hok hn hl hv => by rw [Em.valK] at hv; cases hv
  | f + 1 => rkNode_step hrep (rkNode hrep f)
theorem RkS.start {tt : Nat} {w0 w : World} {p mb : Nat} {hv : Value} (ht : w.heap[p]? = some (.cells #[hv, .map (some mb), .slice none 0 0, .slice none 0 0, .int .i64 0] tt)) (hm : MapF w mb fun _ => none) (k : Keep w0 w) (hp : w0.heap.size ≤ p) (hmb : w0.heap.size ≤ mb) (hne : mb ≠ p) : RkS tt w0.heap.size (fun _ => False) w0 w p mb hv (.slice none 0 0) (.slice none 0 0) [] ⟨[], [], []⟩ :=
  ⟨{ top := ht, k0 := k, p0 := ⟨Nat.le_refl _, hp, hmb⟩, own := Ob.nil _ _ _, tow := ⟨by simp, .inl ⟨rfl, rfl⟩⟩, map := hm, tya := fun y h => (by cases h), z := fun k h => h.elim, d1 := fun k e => by simp [Value.ownBlock] at e, d2 := hne, d3 := fun k e => by simp [Value.ownBlock] at e }, rfl, rfl, by simp⟩
theorem Em.valK_code (H : Em.Hp) : ∀ (f : Nat) (n : Int) (t : Ty) (s : Em.Pk) (c : Int), Em.valK H f n t s = .err c → c = 1 ∨ c = 7
  | 0, n, t, s, c, h => by
    rw [Em.valK] at h
    injection h with h
    exact .inl h.symm
  | f + 1, n, t, s, c, h => by
    have ih := Em.valK_code H f
    have hkids : ∀ (ts : List Ty) (i : Nat) (s : Em.Pk), Em.kidsK (Em.valK H f) H n i ts s = .err c → c = 1 ∨ c = 7 := by
      intro ts
      induction ts with
      | nil => intro i s h; cases h
      | cons a u ihu =>
        intro i s h
        rw [Em.kidsK] at h
        cases hy : Em.valK H f ((Em.field H n (i : Int)).getD 0) a s with
        | err c9 =>
          rw [hy] at h
          injection h with h
          exact h ▸ ih _ _ _ _ hy
        | ok s2 =>
          rw [hy] at h
          exact ihu _ _ h
    rw [Em.valK] at h
    split at h
    · unfold Em.numK at h
      split at h
      · injection h with h; exact .inl h.symm
      · split at h
        · cases h
        · split at h <;> cases h
    · split at h
      · cases h
      · split at h
        · split at h
          · injection h with h; exact .inl h.symm
          · split at h
            · cases h
            · injection h with h; exact .inl h.symm
        · unfold Em.blkK at h
          split at h
          · injection h with h; exact .inl h.symm
          · split at h
            · split at h
              · injection h with h; exact .inl h.symm
              · split at h
                · injection h with h; exact .inr h.symm
                · cases h
            · split at h
              · injection h with h; exact .inl h.symm
              · split at h
                · injection h with h; exact .inr h.symm
                · exact hkids _ _ _ h
theorem Em.bytesK_ok {H : Em.Hp} {n : Int} {t : Ty} {b : List UInt8} (h : Em.bytesK H n t = (b, 0)) : Em.isT t = true ∧ Em.sentT t = true ∧ ∃ s, Em.valK H 2001 n t ⟨[], [], []⟩ = .ok s ∧ ¬ 4000 < s.b.length ∧ b = s.b := by
  unfold Em.bytesK at h
  split at h
  · next h1 =>
    rw [Bool.and_eq_true] at h1
    cases hy : Em.valK H 2001 n t ⟨[], [], []⟩ with
    | err c =>
      rw [hy] at h
      injection h with _ h
      have := Em.valK_code H _ _ _ _ _ hy
      omega
    | ok s =>
      rw [hy] at h
      simp only at h
      split at h
      · injection h with _ h
        cases h
      · next h2 =>
        injection h with h _
        exact ⟨h1.1, h1.2, s, rfl, h2, h.symm⟩
  · injection h with _ h
    cases h
set_option maxHeartbeats 8000000 in
theorem refBytes22 {hp sz : Nat} {S : List Nat} {H : Em.Hp} (w : World) (hrep : RRep w hp S sz H) (n : Int) (hn : (Lit.int .i64 n).wf = true) (t : Ty) (d : Nat) (cs : List Value) (ht : TyK d w cs t) (b : List UInt8) (hb : Em.bytesK H n t = (b, 0)) : Calls Try.prog 30 #[.pointer (some ⟨hp, 0, none⟩), .int .i64 n, .agg cs.toArray] w (ByR w (b, 0)) := by
  cases d with
  | zero => exact ht.elim
  | succ d =>
    have HT0 := hide ht
    obtain ⟨v9, rfl, hn0, hs⟩ := ht
    obtain ⟨A, c, rfl, _⟩ := id hs
    obtain ⟨hT, hS, s, hv, hlen, rfl⟩ := Em.bytesK_ok hb
    have kx : Keep w (w.alloc (.cells #[.string (str t.op), .int .i64 t.n, .slice A t.kids.length c] 25)) := (by repeat (first | exact Keep.rf _ | assumption | apply Keep.al | apply Keep.dr | apply Keep.dn))
    have hX := heap_alloc_new w (.cells #[.string (str t.op), .int .i64 t.n, .slice A t.kids.length c] 25)
    have b0 := top_cells hX 0
    have b1 := top_cells hX 1
    have b2 := top_cells hX 2
    simp only [List.getElem?_toArray, List.getElem?_cons_succ, List.getElem?_cons_zero] at b0 b1 b2
    have KX := hide kx
    have HIS := hide (fun W (k : Keep w W) => refIsT t W _ ⟨d + 1, _, rfl, HT0.out.keep k⟩)
    have HSE := hide (fun W (k : Keep w W) => refSentT t W _ ⟨d + 1, _, rfl, HT0.out.keep k⟩)
    have HRP := hide hrep
    have hokS : Em.okS t = true := by
      unfold Em.okS
      rw [hS, Bool.and_true]
      have := hT
      unfold Em.isT at this
      exact (Bool.and_eq_true _ _ ▸ this).2
    have HV0 := hide hv
    have HOKS := hide hokS
    have HL := hide hlen
    clear hX kx hs hn0 hrep hb hv hokS hlen
    have hmm := @run_makeMap Try.prog
    go_enter Try.func30, Try.ntmps30
    go_wp2_with fail
    generalize World.alloc w _ = w1 at *
    refine (HIS.out _ KX.out).mono ?_
    rintro e w2 ⟨rfl, k2⟩
    rw [hT]
    have b0 := Keep.cell k2 b0
    have b1 := Keep.cell k2 b1
    have b2 := Keep.cell k2 b2
    have K2 := hide (Keep.tr KX.out k2)
    clear hT k2
    go_wp2_with fail
    refine (HSE.out _ K2.out).mono ?_
    rintro e w3 ⟨rfl, k3⟩
    rw [hS]
    have b0 := Keep.cell k3 b0
    have b1 := Keep.cell k3 b1
    have b2 := Keep.cell k3 b2
    have K3 := hide (Keep.tr K2.out k3)
    clear k3 hS
    have k5 : Keep w3 ((w3.alloc (.map #[] 0)).alloc (.cells #[.pointer (some ⟨hp, 0, none⟩), .map (some w3.heap.size), .slice none 0 0, .slice none 0 0, .int .i64 0] 116)) := (by repeat (first | exact Keep.rf _ | assumption | apply Keep.al | apply Keep.dr | apply Keep.dn))
    have hm5 : MapF ((w3.alloc (.map #[] 0)).alloc (.cells #[.pointer (some ⟨hp, 0, none⟩), .map (some w3.heap.size), .slice none 0 0, .slice none 0 0, .int .i64 0] 116)) w3.heap.size (fun _ => none) := (MapF.new w3 rfl).frm ((Keep.al (Keep.rf _) _).frm fun _ => False) fun h => h
    have hsz := K3.out.size
    have hM := RkS.start (new_second w3 (.map #[] 0) (.cells #[.pointer (some ⟨hp, 0, none⟩), .map (some w3.heap.size), .slice none 0 0, .slice none 0 0, .int .i64 0] 116)) hm5 (Keep.tr K3.out k5) (by omega) (by omega) (by omega)
    have HV := hide (rkNode HRP.out 2001 _ _ _ _ _ _ n t (d + 1) _ s hM ((TyI.of HT0.out).keep (Keep.tr K3.out k5) |>.mono fun k hk => .inl hk) HOKS.out hn (by simp) HV0.out)
    have b0 := Keep.cell k5 b0
    have b1 := Keep.cell k5 b1
    have b2 := Keep.cell k5 b2
    have HM := hide hM
    clear k5 hm5 hM
    go_wp2_with fail
    clear hmm
    generalize World.alloc (World.alloc w3 _) _ = w5 at *
    refine HV.out.mono ?_
    rintro e w6 ⟨rfl, Z1, tv1, ov1, tys1, ⟨hd1, _⟩, hw1⟩
    clear b0 b1 b2
    obtain ⟨A1, c1, rfl⟩ := hd1.own.slice
    have p3 := top_cells hd1.top 3
    have p4 := top_cells hd1.top 4
    simp only [List.getElem?_toArray, List.getElem?_cons_succ, List.getElem?_cons_zero] at p3 p4
    have HD1 := hide hd1
    have hlen := HL.out
    have hli : ¬ (s.b.length : Int) > 4000 := by omega
    clear hd1 hw1 HV hlen
    go_wp2_with fail
    go_ret2
    exact ⟨A1, c1, rfl, HD1.out.own.bs, HD1.out.k0⟩
end Go.Proofs.Ytoehaijmkmdggaa
