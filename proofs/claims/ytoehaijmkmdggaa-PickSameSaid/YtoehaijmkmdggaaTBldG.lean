/- Plain: a graph put into a heap, and drawn again. Walks: what a block needs; a value as a word (package shape, and its reference). Walks: a block is put (closures of Build, package shape; Put of the reference). A graph in memory that lies away from some blocks. -/
import Derived.Test.YtoehaijmkmdggaaTBldU
import Derived.Test.YtoehaijmkmdggaaTBldI
import Derived.Test.YtoehaijmkmdggaaTDrawT
import Derived.Test.YtoehaijmkmdggaaTHeapB
import Derived.Test.YtoehaijmkmdggaaTBldK
set_option linter.unusedSimpArgs false
set_option linter.unusedVariables false
namespace Go.Proofs.Ytoehaijmkmdggaa
set_option linter.unusedVariables false
namespace Em
end Em
end Go.Proofs.Ytoehaijmkmdggaa
namespace Go.Proofs.Ytoehaijmkmdggaa
open Go.RowKit Go.Maps
set_option linter.unusedVariables false
set_option linter.unusedSimpArgs false
set_option maxRecDepth 100000
theorem shapeFields (w : World) (t : Int) (s : List UInt8) (A : Option Addr) (n c : Nat) (hs : s.length ≤ 100000) (hn : n ≤ 100000) : Calls Try.prog 37 #[.agg #[.int .i64 t, .string (str s), .slice A n c]] w fun e w' => e = .returned (.int .i64 ((s.length + n : Nat) : Int)) ∧ Keep w w' := by
  have hsz := str_size s
  go_enter Try.func37, Try.ntmps37
  go_wp2_with fail
  go_ret
  exact ⟨ret_int (by simp), (by repeat (first | exact Keep.rf _ | assumption | apply Keep.al | apply Keep.dr | apply Keep.dn))⟩
theorem is_cell {w : World} {A : Option Addr} {n c : Nat} {l : List Int} (h : Is w (.slice A n c) l) {k : Nat} (hk : k < l.length) : n = l.length ∧ ∃ ad, A = some ad ∧ w.cell? (ad.add k) = some (.int .i64 l[k]) := by
  obtain ⟨A', c', e, _, _, h3⟩ := h
  cases e
  simp only [List.length_map] at h3 ⊢
  obtain ⟨ad, rfl, h4⟩ := h3 (by simpa using (by omega : 0 < l.length))
  refine ⟨trivial, ad, rfl, ?_⟩
  have := h4 k (by simpa using hk)
  simpa using this
set_option maxHeartbeats 4000000 in
theorem wordClo (w : World) (x : Bool × Int) (b : Nat) (v : Value) (ws : List Int) (hb : w.cell? ⟨b, 0, none⟩ = some v) (hv : Is w v ws) (hx : Em.refOk ws.length x) : Calls Try.prog 42 #[.agg #[.bool x.1, .int .i64 x.2], .pointer (some ⟨b, 0, none⟩)] w fun e w' => e = .returned (.int .i64 (Em.wordG ws x)) ∧ Keep w w' := by
  obtain ⟨x1, x2⟩ := x
  obtain ⟨A, c, rfl, v1, v2, _⟩ := id hv
  simp only [List.length_map] at v1 hb ⊢
  have hb' := fun o => Keep.cell ((Keep.rf w).al o) hb
  cases x1 with
  | true =>
    have HX := hide (show Em.wordG ws (true, x2) = intW x2 from rfl)
    go_enter Try.func42, Try.ntmps42
    go_wp2_with fail
    refine (heapInt x2 _).mono ?_
    rintro e w' ⟨rfl, rfl⟩
    generalize intW x2 = y at *
    go_wp2_with fail
    go_ret
    rw [HX.out]
    exact ⟨rfl, (by repeat (first | exact Keep.rf _ | assumption | apply Keep.al | apply Keep.dr | apply Keep.dn))⟩
  | false =>
    obtain ⟨k, rfl⟩ : ∃ k : Nat, x2 = (k : Int) := by
      rcases hx with ⟨h, _⟩ | ⟨_, h, _⟩
      · cases h
      · exact ⟨x2.toNat, by omega⟩
    have hk : k < ws.length := by
      rcases hx with ⟨h, _⟩ | ⟨_, _, h⟩
      · cases h
      · simpa using h
    have hki : (k : Int) < (ws.length : Int) := by omega
    simp only [List.length_map] at hv
    obtain ⟨_, ad, rfl, hc⟩ := is_cell hv hk
    have hc' := fun o => Keep.cell ((Keep.rf w).al o) hc
    have HX := hide (show Em.wordG ws (false, (k : Int)) = ws[k] from by simp [Em.wordG, List.getD_eq_getElem?_getD, hk])
    generalize ws[k] = y at *
    go_enter Try.func42, Try.ntmps42
    go_wp2_with fail
    go_ret
    rw [HX.out]
    exact ⟨rfl, (by repeat (first | exact Keep.rf _ | assumption | apply Keep.al | apply Keep.dr | apply Keep.dn))⟩
theorem need_drop {bs : List Em.Blk} {j : Nat} (h : j < bs.length) : Em.needN (bs.drop j) = (1 + (bs[j].str.length + bs[j].kids.length)) + Em.needN (bs.drop (j + 1)) := by
  rw [List.drop_eq_getElem_cons h]
  rfl
theorem need_le {bs : List Em.Blk} {b : Em.Blk} (h : b ∈ bs) : 1 + (b.str.length + b.kids.length) ≤ Em.needN bs := by
  induction bs with
  | nil => cases h
  | cons c t ih =>
    rw [Em.needN]
    rcases List.mem_cons.1 h with rfl | h
    · omega
    · have := ih h
      omega
theorem need_len (bs : List Em.Blk) : bs.length ≤ Em.needN bs := by
  induction bs with
  | nil => simp
  | cons c t ih =>
    rw [Em.needN, List.length_cons]
    omega
end Go.Proofs.Ytoehaijmkmdggaa
namespace Go.Proofs.Ytoehaijmkmdggaa
open Go.RowKit Go.Maps
set_option linter.unusedVariables false
set_option linter.unusedSimpArgs false
set_option maxRecDepth 100000
/-- An Alloc was answered. -/
def AllA (w : World) (p sz : Nat) (S : List Nat) (H : Em.Hp) (tag : Int) (fs : List Int) (e : Ending) (w' : World) : Prop :=
  e = .returned (.tuple #[.int .i64 (allocE sz H tag fs).1, .bool (allocE sz H tag fs).2.1]) ∧ ∃ S', HRep w' p S' sz (allocE sz H tag fs).2.2 ∧ Ext w w' S S'
def HalfQ (B : World) (p m : Nat) (S : List Nat) (H : Em.Hp) (W : World) : Prop := ∃ S', HRep W p S' m H ∧ Ext B W S S'
theorem HalfQ.keep {B W W' : World} {p m : Nat} {S : List Nat} {H : Em.Hp} (h : HalfQ B p m S H W) (k : Keep W W') : HalfQ B p m S H W' := by
  obtain ⟨S', h1, h2⟩ := h
  exact ⟨S', h1.keep k, h2.keep k⟩
set_option maxHeartbeats 4000000 in
theorem putClo2 {p sz : Nat} {S : List Nat} {H : Em.Hp} (w : World) (h : HRep w p S sz H) (b g : Nat) (s : List UInt8) (hb : w.cell? ⟨b, 0, none⟩ = some (.pointer (some ⟨p, 0, none⟩))) (hg : w.cell? ⟨g, 1, none⟩ = some (.string (str s))) (hs : s.length ≤ 100000) :
    Calls Try.prog 41 #[.pointer (some ⟨b, 0, none⟩), .pointer (some ⟨g, 0, none⟩)] w (AllA w p sz S H 1 (Em.fields0 ⟨1, s, []⟩)) := by
  have HA := hide (shapePut w h s hs)
  have HR := hide h
  have hfs : Em.fields0 ⟨1, s, []⟩ = wordsOf s := rfl
  rw [hfs]
  clear h hfs
  unfold AllA
  generalize hae : allocE sz H 1 (wordsOf s) = ae at *
  obtain ⟨an, ab, aH⟩ := ae
  have HAE := hide hae
  clear hae
  go_enter Try.func41, Try.ntmps41
  go_wp2_with fail
  refine HA.out.mono ?_
  rintro e w2 ⟨w1, k1, hA⟩
  obtain ⟨rfl, S2, r2, x2⟩ := hA.all (HR.out.keep k1)
  rw [HAE.out] at r2 ⊢
  have HZ := hide (And.intro r2 (Ext.of_keep k1 x2))
  clear r2 x2 hA k1
  simp only
  go_wp2_with fail
  go_ret2
  exact ⟨rfl, S2, HZ.out.1, HZ.out.2⟩
theorem wp_mkW {o : Oper} {a : Act} {W : World} {K : Act → World → Prop} {Q : Exit → Act → World → Prop} (x y : Operand) (ho : o.op = .makeSlice 68 x y) {n : Nat} (hx : a.eval x = .int .i64 (n : Int)) (hy : a.eval y = .int .i64 (n : Int)) (hn : n ≤ 1000000)
    (h : ∀ w', w'.ownsRow W.heap.size 36 1 (.slice (some ⟨W.heap.size, 0, none⟩) n n) n ((List.replicate n (0 : Int)).map (Value.int .i64)) → Keep W w' → K (a.put o.dst (.slice (some ⟨W.heap.size, 0, none⟩) n n)) w') : o.wp Try.prog a W K Q := by
  obtain ⟨w9, hm, ho9, hk9⟩ := run_makeW W n hn
  unfold Oper.wp execOp
  simp only [ho, hx, hy, Sem.run_bind, hm, Result.andThen_ok, Sem.run_pure]
  exact h w9 ho9 hk9
theorem zeros_wf0 (n : Nat) : ∀ f ∈ List.replicate n (0 : Int), (Lit.int .i64 f).wf = true := by
  intro f hf
  obtain ⟨_, rfl⟩ := List.mem_replicate.1 hf
  decide
set_option maxHeartbeats 8000000 in
theorem putClo1 {p sz : Nat} {S : List Nat} {H : Em.Hp} (w : World) (h : HRep w p S sz H) (b g : Nat) (t : Int) (A : Option Addr) (n c : Nat) (hb : w.cell? ⟨b, 0, none⟩ = some (.pointer (some ⟨p, 0, none⟩))) (hg0 : w.cell? ⟨g, 0, none⟩ = some (.int .i64 t)) (hg2 : w.cell? ⟨g, 2, none⟩ = some (.slice A n c)) (ht : (Lit.int .i64 t).wf = true) (hn : n ≤ 100000) :
    Calls Try.prog 40 #[.pointer (some ⟨b, 0, none⟩), .pointer (some ⟨g, 0, none⟩)] w (AllA w p sz S H t (List.replicate n 0)) := by
  have HR := hide h
  have hlr := hide (List.length_replicate (n := n) (a := (0 : Int)))
  clear h
  unfold AllA
  generalize hae : allocE sz H t (List.replicate n 0) = ae at *
  obtain ⟨an, ab, aH⟩ := ae
  have HAE := hide hae
  clear hae
  go_enter Try.func40, Try.ntmps40
  go_wp2_with fail
  apply region_all (by kernel_rfl) Keep AnyW krg ktg anyrf anytr anyk [some 4, some 5, some 6, some 7, some 8, some 9, some 10, some 11, some 12, some 13, some 2, some 3] [eqG _ , eqG _ , eqG _ , eqG _ , eqG _ , eqG _ , fun us W v => ∃ A c, v = .slice A n c ∧ W.ownsRow w.heap.size 36 1 (.slice A n c) n ((List.replicate n (0 : Int)).map (Value.int .i64)), fun us W v => v = .tuple #[.int .i64 an, .bool ab] ∧ HalfQ w p sz S aH W, eqG _ , eqG _ , eqG _ , eqG _ ] [⟨[], [], true, false, false⟩, ⟨[], [], true, false, false⟩, ⟨[1], [], true, false, false⟩, ⟨[], [], true, false, false⟩, ⟨[3], [], true, false, false⟩, ⟨[4], [], true, false, false⟩, ⟨[5], [], true, false, true⟩, ⟨[0, 2, 6], [], true, true, true⟩, ⟨[7], [], false, false, false⟩, ⟨[7], [], false, false, false⟩, ⟨[7, 8], [], false, false, false⟩, ⟨[7, 9], [], false, false, false⟩] [7, 10, 11] (by kernel_rfl) (by kernel_rfl) 
  · refine ⟨?_, ?_, ?_, ?_, ?_, ?_, ?_, ?_, ?_, ?_, ?_, ?_, trivial⟩ <;> (intro us W h9 hW hE hd hs K hK; obtain ⟨u0, u1, u2, u3, u4, u5, u6, u7, u8, u9, u10, u11, rfl⟩ := rog 12 h9 rfl; clear h9; try simp only [DepG, AtG, and_true, relG, eqG, eqG1, eqG2, eqG3, gdG, gdG1, gnG, gnG1, List.getD_cons_zero, List.getD_cons_succ, List.getElem?_cons_succ, List.getElem?_cons_zero, Option.map_some, Option.getD_some, valsG, List.map_cons, List.map_nil, List.length_cons, List.length_nil] at hd)
    · ((try clear hd); clear hs; simp only [fillG, List.set_cons_zero, List.set_cons_succ]; have hKW := Keep.tr (Keep.dr (Keep.rf _)) (hE rfl); have hb := Keep.cell hKW hb; have hg0 := Keep.cell hKW hg0; have hg2 := Keep.cell hKW hg2; refine want_n rfl ?_; go_wp2_with (first | fail); simp only [DoneG, fillG, List.set_cons_zero, List.set_cons_succ, relG, eqG, eqG1, eqG2, eqG3, gdG, gdG1, gnG, gnG1, List.getD_cons_zero, List.getD_cons_succ, List.getElem?_cons_succ, List.getElem?_cons_zero, Option.map_some, Option.getD_some, valsG, List.map_cons, List.map_nil, List.length_cons, List.length_nil]; exact ⟨_, rfl, (by first | with_reducible assumption | exact krg _ | exact Keep.al (krg _) _), fun _ _ => rfl⟩)
    · ((try clear hd); clear hs; simp only [fillG, List.set_cons_zero, List.set_cons_succ]; refine want_n rfl ?_; go_wp2_with (first | fail); simp only [DoneG, fillG, List.set_cons_zero, List.set_cons_succ, relG, eqG, eqG1, eqG2, eqG3, gdG, gdG1, gnG, gnG1, List.getD_cons_zero, List.getD_cons_succ, List.getElem?_cons_succ, List.getElem?_cons_zero, Option.map_some, Option.getD_some, valsG, List.map_cons, List.map_nil, List.length_cons, List.length_nil]; exact ⟨_, rfl, (by first | with_reducible assumption | exact krg _ | exact Keep.al (krg _) _), fun _ _ => rfl⟩)
    · (have d1 := hd; clear hd; subst d1; clear hs; simp only [fillG, List.set_cons_zero, List.set_cons_succ]; have hKW := Keep.tr (Keep.dr (Keep.rf _)) (hE rfl); have hb := Keep.cell hKW hb; have hg0 := Keep.cell hKW hg0; have hg2 := Keep.cell hKW hg2; refine want_n rfl ?_; go_wp2_with (first | fail); simp only [DoneG, fillG, List.set_cons_zero, List.set_cons_succ, relG, eqG, eqG1, eqG2, eqG3, gdG, gdG1, gnG, gnG1, List.getD_cons_zero, List.getD_cons_succ, List.getElem?_cons_succ, List.getElem?_cons_zero, Option.map_some, Option.getD_some, valsG, List.map_cons, List.map_nil, List.length_cons, List.length_nil]; exact ⟨_, rfl, (by first | with_reducible assumption | exact krg _ | exact Keep.al (krg _) _), fun _ _ => rfl⟩)
    · ((try clear hd); clear hs; simp only [fillG, List.set_cons_zero, List.set_cons_succ]; refine want_n rfl ?_; go_wp2_with (first | fail); simp only [DoneG, fillG, List.set_cons_zero, List.set_cons_succ, relG, eqG, eqG1, eqG2, eqG3, gdG, gdG1, gnG, gnG1, List.getD_cons_zero, List.getD_cons_succ, List.getElem?_cons_succ, List.getElem?_cons_zero, Option.map_some, Option.getD_some, valsG, List.map_cons, List.map_nil, List.length_cons, List.length_nil]; exact ⟨_, rfl, (by first | with_reducible assumption | exact krg _ | exact Keep.al (krg _) _), fun _ _ => rfl⟩)
    · (have d3 := hd; clear hd; subst d3; clear hs; simp only [fillG, List.set_cons_zero, List.set_cons_succ]; have hKW := Keep.tr (Keep.dr (Keep.rf _)) (hE rfl); have hb := Keep.cell hKW hb; have hg0 := Keep.cell hKW hg0; have hg2 := Keep.cell hKW hg2; refine want_n rfl ?_; go_wp2_with (first | fail); simp only [DoneG, fillG, List.set_cons_zero, List.set_cons_succ, relG, eqG, eqG1, eqG2, eqG3, gdG, gdG1, gnG, gnG1, List.getD_cons_zero, List.getD_cons_succ, List.getElem?_cons_succ, List.getElem?_cons_zero, Option.map_some, Option.getD_some, valsG, List.map_cons, List.map_nil, List.length_cons, List.length_nil]; exact ⟨_, rfl, (by first | with_reducible assumption | exact krg _ | exact Keep.al (krg _) _), fun _ _ => rfl⟩)
    · (have d4 := hd; clear hd; subst d4; clear hs; simp only [fillG, List.set_cons_zero, List.set_cons_succ]; have hKW := Keep.tr (Keep.dr (Keep.rf _)) (hE rfl); have hb := Keep.cell hKW hb; have hg0 := Keep.cell hKW hg0; have hg2 := Keep.cell hKW hg2; refine want_n rfl ?_; go_wp2_with (first | fail); simp only [DoneG, fillG, List.set_cons_zero, List.set_cons_succ, relG, eqG, eqG1, eqG2, eqG3, gdG, gdG1, gnG, gnG1, List.getD_cons_zero, List.getD_cons_succ, List.getElem?_cons_succ, List.getElem?_cons_zero, Option.map_some, Option.getD_some, valsG, List.map_cons, List.map_nil, List.length_cons, List.length_nil]; exact ⟨_, rfl, (by first | with_reducible assumption | exact krg _ | exact Keep.al (krg _) _), fun _ _ => rfl⟩)
    · (have d5 := hd; clear hd; subst d5; clear hs; simp only [fillG, List.set_cons_zero, List.set_cons_succ]; have hKW := Keep.tr (Keep.dr (Keep.rf _)) (hE rfl); have hb := Keep.cell hKW hb; have hg0 := Keep.cell hKW hg0; have hg2 := Keep.cell hKW hg2; refine want_n rfl ?_; refine wp_mkW (.tmp 9) (.tmp 9) rfl rfl rfl (by omega) ?_; intro w9 ho9 hk8; refine hK _ _ ?_; simp only [DoneG, fillG, List.set_cons_zero, List.set_cons_succ, relG, eqG, eqG1, eqG2, eqG3, gdG, gdG1, gnG, gnG1, List.getD_cons_zero, List.getD_cons_succ, List.getElem?_cons_succ, List.getElem?_cons_zero, Option.map_some, Option.getD_some, valsG, List.map_cons, List.map_nil, List.length_cons, List.length_nil]; exact ⟨_, rfl, (by first | with_reducible assumption | exact krg _ | exact Keep.al (krg _) _), fun W9 hk9 => ⟨_, _, rfl, own_keep (own_lower ho9 (Below.size hKW)) hk9⟩⟩)
    · (obtain ⟨d0, d2, d6⟩ := hd; subst d0; subst d2; obtain ⟨A6, c6, rfl, o6⟩ := d6; clear hs; simp only [fillG, List.set_cons_zero, List.set_cons_succ]; have hKW := Keep.tr (Keep.dr (Keep.rf _)) (hE rfl); have hb := Keep.cell hKW hb; have hg0 := Keep.cell hKW hg0; have hg2 := Keep.cell hKW hg2; refine want_n rfl ?_; go_wp2_with (first | (go_at_call 32; refine (heapAlloc _ (HR.out.keep hKW) t ht _ (List.replicate n 0) (by have := (Cs.of_own o6).1; exact this) (zeros_wf0 n) (by rw [hlr.out]; omega)).mono ?_; intro e w9 hA; obtain ⟨rfl, S9, r9, x9⟩ := hA.all (HR.out.keep hKW); rw [HAE.out] at r9 ⊢) | fail); simp only [DoneG, fillG, List.set_cons_zero, List.set_cons_succ, relG, eqG, eqG1, eqG2, eqG3, gdG, gdG1, gnG, gnG1, List.getD_cons_zero, List.getD_cons_succ, List.getElem?_cons_succ, List.getElem?_cons_zero, Option.map_some, Option.getD_some, valsG, List.map_cons, List.map_nil, List.length_cons, List.length_nil]; exact ⟨_, rfl, (by first | with_reducible assumption | exact trivial), fun W9 hk9 => ⟨rfl, HalfQ.keep ⟨S9, r9, Ext.of_keep hKW x9⟩ hk9⟩⟩)
    · (have d7 := hd; clear hd; obtain ⟨rfl, d7⟩ := d7; clear hs; simp only [fillG, List.set_cons_zero, List.set_cons_succ]; refine want_n rfl ?_; go_wp2_with (first | fail); simp only [DoneG, fillG, List.set_cons_zero, List.set_cons_succ, relG, eqG, eqG1, eqG2, eqG3, gdG, gdG1, gnG, gnG1, List.getD_cons_zero, List.getD_cons_succ, List.getElem?_cons_succ, List.getElem?_cons_zero, Option.map_some, Option.getD_some, valsG, List.map_cons, List.map_nil, List.length_cons, List.length_nil]; exact ⟨_, rfl, (by first | with_reducible assumption | exact krg _ | exact Keep.al (krg _) _), fun _ _ => rfl⟩)
    · (have d7 := hd; clear hd; obtain ⟨rfl, d7⟩ := d7; clear hs; simp only [fillG, List.set_cons_zero, List.set_cons_succ]; refine want_n rfl ?_; go_wp2_with (first | fail); simp only [DoneG, fillG, List.set_cons_zero, List.set_cons_succ, relG, eqG, eqG1, eqG2, eqG3, gdG, gdG1, gnG, gnG1, List.getD_cons_zero, List.getD_cons_succ, List.getElem?_cons_succ, List.getElem?_cons_zero, Option.map_some, Option.getD_some, valsG, List.map_cons, List.map_nil, List.length_cons, List.length_nil]; exact ⟨_, rfl, (by first | with_reducible assumption | exact krg _ | exact Keep.al (krg _) _), fun _ _ => rfl⟩)
    · (obtain ⟨d7, d8⟩ := hd; obtain ⟨rfl, d7⟩ := d7; subst d8; clear hs; simp only [fillG, List.set_cons_zero, List.set_cons_succ]; refine want_n rfl ?_; go_wp2_with (first | fail); simp only [DoneG, fillG, List.set_cons_zero, List.set_cons_succ, relG, eqG, eqG1, eqG2, eqG3, gdG, gdG1, gnG, gnG1, List.getD_cons_zero, List.getD_cons_succ, List.getElem?_cons_succ, List.getElem?_cons_zero, Option.map_some, Option.getD_some, valsG, List.map_cons, List.map_nil, List.length_cons, List.length_nil]; exact ⟨_, rfl, (by first | with_reducible assumption | exact krg _ | exact Keep.al (krg _) _), fun _ _ => rfl⟩)
    · (obtain ⟨d7, d9⟩ := hd; obtain ⟨rfl, d7⟩ := d7; subst d9; clear hs; simp only [fillG, List.set_cons_zero, List.set_cons_succ]; refine want_n rfl ?_; go_wp2_with (first | fail); simp only [DoneG, fillG, List.set_cons_zero, List.set_cons_succ, relG, eqG, eqG1, eqG2, eqG3, gdG, gdG1, gnG, gnG1, List.getD_cons_zero, List.getD_cons_succ, List.getElem?_cons_succ, List.getElem?_cons_zero, Option.map_some, Option.getD_some, valsG, List.map_cons, List.map_nil, List.length_cons, List.length_nil]; exact ⟨_, rfl, (by first | with_reducible assumption | exact krg _ | exact Keep.al (krg _) _), fun _ _ => rfl⟩)
  (intro us W2 h9 hW hE hA; obtain ⟨u0, u1, u2, u3, u4, u5, u6, u7, u8, u9, u10, u11, rfl⟩ := rog 12 h9 rfl; clear h9; simp only [AllG, AtG, and_true, relG, eqG, eqG1, eqG2, eqG3, gdG, gdG1, gnG, gnG1, List.getD_cons_zero, List.getD_cons_succ, List.getElem?_cons_succ, List.getElem?_cons_zero, Option.map_some, Option.getD_some, valsG, List.map_cons, List.map_nil, List.length_cons, List.length_nil] at hA; obtain ⟨d7, d10, d11⟩ := hA; obtain ⟨rfl, d7⟩ := d7; subst d10; subst d11; simp only [fillG, List.set_cons_zero, List.set_cons_succ])
  go_wp2_with fail
  go_ret2
  obtain ⟨S9, r9, x9⟩ := d7
  exact ⟨rfl, S9, r9, x9⟩
theorem own_is {w : World} {B : Nat} {v : Value} {l : List Int} (h : w.ownsRow B 36 1 v l.length (l.map (Value.int .i64))) : Is w v l := by
  have := (Cs.of_own (n := (l.map (Value.int .i64)).length) (l := l.map (Value.int .i64)) (by simpa using h)).1
  exact this
end Go.Proofs.Ytoehaijmkmdggaa
