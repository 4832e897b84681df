/- The law UnpickGraphs: walk. -/
import Derived.Test.YtoehaijmkmdggaaRvG
import Derived.Test.YtoehaijmkmdggaaRdIs
import Derived.Test.YtoehaijmkmdggaaRdK
import Derived.Test.YtoehaijmkmdggaaShapeR
namespace Go.Proofs.Ytoehaijmkmdggaa
open Go.RowKit
open Em (Ty)
set_option linter.unusedVariables false
set_option linter.unusedSimpArgs false
set_option maxRecDepth 100000
/-- A graph's value, written out. -/
abbrev grV (g : Em.Gr) (A : Option Addr) (c : Nat) : Value := .agg #[.bool g.root.1, .int .i64 g.root.2, .slice A g.blocks.length c]
/-- A graph and an error were answered, written out. -/
theorem GrR.outT {w w' : World} {o : Em.Gr × Int} {e : Ending} (h : GrR w o e w') : ∃ A c, e = .returned (.tuple #[grV o.1 A c, .int .i64 o.2]) ∧ GrT w' (grV o.1 A c) o.1 ∧ Keep w w' := by
  obtain ⟨v, rfl, hg, k⟩ := h
  obtain ⟨A, c, rfl, _⟩ := hg.1.open_
  exact ⟨A, c, rfl, hg, k⟩
theorem GrT.stored {w w' : World} {g : Em.Gr} {A : Option Addr} {c b : Nat} {cs : Array Value} {fr : Nat × Nat} (h : GrT w (grV g A c) g) (hb : w.heap[b]? = some (.cells cs 31 fr)) (F : Frm (· = b) w w') : GrV w' (grV g A c) g :=
  ((h.2 b cs fr hb).frm (F.mono fun k _ e => by simpa using e)).gr
/-- A graph lies in a new variable. -/
def StoG (N : Nat) (g : Em.Gr) (p : Value) (W : World) : Prop := ∃ b A c, p = .pointer (some ⟨b, 0, none⟩) ∧ N ≤ b ∧ W.heap[b]? = some (.cells #[.bool g.root.1, .int .i64 g.root.2, .slice A g.blocks.length c] 31) ∧ GrV W (grV g A c) g
theorem StoG.mk {N b c : Nat} {g : Em.Gr} {A : Option Addr} {W : World} (h1 : N ≤ b) (h2 : W.heap[b]? = some (.cells #[.bool g.root.1, .int .i64 g.root.2, .slice A g.blocks.length c] 31)) (h3 : GrV W (grV g A c) g) : StoG N g (.pointer (some ⟨b, 0, none⟩)) W := ⟨b, A, c, rfl, h1, h2, h3⟩
set_option maxHeartbeats 8000000 in
theorem UnpickGraphs_walk (w : World) (v : Value) (b : List UInt8) (hb : Bs w v b) (_hz : b.length ≤ 140737488351232) (tv : Value) (t : Ty) (ht0 : TyV w tv t) (_ht1 : True) : Calls Try.prog 5 #[v, tv] w fun e w' => e = .returned (.bool true) ∧ Keep w w' := by
  obtain ⟨d, cs, rfl, ht⟩ := ht0
  cases d with
  | zero => exact ht.elim
  | succ d =>
    have HT := hide ht
    obtain ⟨v9, rfl, hn, hs⟩ := ht
    obtain ⟨Ak, ck, rfl, _⟩ := id hs
    have HB := hide hb
    obtain ⟨A, c, rfl, hlc, hcm, _⟩ := hb
    have SZ := hide fun W (k : Keep w W) => refSizeT (d + 1) t W _ 100 (HT.out.keep k) (by omega) (by omega)
    have GU := hide fun W (k : Keep w W) (v : Value) (hv : Bs W v b) => unpickGraph b t (d + 1) _ W v hv (HT.out.keep k)
    have GV := hide fun W (k : Keep w W) => refGraph23 b t (d + 1) _ W _ (HB.out.keep k) (HT.out.keep k)
    have HIS := hide (fun g (h : Em.graphP b t = (g, 0)) => Em.graphP_isG h)
    generalize hgo : Em.graphP b t = go at *
    clear hgo hs hn
    by_cases g1 : 400 < b.length
    · go_enter Try.func5, Try.ntmps5
      go_wp2_with fail
      go_ret
      exact ⟨rfl, (by repeat (first | exact Keep.rf _ | assumption | apply Keep.al | apply Keep.dr | apply Keep.dn))⟩
    have hB := heap_alloc_new w (.cells #[.string (str t.op), .int .i64 t.n, .slice Ak t.kids.length ck] 25)
    have kB : Keep w (w.alloc (.cells #[.string (str t.op), .int .i64 t.n, .slice Ak t.kids.length ck] 25)) := (by repeat (first | exact Keep.rf _ | assumption | apply Keep.al | apply Keep.dr | apply Keep.dn))
    have HBX := hide hB
    have KB := hide kB
    clear hB kB
    go_enter Try.func5, Try.ntmps5
    go_wp2_with fail
    generalize World.alloc w _ = wa at *
    refine (SZ.out _ KB.out).mono ?_
    rintro e w1 ⟨rfl, k1⟩
    generalize hsz : Em.sz 100 t = sz
    have K1 := hide (Keep.tr KB.out k1)
    have hB1 := (k1.frm fun _ => False).heap (fun h => h) HBX.out
    have b0 := top_cells hB1 0
    have b1 := top_cells hB1 1
    have b2 := top_cells hB1 2
    simp only [List.getElem?_toArray, List.getElem?_cons_succ, List.getElem?_cons_zero] at b0 b1 b2
    have HB1 := hide hB1
    clear k1 hB1 hsz
    by_cases g2 : 50 < sz
    · go_wp2_with fail
      go_ret
      exact ⟨rfl, K1.out⟩
    go_wp2_with fail
    apply region_all (by kernel_rfl) Keep (Frm (fun k => w1.heap.size ≤ k)) krg ktg (Frm.rf _) (fun _ _ _ => Frm.tr) (fun _ _ h => Keep.frm h _) [some 18, some 19, some 20, some 21, some 22, some 17, some 23, some 24, some 5, none, some 6] [fun us W v => ∃ g, v = .slice (some ⟨g, 0, none⟩) 0 0 ∧ W.heap[g]? = some (.cells #[] 5) ∧ w1.heap.size ≤ g, eqG _ , fun us W v => ∃ A c, v = .slice A b.length c ∧ Bs W (.slice A b.length c) b, eqG _ , fun us W v => ∃ A c, v = .tuple #[grV go.1 A c, .int .i64 go.2] ∧ GrT W (grV go.1 A c) go.1, fun us W v => (us.getD 0 undef) = v ∧ ∃ A c, v = .tuple #[grV go.1 A c, .int .i64 go.2], fun us W v => ∃ A c, v = grV go.1 A c ∧ GrT W (grV go.1 A c) go.1, fun us _ v => v = .int .i64 go.2, fun us W v => ∃ b, v = .pointer (some ⟨b, 0, none⟩) ∧ w1.heap.size ≤ b ∧ W.heap[b]? = some (.cells #[.bool false, .int .i64 0, .slice none 0 0] 31), fun us W v => StoG w1.heap.size go.1 (us.getD 1 undef) W, eqG _ ] [⟨[], [], true, false, true⟩, ⟨[], [], true, false, false⟩, ⟨[0, 1], [], true, false, true⟩, ⟨[], [], true, false, false⟩, ⟨[2, 3], [], true, false, true⟩, ⟨[4], [], true, false, false⟩, ⟨[4, 5], [], true, false, true⟩, ⟨[5], [], false, false, false⟩, ⟨[], [], true, false, true⟩, ⟨[6, 8], [], true, true, true⟩, ⟨[7], [], false, false, false⟩] [5, 9, 10] (by kernel_rfl) (by kernel_rfl) 
    · refine ⟨?_, ?_, ?_, ?_, ?_, ?_, ?_, ?_, ?_, ?_, ?_, trivial⟩
      · (intro us W h9 hW hE hd hs K hK; obtain ⟨u0, u1, u2, u3, u4, u5, u6, u7, u8, u9, u10, rfl⟩ := rog 11 h9 rfl; clear h9; clear hd; clear hs; simp only [fillG, List.set_cons_zero, List.set_cons_succ]; have hKW := Keep.tr (Keep.dr (Keep.rf _)) (hE rfl); have b0 := Keep.cell hKW b0; have b1 := Keep.cell hKW b1; have b2 := Keep.cell hKW b2; refine want_n rfl ?_; go_wp2_with (first | fail); simp only [DoneG, fillG, List.set_cons_zero, List.set_cons_succ, relG, eqG, eqG1, eqG2, eqG3, gdG, gdG1, gnG, gnG1, List.getD_cons_zero, List.getD_cons_succ, List.getElem?_cons_succ, List.getElem?_cons_zero, Option.map_some, Option.getD_some, valsG, List.map_cons, List.map_nil, List.length_cons, List.length_nil]; exact ⟨_, rfl, (by first | with_reducible assumption | exact krg _ | exact Keep.al (krg _) _), fun W9 hk9 => ⟨_, rfl, (hk9.frm fun _ => False).heap (fun h => h) (heap_alloc_new _ _), hW.size⟩⟩)
      · (intro us W h9 hW hE hd hs K hK; obtain ⟨u0, u1, u2, u3, u4, u5, u6, u7, u8, u9, u10, rfl⟩ := rog 11 h9 rfl; clear h9; clear hd; clear hs; simp only [fillG, List.set_cons_zero, List.set_cons_succ]; refine want_n rfl ?_; go_wp2_with (first | fail); simp only [DoneG, fillG, List.set_cons_zero, List.set_cons_succ, relG, eqG, eqG1, eqG2, eqG3, gdG, gdG1, gnG, gnG1, List.getD_cons_zero, List.getD_cons_succ, List.getElem?_cons_succ, List.getElem?_cons_zero, Option.map_some, Option.getD_some, valsG, List.map_cons, List.map_nil, List.length_cons, List.length_nil]; exact ⟨_, rfl, (by first | with_reducible assumption | exact krg _ | exact Keep.al (krg _) _), fun _ _ => rfl⟩)
      · (intro us W h9 hW hE hd hs K hK; obtain ⟨u0, u1, u2, u3, u4, u5, u6, u7, u8, u9, u10, rfl⟩ := rog 11 h9 rfl; clear h9; simp only [DepG, AtG, and_true, relG, eqG, eqG1, eqG2, eqG3, gdG, gdG1, gnG, gnG1, List.getD_cons_zero, List.getD_cons_succ, List.getElem?_cons_succ, List.getElem?_cons_zero, Option.map_some, Option.getD_some, valsG, List.map_cons, List.map_nil, List.length_cons, List.length_nil] at hd; obtain ⟨d0, d1⟩ := hd; obtain ⟨g0, rfl, hg0, hb0⟩ := d0; subst d1; clear hs; simp only [fillG, List.set_cons_zero, List.set_cons_succ]; have hKW := Keep.tr (Keep.dr (Keep.rf _)) (hE rfl); have b0 := Keep.cell hKW b0; have b1 := Keep.cell hKW b1; have b2 := Keep.cell hKW b2; refine want_n rfl ?_; refine wp_app0 (.tmp 18) (.tmp 19) 22 rfl w1.heap.size 5 _ 1 1 Try.underlying22 infoU8 rfl (by omega) g0 rfl hg0 hb0 _ b.length _ rfl (HB.out.keep (Keep.tr K1.out hKW)).src (by simp only [maxLen]; omega) (by omega) hW.size ?_; intro A2 c2 w2 ho2 hk2; refine hK _ _ ?_; simp only [DoneG, fillG, List.set_cons_zero, List.set_cons_succ, relG, eqG, eqG1, eqG2, eqG3, gdG, gdG1, gnG, gnG1, List.getD_cons_zero, List.getD_cons_succ, List.getElem?_cons_succ, List.getElem?_cons_zero, Option.map_some, Option.getD_some, valsG, List.map_cons, List.map_nil, List.length_cons, List.length_nil]; exact ⟨_, rfl, (by first | with_reducible assumption | exact krg _ | exact Keep.al (krg _) _), fun W9 hk9 => ⟨A2, c2, rfl, (Bs.of_own ho2).keep hk9⟩⟩)
      · (intro us W h9 hW hE hd hs K hK; obtain ⟨u0, u1, u2, u3, u4, u5, u6, u7, u8, u9, u10, rfl⟩ := rog 11 h9 rfl; clear h9; clear hd; clear hs; simp only [fillG, List.set_cons_zero, List.set_cons_succ]; have hKW := Keep.tr (Keep.dr (Keep.rf _)) (hE rfl); have b0 := Keep.cell hKW b0; have b1 := Keep.cell hKW b1; have b2 := Keep.cell hKW b2; refine want_n rfl ?_; go_wp2_with (first | fail); simp only [DoneG, fillG, List.set_cons_zero, List.set_cons_succ, relG, eqG, eqG1, eqG2, eqG3, gdG, gdG1, gnG, gnG1, List.getD_cons_zero, List.getD_cons_succ, List.getElem?_cons_succ, List.getElem?_cons_zero, Option.map_some, Option.getD_some, valsG, List.map_cons, List.map_nil, List.length_cons, List.length_nil]; exact ⟨_, rfl, (by first | with_reducible assumption | exact krg _ | exact Keep.al (krg _) _), fun _ _ => rfl⟩)
      · (intro us W h9 hW hE hd hs K hK; obtain ⟨u0, u1, u2, u3, u4, u5, u6, u7, u8, u9, u10, rfl⟩ := rog 11 h9 rfl; clear h9; simp only [DepG, AtG, and_true, relG, eqG, eqG1, eqG2, eqG3, gdG, gdG1, gnG, gnG1, List.getD_cons_zero, List.getD_cons_succ, List.getElem?_cons_succ, List.getElem?_cons_zero, Option.map_some, Option.getD_some, valsG, List.map_cons, List.map_nil, List.length_cons, List.length_nil] at hd; obtain ⟨d2, d3⟩ := hd; obtain ⟨A2, c2, rfl, o2⟩ := d2; subst d3; clear hs; simp only [fillG, List.set_cons_zero, List.set_cons_succ]; have hKW := Keep.tr (Keep.dr (Keep.rf _)) (hE rfl); have b0 := Keep.cell hKW b0; have b1 := Keep.cell hKW b1; have b2 := Keep.cell hKW b2; refine want_n rfl ?_; go_wp2_with (first | (go_at_call 25; refine (GU.out _ (Keep.tr K1.out hKW) _ o2).mono ?_; intro e w' hG; obtain ⟨A4, c4, rfl, hg4, k4⟩ := hG.outT) | fail); simp only [DoneG, fillG, List.set_cons_zero, List.set_cons_succ, relG, eqG, eqG1, eqG2, eqG3, gdG, gdG1, gnG, gnG1, List.getD_cons_zero, List.getD_cons_succ, List.getElem?_cons_succ, List.getElem?_cons_zero, Option.map_some, Option.getD_some, valsG, List.map_cons, List.map_nil, List.length_cons, List.length_nil]; exact ⟨_, rfl, (by first | with_reducible assumption | exact krg _ | exact Keep.al (krg _) _), fun W9 hk9 => ⟨A4, c4, rfl, hg4.keep hk9⟩⟩)
      · (intro us W h9 hW hE hd hs K hK; obtain ⟨u0, u1, u2, u3, u4, u5, u6, u7, u8, u9, u10, rfl⟩ := rog 11 h9 rfl; clear h9; simp only [DepG, AtG, and_true, relG, eqG, eqG1, eqG2, eqG3, gdG, gdG1, gnG, gnG1, List.getD_cons_zero, List.getD_cons_succ, List.getElem?_cons_succ, List.getElem?_cons_zero, Option.map_some, Option.getD_some, valsG, List.map_cons, List.map_nil, List.length_cons, List.length_nil] at hd; have d4 := hd; clear hd; obtain ⟨A4, c4, rfl, o4⟩ := d4; clear hs; simp only [fillG, List.set_cons_zero, List.set_cons_succ]; have hKW := Keep.tr (Keep.dr (Keep.rf _)) (hE rfl); have b0 := Keep.cell hKW b0; have b1 := Keep.cell hKW b1; have b2 := Keep.cell hKW b2; refine want_n rfl ?_; go_wp2_with (first | fail); simp only [DoneG, fillG, List.set_cons_zero, List.set_cons_succ, relG, eqG, eqG1, eqG2, eqG3, gdG, gdG1, gnG, gnG1, List.getD_cons_zero, List.getD_cons_succ, List.getElem?_cons_succ, List.getElem?_cons_zero, Option.map_some, Option.getD_some, valsG, List.map_cons, List.map_nil, List.length_cons, List.length_nil]; exact ⟨_, rfl, (by first | with_reducible assumption | exact krg _ | exact Keep.al (krg _) _), fun W9 hk9 => ⟨rfl, A4, c4, rfl⟩⟩)
      · (intro us W h9 hW hE hd hs K hK; obtain ⟨u0, u1, u2, u3, u4, u5, u6, u7, u8, u9, u10, rfl⟩ := rog 11 h9 rfl; clear h9; simp only [DepG, AtG, and_true, relG, eqG, eqG1, eqG2, eqG3, gdG, gdG1, gnG, gnG1, List.getD_cons_zero, List.getD_cons_succ, List.getElem?_cons_succ, List.getElem?_cons_zero, Option.map_some, Option.getD_some, valsG, List.map_cons, List.map_nil, List.length_cons, List.length_nil] at hd; obtain ⟨d4, d5⟩ := hd; obtain ⟨A4, c4, rfl, o4⟩ := d4; obtain ⟨e5, A5, c5, rfl⟩ := d5; clear hs; simp only [fillG, List.set_cons_zero, List.set_cons_succ]; have hKW := Keep.tr (Keep.dr (Keep.rf _)) (hE rfl); have b0 := Keep.cell hKW b0; have b1 := Keep.cell hKW b1; have b2 := Keep.cell hKW b2; refine want_n rfl ?_; go_wp2_with (first | fail); simp only [DoneG, fillG, List.set_cons_zero, List.set_cons_succ, relG, eqG, eqG1, eqG2, eqG3, gdG, gdG1, gnG, gnG1, List.getD_cons_zero, List.getD_cons_succ, List.getElem?_cons_succ, List.getElem?_cons_zero, Option.map_some, Option.getD_some, valsG, List.map_cons, List.map_nil, List.length_cons, List.length_nil]; exact ⟨_, rfl, (by first | with_reducible assumption | exact krg _ | exact Keep.al (krg _) _), fun W9 hk9 => ⟨_, _, rfl, by first | exact o4.keep hk9 | (cases e5; exact o4.keep hk9)⟩⟩)
      · (intro us W h9 hW hE hd hs K hK; obtain ⟨u0, u1, u2, u3, u4, u5, u6, u7, u8, u9, u10, rfl⟩ := rog 11 h9 rfl; clear h9; simp only [DepG, AtG, and_true, relG, eqG, eqG1, eqG2, eqG3, gdG, gdG1, gnG, gnG1, List.getD_cons_zero, List.getD_cons_succ, List.getElem?_cons_succ, List.getElem?_cons_zero, Option.map_some, Option.getD_some, valsG, List.map_cons, List.map_nil, List.length_cons, List.length_nil] at hd; have d5 := hd; clear hd; obtain ⟨e5, A5, c5, rfl⟩ := d5; clear hs; simp only [fillG, List.set_cons_zero, List.set_cons_succ]; refine want_n rfl ?_; go_wp2_with (first | fail); simp only [DoneG, fillG, List.set_cons_zero, List.set_cons_succ, relG, eqG, eqG1, eqG2, eqG3, gdG, gdG1, gnG, gnG1, List.getD_cons_zero, List.getD_cons_succ, List.getElem?_cons_succ, List.getElem?_cons_zero, Option.map_some, Option.getD_some, valsG, List.map_cons, List.map_nil, List.length_cons, List.length_nil]; exact ⟨_, rfl, (by first | with_reducible assumption | exact krg _ | exact Keep.al (krg _) _), fun _ _ => rfl⟩)
      · (intro us W h9 hW hE hd hs K hK; obtain ⟨u0, u1, u2, u3, u4, u5, u6, u7, u8, u9, u10, rfl⟩ := rog 11 h9 rfl; clear h9; clear hd; clear hs; simp only [fillG, List.set_cons_zero, List.set_cons_succ]; have hKW := Keep.tr (Keep.dr (Keep.rf _)) (hE rfl); have b0 := Keep.cell hKW b0; have b1 := Keep.cell hKW b1; have b2 := Keep.cell hKW b2; refine want_n rfl ?_; go_wp2_with (first | fail); simp only [DoneG, fillG, List.set_cons_zero, List.set_cons_succ, relG, eqG, eqG1, eqG2, eqG3, gdG, gdG1, gnG, gnG1, List.getD_cons_zero, List.getD_cons_succ, List.getElem?_cons_succ, List.getElem?_cons_zero, Option.map_some, Option.getD_some, valsG, List.map_cons, List.map_nil, List.length_cons, List.length_nil]; exact ⟨_, rfl, (by first | with_reducible assumption | exact krg _ | exact Keep.al (krg _) _), fun W9 hk9 => ⟨_, rfl, hW.size, (hk9.frm fun _ => False).heap (fun h => h) (heap_alloc_new _ _)⟩⟩)
      · (intro us W h9 hW hE hd hs K hK; obtain ⟨u0, u1, u2, u3, u4, u5, u6, u7, u8, u9, u10, rfl⟩ := rog 11 h9 rfl; clear h9; simp only [DepG, AtG, and_true, relG, eqG, eqG1, eqG2, eqG3, gdG, gdG1, gnG, gnG1, List.getD_cons_zero, List.getD_cons_succ, List.getElem?_cons_succ, List.getElem?_cons_zero, Option.map_some, Option.getD_some, valsG, List.map_cons, List.map_nil, List.length_cons, List.length_nil] at hd; obtain ⟨d6, d8⟩ := hd; obtain ⟨A6, c6, rfl, o6⟩ := d6; obtain ⟨b8, rfl, hb8, h8⟩ := d8; clear hs; simp only [fillG, List.set_cons_zero, List.set_cons_succ]; have hKW := Keep.tr (Keep.dr (Keep.rf _)) (hE rfl); have b0 := Keep.cell hKW b0; have b1 := Keep.cell hKW b1; have b2 := Keep.cell hKW b2; refine want_n rfl ?_; have f0 := top_free h8 0; have f1 := top_free h8 1; have f2 := top_free h8 2; have z0 := top_cells h8 0; have z1 := top_cells h8 1; have z2 := top_cells h8 2; simp only [List.getElem?_toArray, List.getElem?_cons_succ, List.getElem?_cons_zero] at z0 z1 z2; have hF9 := frm_set3 W b8 (.bool go.1.root.1) (.int .i64 go.1.root.2) (.slice A6 go.1.blocks.length c6); have hrel9 := hF9.mono (T := fun k => w1.heap.size ≤ k) (fun k _ e => by have e : k = b8 := e; omega); go_wp2_with fail; simp only [DoneG, fillG, List.set_cons_zero, List.set_cons_succ, relG, eqG, eqG1, eqG2, eqG3, gdG, gdG1, gnG, gnG1, List.getD_cons_zero, List.getD_cons_succ, List.getElem?_cons_succ, List.getElem?_cons_zero, Option.map_some, Option.getD_some, valsG, List.map_cons, List.map_nil, List.length_cons, List.length_nil]; exact ⟨undef, trivial, (by first | with_reducible assumption | exact trivial), fun W9 hk9 => StoG.mk hb8 ((hk9.frm fun _ => False).heap (fun h => h) (heap_set3 h8 _ _ _)) ((o6.stored h8 hF9).keep hk9)⟩)
      · (intro us W h9 hW hE hd hs K hK; obtain ⟨u0, u1, u2, u3, u4, u5, u6, u7, u8, u9, u10, rfl⟩ := rog 11 h9 rfl; clear h9; simp only [DepG, AtG, and_true, relG, eqG, eqG1, eqG2, eqG3, gdG, gdG1, gnG, gnG1, List.getD_cons_zero, List.getD_cons_succ, List.getElem?_cons_succ, List.getElem?_cons_zero, Option.map_some, Option.getD_some, valsG, List.map_cons, List.map_nil, List.length_cons, List.length_nil] at hd; have d7 := hd; clear hd; subst d7; clear hs; simp only [fillG, List.set_cons_zero, List.set_cons_succ]; refine want_n rfl ?_; go_wp2_with (first | fail); simp only [DoneG, fillG, List.set_cons_zero, List.set_cons_succ, relG, eqG, eqG1, eqG2, eqG3, gdG, gdG1, gnG, gnG1, List.getD_cons_zero, List.getD_cons_succ, List.getElem?_cons_succ, List.getElem?_cons_zero, Option.map_some, Option.getD_some, valsG, List.map_cons, List.map_nil, List.length_cons, List.length_nil]; exact ⟨_, rfl, (by first | with_reducible assumption | exact krg _ | exact Keep.al (krg _) _), fun _ _ => rfl⟩)
    (intro us W8 h9 hW hE hA; obtain ⟨u0, u1, u2, u3, u4, u5, u6, u7, u8, u9, u10, rfl⟩ := rog 11 h9 rfl; clear h9; simp only [AllG, AtG, and_true, relG, eqG, eqG1, eqG2, eqG3, gdG, gdG1, gnG, gnG1, List.getD_cons_zero, List.getD_cons_succ, List.getElem?_cons_succ, List.getElem?_cons_zero, Option.map_some, Option.getD_some, valsG, List.map_cons, List.map_nil, List.length_cons, List.length_nil] at hA; obtain ⟨d5, d9, d10⟩ := hA; obtain ⟨e5, A5, c5, rfl⟩ := d5; subst d10; simp only [fillG, List.set_cons_zero, List.set_cons_succ])
    obtain ⟨b8, A8, c8, e8, hb8, h8, hg8⟩ := d9
    subst e8
    have hW0 : Frm (fun k => w1.heap.size ≤ k) w1 W8 := ((Keep.dr (Keep.rf _)).frm _).tr hW
    have hlt := (Array.getElem?_eq_some_iff.1 HB1.out).1
    have hB8 := hW0.heap (show ¬ w1.heap.size ≤ w.heap.size by omega) HB1.out
    have K8 := hide (Frm.keep K1.out hW0 fun k hk => Nat.le_trans K1.out.size hk)
    have b0 := top_cells hB8 0
    have b1 := top_cells hB8 1
    have b2 := top_cells hB8 2
    simp only [List.getElem?_toArray, List.getElem?_cons_succ, List.getElem?_cons_zero] at b0 b1 b2
    have H8 := hide h8
    have HG8 := hide hg8
    have GVX := hide (GV.out W8 K8.out)
    clear hW hE hW0 hB8 h8 hg8 hlt HB1 GV GU HBX
    go_wp2_with fail
    refine GVX.out.mono ?_
    intro e w9 hG
    obtain ⟨A9, c9, rfl, hg9, k9⟩ := hG.outT
    clear hG
    have ka : Keep w9 (w9.alloc (.cells #[.bool go.1.root.1, .int .i64 go.1.root.2, .slice A9 go.1.blocks.length c9] 31)) := (by repeat (first | exact Keep.rf _ | assumption | apply Keep.al | apply Keep.dr | apply Keep.dn))
    have ha := heap_alloc_new w9 (.cells #[.bool go.1.root.1, .int .i64 go.1.root.2, .slice A9 go.1.blocks.length c9] 31)
    have k89 := Keep.tr k9 ka
    have h8' := (k89.frm fun _ => False).heap (fun h => h) H8.out
    have p0 := top_cells h8' 0
    have p1 := top_cells h8' 1
    have p2 := top_cells h8' 2
    have q0 := top_cells ha 0
    have q1 := top_cells ha 1
    have q2 := top_cells ha 2
    simp only [List.getElem?_toArray, List.getElem?_cons_succ, List.getElem?_cons_zero] at p0 p1 p2 q0 q1 q2
    have HGA := hide (HG8.out.keep k89)
    have HGB := hide (hg9.keep ka).1
    have KA := hide (Keep.tr K8.out k89)
    clear ka ha k89 h8' hg9 k9 b0 b1 b2
    go_wp2_with fail
    generalize World.alloc w9 _ = Wa at *
    refine (refSame18 _ _ _ _ _ HGA.out HGB.out).mono ?_
    rintro e w10 ⟨rfl, k10⟩
    rw [decide_eq_true rfl]
    have p0 := Keep.cell k10 p0
    have p1 := Keep.cell k10 p1
    have p2 := Keep.cell k10 p2
    have HGC := hide (HGA.out.keep k10)
    have K10 := hide (Keep.tr KA.out k10)
    clear k10 q0 q1 q2
    obtain ⟨gg, cc⟩ := go
    simp only at *
    by_cases hc : cc = 0
    · subst hc
      have HI := hide (HIS.out gg rfl)
      go_wp2_with fail
      refine (refIs18 _ _ _ HGC.out).mono ?_
      rintro e w11 ⟨rfl, k11⟩
      rw [HI.out]
      go_wp2_with fail
      refine (law23Known _).mono ?_
      rintro e w12 ⟨rfl, k12⟩
      go_wp2_with fail
      go_ret
      exact ⟨rfl, Keep.tr (Keep.tr K10.out k11) k12⟩
    · have hcb : (cc != 0) = true := by simpa using hc
      go_wp2_with fail
      refine (law23Known _).mono ?_
      rintro e w12 ⟨rfl, k12⟩
      go_wp2_with fail
      go_ret
      exact ⟨rfl, Keep.tr K10.out k12⟩
end Go.Proofs.Ytoehaijmkmdggaa
