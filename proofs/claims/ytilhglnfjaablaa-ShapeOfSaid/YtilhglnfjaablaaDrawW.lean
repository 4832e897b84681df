/- Walk: a word as a value of the graph (drawer.ref), given how a block is drawn. -/
import Derived.Test.YtilhglnfjaablaaDrawR
import Derived.Test.YtilhglnfjaablaaRefA
import Derived.Test.YtilhglnfjaablaaShapeO
namespace Go.Proofs.Ytilhglnfjaablaa
open Go.RowKit Go.Maps
set_option linter.unusedVariables false
set_option linter.unusedSimpArgs false
set_option maxRecDepth 100000
theorem heap_set2 {w : World} {b : Nat} {x y : Value} {ty : TypeId} (h : w.heap[b]? = some (.cells #[x, y] ty)) (u v : Value) : ((w.setCell ⟨b, 0, none⟩ u).setCell ⟨b, 1, none⟩ v).heap[b]? = some (.cells #[u, v] ty) := heap_setT (j := 1) (heap_setT (j := 0) h u) v
/-- One struct, to be appended. -/
def OneBlk (tag : Int) (W : World) (v : Value) : Prop := ∃ g, v = .slice (some ⟨g, 0, none⟩) 1 1 ∧ W.heap[g]? = some (.cells #[.int .i64 tag, .string (str []), .slice none 0 0] 53)
theorem OneBlk.keep {tag : Int} {W W' : World} {v : Value} (h : OneBlk tag W v) (k : Keep W W') : OneBlk tag W' v := by
  obtain ⟨g, e, h⟩ := h
  exact ⟨g, e, (k.frm fun _ => False).heap (fun h => h) h⟩
theorem OneBlk.src {tag : Int} {W : World} {v : Value} (h : OneBlk tag W v) : Src W 3 v 1 (blkCells (⟨tag, [], []⟩, .slice none 0 0)) := by
  obtain ⟨g, rfl, h⟩ := h
  exact src3 h
/-- A block was pushed onto the row, which is not put back yet. -/
def BPush (w0 : World) (B : Nat) (l : Value) (its : List (Em.Blk × Value)) (tag : Int) (W : World) (v : Value) : Prop :=
  ∃ Wb, Keep w0 Wb ∧ Wb.grownBy W l.ownBlock ∧ (v.ownBlock = l.ownBlock ∨ v.ownBlock = some Wb.heap.size) ∧ W.ownsRow B 53 3 v (its.length + 1) ((its.map blkCells).flatten ++ blkCells (⟨tag, [], []⟩, .slice none 0 0))
theorem BPush.keep {w0 W W' : World} {B : Nat} {l v : Value} {its : List (Em.Blk × Value)} {tag : Int} (h : BPush w0 B l its tag W v) (k : Keep W W') : BPush w0 B l its tag W' v := by
  obtain ⟨Wb, h1, h2, h3, h4⟩ := h
  exact ⟨Wb, h1, grown_keep h2 k, h3, own_keep h4 k⟩
theorem BPush.mk {w0 Wb W : World} {B : Nat} {l v : Value} {its : List (Em.Blk × Value)} {tag : Int} (k : Keep w0 Wb) (h : App Wb B 53 3 l (its.length + 1) ((its.map blkCells).flatten ++ blkCells (⟨tag, [], []⟩, .slice none 0 0)) v W) : BPush w0 B l its tag W v := by
  obtain ⟨h1, h2, h3⟩ := h
  exact ⟨Wb, k, h2, h3, h1⟩
theorem infoBlk : (Try.prog.info? 53).map (fun i => (i.zero, i.size, i.bytes)) = some (some (.agg #[.int .i64 0, .string (str []), .slice none 0 0]), 3, 48) := by kernel_rfl
theorem zeroInt (w : World) : (zeroValue 3).run Try.prog w = .ok (.int .i64 0) w := by kernel_rfl
theorem DR.pushed {tt B : Nat} {U : List Int} {w W' : World} {dp mb : Nat} {hv l : Value} {its : List (Em.Blk × Value)} {s : Em.Dw} (h : DR tt B U w dp mb hv l its s) {n : Int} (hn : n ∈ U) (hp : Em.pos s.ws n = none) {tag : Int} (ht : (Lit.int .i64 tag).wf = true)
    {w1 : World} (hm : MapF w1 mb (posV (s.ws ++ [n]))) (F1 : Frm (· = mb) w w1) {v' : Value} (hb : BPush w1 B l its tag W' v') :
    DR tt B U (W'.setCell ⟨dp, 2, none⟩ v') dp mb hv v' (its ++ [(⟨tag, [], []⟩, .slice none 0 0)]) (s.come n tag) ∧ Went U w (W'.setCell ⟨dp, 2, none⟩ v') dp mb l v' its (its ++ [(⟨tag, [], []⟩, .slice none 0 0)]) s (s.come n tag) := by
  obtain ⟨Wb, k1, hg, hmv, ho⟩ := hb
  have R1 := (h.raw.mapped hm F1).keep k1
  have R2 := R1.pushed ht ho hg hmv
  have hs : w.heap.size ≤ Wb.heap.size := Nat.le_trans F1.size k1.size
  have hu := Em.uns_snoc hn (Em.pos_none.1 hp)
  refine ⟨⟨R2, ?_, ?_, ?_⟩, ?_, ?_, ?_, List.prefix_append _ _⟩
  · simp [Em.Dw.come, h.bl]
  · simp [Em.Dw.come, h.wl]
  · have := h.cnt
    simp only [Em.Dw.come, List.length_append, List.length_singleton]
    omega
  · have F2 : Frm (fun k => l.ownBlock = some k) Wb W' := Frm.of_grown hg fun _ e => e
    refine (((F1.mono fun _ _ e => .inr (.inl e)).tr (k1.frm _)).tr (F2.mono fun _ _ e => .inr (.inr e))).tr ?_
    exact Frm.st (Frm.rf _ _) (p := ⟨dp, 2, none⟩) (.inl (.inl rfl)) _
  · intro k e
    rcases hmv with e2 | e2
    · exact .inl (by rw [← e2, e])
    · rw [e2] at e
      injection e with e
      exact .inr (by omega)
  · rintro k (e | e | e | ⟨it, hit, e⟩)
    · exact .inl (.inl e)
    · exact .inl (.inr (.inl e))
    · rcases hmv with e2 | e2
      · exact .inl (.inr (.inr (.inl (by rw [← e2, e]))))
      · rw [e2] at e
        injection e with e
        exact .inr (by omega)
    · rcases List.mem_append.1 hit with hit | hit
      · exact .inl (.inr (.inr (.inr ⟨it, hit, e⟩)))
      · obtain rfl := List.mem_singleton.1 hit
        simp [Value.ownBlock] at e
theorem Went.stx {U : List Int} {w w1 w' : World} {dp mb x : Nat} {l l' : Value} {its its' : List (Em.Blk × Value)} {s s' : Em.Dw} (h : Went U w w1 dp mb l l' its its' s s') (F : Frm (· = x) w1 w') (hx : w.heap.size ≤ x) : Went U w w' dp mb l l' its its' s s' :=
  { h with frm := h.frm.trn F fun i e => .inr (by have e : i = x := e; omega) }
/-- What drawing a value gives. -/
def RetD (tt B : Nat) (U : List Int) (dp mb : Nat) (hv : Value) (w : World) (l : Value) (its : List (Em.Blk × Value)) (s : Em.Dw) (r : (Bool × Int) × Em.Dw) (e : Ending) (w' : World) : Prop :=
  ∃ l' its', e = .returned (.agg #[.bool r.1.1, .int .i64 r.1.2]) ∧ (Lit.int .i64 r.1.2).wf = true ∧ DR tt B U w' dp mb hv l' its' r.2 ∧ Went U w w' dp mb l l' its its' s r.2
/-- What drawing a block gives. -/
def RetB (tt B : Nat) (U : List Int) (dp mb : Nat) (hv : Value) (w : World) (l : Value) (its : List (Em.Blk × Value)) (s s' : Em.Dw) (e : Ending) (w' : World) : Prop :=
  ∃ l' its', e = .returned (.tuple #[]) ∧ DR tt B U w' dp mb hv l' its' s' ∧ Went U w w' dp mb l l' its its' s s'
def RefC (B : Nat) (U : List Int) (dp mb p : Nat) (w0 : World) (H : Em.Hp) (f : Nat) : Prop :=
  ∀ (w : World) (l : Value) (its : List (Em.Blk × Value)) (s : Em.Dw) (n : Int), Keep w0 w → DR 88 B U w dp mb (.pointer (some ⟨p, 0, none⟩)) l its s → n ∈ U → (Lit.int .i64 n).wf = true → Em.uns U s.ws < f →
    Calls Try.prog 47 #[.pointer (some ⟨dp, 0, none⟩), .int .i64 n] w (RetD 88 B U dp mb (.pointer (some ⟨p, 0, none⟩)) w l its s (Em.refP f H n s))
def BlkC (B : Nat) (U : List Int) (dp mb p : Nat) (w0 : World) (H : Em.Hp) (f : Nat) : Prop :=
  ∀ (w : World) (l : Value) (its : List (Em.Blk × Value)) (s : Em.Dw) (n : Int) (i : Nat), Keep w0 w → DR 88 B U w dp mb (.pointer (some ⟨p, 0, none⟩)) l its s → i < its.length → (Lit.int .i64 n).wf = true → Em.uns U s.ws < f →
    Calls Try.prog 74 #[.pointer (some ⟨dp, 0, none⟩), .int .i64 n, .int .i64 (i : Int)] w (RetB 88 B U dp mb (.pointer (some ⟨p, 0, none⟩)) w l its s (Em.fillP (Em.refP f H) H n i s))
theorem wf_half {n : Int} (hn : (Lit.int .i64 n).wf = true) : (Lit.int .i64 (n / 2)).wf = true := by
  have := in_i64 hn
  simp [Lit.wf, IntKind.min, IntKind.max, IntKind.bits, IntKind.signed]
  omega
theorem wf_nat {n : Nat} (hn : n ≤ 1000000000) : (Lit.int .i64 (n : Int)).wf = true := by
  simp [Lit.wf, IntKind.min, IntKind.max, IntKind.bits, IntKind.signed]
  omega
set_option maxHeartbeats 8000000 in
theorem drawRef_step {B : Nat} {U : List Int} {dp mb p : Nat} {w0 : World} {H : Em.Hp} {f sz : Nat} {S : List Nat} (hrep : HRep w0 p S sz H) (hB : w0.heap.size ≤ B) (hblk : BlkC B U dp mb p w0 H f) : RefC B U dp mb p w0 H (f + 1) := by
  intro w l its s n k0 hd hU hn hf
  by_cases ho : n % 2 = 1
  · have HR := hide (show Em.refP (f + 1) H n s = ((true, n / 2), s) from by rw [Em.refP, if_pos ho])
    refine (drawRefInt w _ n ho).mono ?_
    rintro e w' ⟨rfl, k⟩
    rw [HR.out]
    exact ⟨l, its, rfl, wf_half hn, hd.keep k, Went.of_keep k⟩
  have ho1 : (n % 2 == 1) = false := by simpa using ho
  have kal := Keep.al (Keep.rf w) (.cells #[.bool false, .int .i64 0] 31)
  have hd1 := hd.keep kal
  have hx0 := heap_alloc_new w (.cells #[.bool false, .int .i64 0] 31)
  have hnx : ¬ HasD dp mb l its w.heap.size := fun e => by have := (hd.raw.lt _ e).2; omega
  have hlk := hd1.raw.map.look_ok (P := Try.prog) Try.underlying86 Try.underlying24 (zeroInt _) n hn
  have d0 := top_cells hd1.raw.top 0
  have d1 := top_cells hd1.raw.top 1
  have d2 := top_cells hd1.raw.top 2
  have x0 := top_cells hx0 0
  have x1 := top_cells hx0 1
  simp only [List.getElem?_toArray, List.getElem?_cons_succ, List.getElem?_cons_zero] at d0 d1 d2 x0 x1
  have HO := hide ho
  have k01 := Keep.tr k0 kal
  unfold posV at hlk
  cases hp : Em.pos s.ws n with
  | some i =>
    have HR := hide (show Em.refP (f + 1) H n s = ((false, (i : Int)), s) from by rw [Em.refP, if_neg HO.out, hp])
    have hib := Em.pos_lt hp
    have hcnt := hd.cnt
    rw [hp] at hlk
    clear hp ho
    go_enter Try.func47, Try.ntmps47
    go_wp2_with fail
    refine (heapIsInt n _).mono ?_
    rintro e w1 ⟨rfl, rfl⟩
    rw [ho1]
    go_wp2_with fail
    have kal2 := Keep.al (Keep.rf w) (.cells #[.bool false, .int .i64 (i : Int)] 31)
    refine bodyPost_ret_by (results_cell_row rfl _ _ w.heap.size 31 _ (0, 0) _ rfl (by simpa using heap_alloc_new w _) Try.underlying31 rfl ?_) rfl ?_
    · kernel_rfl
    · rw [HR.out]
      exact ⟨l, its, rfl, wf_nat (by omega), hd.keep (by repeat (first | exact Keep.rf _ | assumption | apply Keep.al | apply Keep.dr | apply Keep.dn)), Went.of_keep (by repeat (first | exact Keep.rf _ | assumption | apply Keep.al | apply Keep.dr | apply Keep.dn))⟩
  | none =>
    rw [hp] at hlk
    have htag : (Lit.int .i64 (Em.blk H n).1).wf = true := (hrep.blk n).2.2
    have HR := hide (show Em.refP (f + 1) H n s = ((false, (s.bl.length : Int)), Em.fillP (Em.refP f H) H n s.bl.length (s.come n (Em.blk H n).1)) from by rw [Em.refP, if_neg HO.out, hp])
    have hbl : s.bl.length = its.length := by rw [hd.bl]; simp
    rw [hbl] at HR
    have hcnt := hd.cnt
    have hwl := hd.wl
    have hpv : posV s.ws n = none := by unfold posV; rw [hp]; rfl
    obtain ⟨w2, hup, hm2, F2⟩ := hd1.raw.map.put (P := Try.prog) Try.underlying86 Try.underlying24 n hn hpv (.int .i64 (its.length : Int))
    rw [← hwl, ← posV_snoc hp] at hm2
    obtain ⟨A, c, rfl⟩ := own_slice hd.raw.row
    have hR2 := hd1.raw.mapped hm2 F2
    have e0 := top_cells hR2.top 0
    have e2 := top_cells hR2.top 2
    simp only [List.getElem?_toArray, List.getElem?_cons_succ, List.getElem?_cons_zero] at e0 e2
    have hx2 := F2.heap (fun e => hnx (.inr (.inl e))) hx0
    have hlen : its.length ≤ 100000 := by omega
    have k02 : Keep w0 w2 := Frm.keep k01 F2 fun i e => by have := hd.raw.d1.2.1; have : i = mb := e; omega
    have hbB := hd1.raw.lt
    have HD1 := hide hd1
    have HR2 := hide hR2
    have HX2 := hide hx2
    have hBw : B ≤ w2.heap.size := by
      have h1 := (hd1.raw.lt dp (.inl rfl))
      have := F2.size
      omega
    clear ho hd1 hx0 x0 x1 hR2 hx2 hbB hwl hcnt hbl
    go_enter Try.func47, Try.ntmps47
    go_wp2_with fail
    refine (heapIsInt n _).mono ?_
    rintro e w1 ⟨rfl, rfl⟩
    rw [ho1]
    go_wp2_with fail
    apply region_last 16 _ (by kernel_rfl) Keep AnyW krg ktg anyrf anytr anyk [some 34, some 35, some 36, some 37, some 38, some 39, some 40, some 41, some 42, some 43, some 44, some 45, some 46, some 47, some 48, some 49, none] [eqG _ , eqG _ , eqG _ , eqG _ , eqG _ , eqG _ , eqG _ , eqG _ , eqG _ , eqG _ , fun us _ v => v = .int .i64 (Em.blk H n).1, fun us _ v => v = .agg #[.int .i64 (Em.blk H n).1, .string (str []), .slice none 0 0], fun us W v => OneBlk (Em.blk H n).1 W v, fun us W v => BPush w2 B (.slice A its.length c) its (Em.blk H n).1 W v, eqG _ , eqG _ , fun _ _ _ => True] [⟨[], [], false, false, false⟩, ⟨[], [], true, false, false⟩, ⟨[1], [], true, false, false⟩, ⟨[2], [], true, false, false⟩, ⟨[3], [], true, false, false⟩, ⟨[], [], true, false, false⟩, ⟨[5], [], true, false, false⟩, ⟨[6], [], true, false, false⟩, ⟨[7], [], true, false, false⟩, ⟨[], [], true, false, false⟩, ⟨[8, 9], [], true, false, false⟩, ⟨[10], [], true, false, false⟩, ⟨[11], [], true, false, true⟩, ⟨[4, 12], [], true, true, true⟩, ⟨[0], [], false, false, false⟩, ⟨[14], [], false, false, false⟩, ⟨[13, 15], [], false, false, false⟩] [13, 15] (by kernel_rfl) (by kernel_rfl) (by kernel_rfl) rfl (by kernel_rfl)
    · refine ⟨?_, ?_, ?_, ?_, ?_, ?_, ?_, ?_, ?_, ?_, ?_, ?_, ?_, ?_, ?_, ?_, trivial⟩
      · (intro us W h9 hW hE hd hs K hK; obtain ⟨u0, u1, u2, u3, u4, u5, u6, u7, u8, u9, u10, u11, u12, u13, u14, u15, u16, rfl⟩ := rog 17 h9 rfl; clear h9; clear hd; clear hs; simp only [fillG, List.set_cons_zero, List.set_cons_succ]; refine want_n rfl ?_; go_wp2_with (first | fail); simp only [DoneG, fillG, List.set_cons_zero, List.set_cons_succ, relG, eqG, eqG1, eqG2, eqG3, gdG, gdG1, gnG, gnG1, List.getD_cons_zero, List.getD_cons_succ, List.getElem?_cons_succ, List.getElem?_cons_zero, Option.map_some, Option.getD_some, valsG, List.map_cons, List.map_nil, List.length_cons, List.length_nil]; exact ⟨_, rfl, (by first | with_reducible assumption | exact krg _ | exact Keep.al (krg _) _), fun _ _ => rfl⟩)
      · (intro us W h9 hW hE hd hs K hK; obtain ⟨u0, u1, u2, u3, u4, u5, u6, u7, u8, u9, u10, u11, u12, u13, u14, u15, u16, rfl⟩ := rog 17 h9 rfl; clear h9; clear hd; clear hs; simp only [fillG, List.set_cons_zero, List.set_cons_succ]; refine want_n rfl ?_; go_wp2_with (first | fail); simp only [DoneG, fillG, List.set_cons_zero, List.set_cons_succ, relG, eqG, eqG1, eqG2, eqG3, gdG, gdG1, gnG, gnG1, List.getD_cons_zero, List.getD_cons_succ, List.getElem?_cons_succ, List.getElem?_cons_zero, Option.map_some, Option.getD_some, valsG, List.map_cons, List.map_nil, List.length_cons, List.length_nil]; exact ⟨_, rfl, (by first | with_reducible assumption | exact krg _ | exact Keep.al (krg _) _), fun _ _ => rfl⟩)
      · (intro us W h9 hW hE hd hs K hK; obtain ⟨u0, u1, u2, u3, u4, u5, u6, u7, u8, u9, u10, u11, u12, u13, u14, u15, u16, rfl⟩ := rog 17 h9 rfl; clear h9; simp only [DepG, AtG, and_true, relG, eqG, eqG1, eqG2, eqG3, gdG, gdG1, gnG, gnG1, List.getD_cons_zero, List.getD_cons_succ, List.getElem?_cons_succ, List.getElem?_cons_zero, Option.map_some, Option.getD_some, valsG, List.map_cons, List.map_nil, List.length_cons, List.length_nil] at hd; have d1 := hd; clear hd; subst d1; clear hs; simp only [fillG, List.set_cons_zero, List.set_cons_succ]; refine want_n rfl ?_; go_wp2_with (first | fail); simp only [DoneG, fillG, List.set_cons_zero, List.set_cons_succ, relG, eqG, eqG1, eqG2, eqG3, gdG, gdG1, gnG, gnG1, List.getD_cons_zero, List.getD_cons_succ, List.getElem?_cons_succ, List.getElem?_cons_zero, Option.map_some, Option.getD_some, valsG, List.map_cons, List.map_nil, List.length_cons, List.length_nil]; exact ⟨_, rfl, (by first | with_reducible assumption | exact krg _ | exact Keep.al (krg _) _), fun _ _ => rfl⟩)
      · (intro us W h9 hW hE hd hs K hK; obtain ⟨u0, u1, u2, u3, u4, u5, u6, u7, u8, u9, u10, u11, u12, u13, u14, u15, u16, rfl⟩ := rog 17 h9 rfl; clear h9; simp only [DepG, AtG, and_true, relG, eqG, eqG1, eqG2, eqG3, gdG, gdG1, gnG, gnG1, List.getD_cons_zero, List.getD_cons_succ, List.getElem?_cons_succ, List.getElem?_cons_zero, Option.map_some, Option.getD_some, valsG, List.map_cons, List.map_nil, List.length_cons, List.length_nil] at hd; have d2 := hd; clear hd; subst d2; clear hs; simp only [fillG, List.set_cons_zero, List.set_cons_succ]; refine want_n rfl ?_; go_wp2_with (first | fail); simp only [DoneG, fillG, List.set_cons_zero, List.set_cons_succ, relG, eqG, eqG1, eqG2, eqG3, gdG, gdG1, gnG, gnG1, List.getD_cons_zero, List.getD_cons_succ, List.getElem?_cons_succ, List.getElem?_cons_zero, Option.map_some, Option.getD_some, valsG, List.map_cons, List.map_nil, List.length_cons, List.length_nil]; exact ⟨_, rfl, (by first | with_reducible assumption | exact krg _ | exact Keep.al (krg _) _), fun _ _ => rfl⟩)
      · (intro us W h9 hW hE hd hs K hK; obtain ⟨u0, u1, u2, u3, u4, u5, u6, u7, u8, u9, u10, u11, u12, u13, u14, u15, u16, rfl⟩ := rog 17 h9 rfl; clear h9; simp only [DepG, AtG, and_true, relG, eqG, eqG1, eqG2, eqG3, gdG, gdG1, gnG, gnG1, List.getD_cons_zero, List.getD_cons_succ, List.getElem?_cons_succ, List.getElem?_cons_zero, Option.map_some, Option.getD_some, valsG, List.map_cons, List.map_nil, List.length_cons, List.length_nil] at hd; have d3 := hd; clear hd; subst d3; clear hs; simp only [fillG, List.set_cons_zero, List.set_cons_succ]; have hKW := Keep.tr (Keep.dr (Keep.rf _)) (hE rfl); have e0 := Keep.cell hKW e0; have e2 := Keep.cell hKW e2; refine want_n rfl ?_; go_wp2_with (first | fail); simp only [DoneG, fillG, List.set_cons_zero, List.set_cons_succ, relG, eqG, eqG1, eqG2, eqG3, gdG, gdG1, gnG, gnG1, List.getD_cons_zero, List.getD_cons_succ, List.getElem?_cons_succ, List.getElem?_cons_zero, Option.map_some, Option.getD_some, valsG, List.map_cons, List.map_nil, List.length_cons, List.length_nil]; exact ⟨_, rfl, (by first | with_reducible assumption | exact krg _ | exact Keep.al (krg _) _), fun _ _ => rfl⟩)
      · (intro us W h9 hW hE hd hs K hK; obtain ⟨u0, u1, u2, u3, u4, u5, u6, u7, u8, u9, u10, u11, u12, u13, u14, u15, u16, rfl⟩ := rog 17 h9 rfl; clear h9; clear hd; clear hs; simp only [fillG, List.set_cons_zero, List.set_cons_succ]; refine want_n rfl ?_; go_wp2_with (first | fail); simp only [DoneG, fillG, List.set_cons_zero, List.set_cons_succ, relG, eqG, eqG1, eqG2, eqG3, gdG, gdG1, gnG, gnG1, List.getD_cons_zero, List.getD_cons_succ, List.getElem?_cons_succ, List.getElem?_cons_zero, Option.map_some, Option.getD_some, valsG, List.map_cons, List.map_nil, List.length_cons, List.length_nil]; exact ⟨_, rfl, (by first | with_reducible assumption | exact krg _ | exact Keep.al (krg _) _), fun _ _ => rfl⟩)
      · (intro us W h9 hW hE hd hs K hK; obtain ⟨u0, u1, u2, u3, u4, u5, u6, u7, u8, u9, u10, u11, u12, u13, u14, u15, u16, rfl⟩ := rog 17 h9 rfl; clear h9; simp only [DepG, AtG, and_true, relG, eqG, eqG1, eqG2, eqG3, gdG, gdG1, gnG, gnG1, List.getD_cons_zero, List.getD_cons_succ, List.getElem?_cons_succ, List.getElem?_cons_zero, Option.map_some, Option.getD_some, valsG, List.map_cons, List.map_nil, List.length_cons, List.length_nil] at hd; have d5 := hd; clear hd; subst d5; clear hs; simp only [fillG, List.set_cons_zero, List.set_cons_succ]; refine want_n rfl ?_; go_wp2_with (first | fail); simp only [DoneG, fillG, List.set_cons_zero, List.set_cons_succ, relG, eqG, eqG1, eqG2, eqG3, gdG, gdG1, gnG, gnG1, List.getD_cons_zero, List.getD_cons_succ, List.getElem?_cons_succ, List.getElem?_cons_zero, Option.map_some, Option.getD_some, valsG, List.map_cons, List.map_nil, List.length_cons, List.length_nil]; exact ⟨_, rfl, (by first | with_reducible assumption | exact krg _ | exact Keep.al (krg _) _), fun _ _ => rfl⟩)
      · (intro us W h9 hW hE hd hs K hK; obtain ⟨u0, u1, u2, u3, u4, u5, u6, u7, u8, u9, u10, u11, u12, u13, u14, u15, u16, rfl⟩ := rog 17 h9 rfl; clear h9; simp only [DepG, AtG, and_true, relG, eqG, eqG1, eqG2, eqG3, gdG, gdG1, gnG, gnG1, List.getD_cons_zero, List.getD_cons_succ, List.getElem?_cons_succ, List.getElem?_cons_zero, Option.map_some, Option.getD_some, valsG, List.map_cons, List.map_nil, List.length_cons, List.length_nil] at hd; have d6 := hd; clear hd; subst d6; clear hs; simp only [fillG, List.set_cons_zero, List.set_cons_succ]; refine want_n rfl ?_; go_wp2_with (first | fail); simp only [DoneG, fillG, List.set_cons_zero, List.set_cons_succ, relG, eqG, eqG1, eqG2, eqG3, gdG, gdG1, gnG, gnG1, List.getD_cons_zero, List.getD_cons_succ, List.getElem?_cons_succ, List.getElem?_cons_zero, Option.map_some, Option.getD_some, valsG, List.map_cons, List.map_nil, List.length_cons, List.length_nil]; exact ⟨_, rfl, (by first | with_reducible assumption | exact krg _ | exact Keep.al (krg _) _), fun _ _ => rfl⟩)
      · (intro us W h9 hW hE hd hs K hK; obtain ⟨u0, u1, u2, u3, u4, u5, u6, u7, u8, u9, u10, u11, u12, u13, u14, u15, u16, rfl⟩ := rog 17 h9 rfl; clear h9; simp only [DepG, AtG, and_true, relG, eqG, eqG1, eqG2, eqG3, gdG, gdG1, gnG, gnG1, List.getD_cons_zero, List.getD_cons_succ, List.getElem?_cons_succ, List.getElem?_cons_zero, Option.map_some, Option.getD_some, valsG, List.map_cons, List.map_nil, List.length_cons, List.length_nil] at hd; have d7 := hd; clear hd; subst d7; clear hs; simp only [fillG, List.set_cons_zero, List.set_cons_succ]; have hKW := Keep.tr (Keep.dr (Keep.rf _)) (hE rfl); have e0 := Keep.cell hKW e0; have e2 := Keep.cell hKW e2; refine want_n rfl ?_; go_wp2_with (first | fail); simp only [DoneG, fillG, List.set_cons_zero, List.set_cons_succ, relG, eqG, eqG1, eqG2, eqG3, gdG, gdG1, gnG, gnG1, List.getD_cons_zero, List.getD_cons_succ, List.getElem?_cons_succ, List.getElem?_cons_zero, Option.map_some, Option.getD_some, valsG, List.map_cons, List.map_nil, List.length_cons, List.length_nil]; exact ⟨_, rfl, (by first | with_reducible assumption | exact krg _ | exact Keep.al (krg _) _), fun _ _ => rfl⟩)
      · (intro us W h9 hW hE hd hs K hK; obtain ⟨u0, u1, u2, u3, u4, u5, u6, u7, u8, u9, u10, u11, u12, u13, u14, u15, u16, rfl⟩ := rog 17 h9 rfl; clear h9; clear hd; clear hs; simp only [fillG, List.set_cons_zero, List.set_cons_succ]; refine want_n rfl ?_; go_wp2_with (first | fail); simp only [DoneG, fillG, List.set_cons_zero, List.set_cons_succ, relG, eqG, eqG1, eqG2, eqG3, gdG, gdG1, gnG, gnG1, List.getD_cons_zero, List.getD_cons_succ, List.getElem?_cons_succ, List.getElem?_cons_zero, Option.map_some, Option.getD_some, valsG, List.map_cons, List.map_nil, List.length_cons, List.length_nil]; exact ⟨_, rfl, (by first | with_reducible assumption | exact krg _ | exact Keep.al (krg _) _), fun _ _ => rfl⟩)
      · (intro us W h9 hW hE hd hs K hK; obtain ⟨u0, u1, u2, u3, u4, u5, u6, u7, u8, u9, u10, u11, u12, u13, u14, u15, u16, rfl⟩ := rog 17 h9 rfl; clear h9; simp only [DepG, AtG, and_true, relG, eqG, eqG1, eqG2, eqG3, gdG, gdG1, gnG, gnG1, List.getD_cons_zero, List.getD_cons_succ, List.getElem?_cons_succ, List.getElem?_cons_zero, Option.map_some, Option.getD_some, valsG, List.map_cons, List.map_nil, List.length_cons, List.length_nil] at hd; obtain ⟨d8, d9⟩ := hd; subst d8; subst d9; clear hs; simp only [fillG, List.set_cons_zero, List.set_cons_succ]; have hKW := Keep.tr (Keep.dr (Keep.rf _)) (hE rfl); have e0 := Keep.cell hKW e0; have e2 := Keep.cell hKW e2; refine want_n rfl ?_; go_wp2_with (first | (go_at_call 27; refine (heapTag _ (hrep.keep (Keep.tr k02 hKW)) n hn).mono ?_; rintro e w9 ⟨rfl, rfl⟩) | fail); simp only [DoneG, fillG, List.set_cons_zero, List.set_cons_succ, relG, eqG, eqG1, eqG2, eqG3, gdG, gdG1, gnG, gnG1, List.getD_cons_zero, List.getD_cons_succ, List.getElem?_cons_succ, List.getElem?_cons_zero, Option.map_some, Option.getD_some, valsG, List.map_cons, List.map_nil, List.length_cons, List.length_nil]; exact ⟨_, rfl, (by first | with_reducible assumption | exact krg _ | exact Keep.al (krg _) _), fun _ _ => rfl⟩)
      · (intro us W h9 hW hE hd hs K hK; obtain ⟨u0, u1, u2, u3, u4, u5, u6, u7, u8, u9, u10, u11, u12, u13, u14, u15, u16, rfl⟩ := rog 17 h9 rfl; clear h9; simp only [DepG, AtG, and_true, relG, eqG, eqG1, eqG2, eqG3, gdG, gdG1, gnG, gnG1, List.getD_cons_zero, List.getD_cons_succ, List.getElem?_cons_succ, List.getElem?_cons_zero, Option.map_some, Option.getD_some, valsG, List.map_cons, List.map_nil, List.length_cons, List.length_nil] at hd; have d10 := hd; clear hd; subst d10; clear hs; simp only [fillG, List.set_cons_zero, List.set_cons_succ]; have hKW := Keep.tr (Keep.dr (Keep.rf _)) (hE rfl); have e0 := Keep.cell hKW e0; have e2 := Keep.cell hKW e2; refine want_n rfl ?_; go_wp2_with (first | fail); simp only [DoneG, fillG, List.set_cons_zero, List.set_cons_succ, relG, eqG, eqG1, eqG2, eqG3, gdG, gdG1, gnG, gnG1, List.getD_cons_zero, List.getD_cons_succ, List.getElem?_cons_succ, List.getElem?_cons_zero, Option.map_some, Option.getD_some, valsG, List.map_cons, List.map_nil, List.length_cons, List.length_nil]; exact ⟨_, rfl, (by first | with_reducible assumption | exact krg _ | exact Keep.al (krg _) _), fun _ _ => rfl⟩)
      · (intro us W h9 hW hE hd hs K hK; obtain ⟨u0, u1, u2, u3, u4, u5, u6, u7, u8, u9, u10, u11, u12, u13, u14, u15, u16, rfl⟩ := rog 17 h9 rfl; clear h9; simp only [DepG, AtG, and_true, relG, eqG, eqG1, eqG2, eqG3, gdG, gdG1, gnG, gnG1, List.getD_cons_zero, List.getD_cons_succ, List.getElem?_cons_succ, List.getElem?_cons_zero, Option.map_some, Option.getD_some, valsG, List.map_cons, List.map_nil, List.length_cons, List.length_nil] at hd; have d11 := hd; clear hd; subst d11; clear hs; simp only [fillG, List.set_cons_zero, List.set_cons_succ]; have hKW := Keep.tr (Keep.dr (Keep.rf _)) (hE rfl); have e0 := Keep.cell hKW e0; have e2 := Keep.cell hKW e2; refine want_n rfl ?_; go_wp2_with (first | fail); simp only [DoneG, fillG, List.set_cons_zero, List.set_cons_succ, relG, eqG, eqG1, eqG2, eqG3, gdG, gdG1, gnG, gnG1, List.getD_cons_zero, List.getD_cons_succ, List.getElem?_cons_succ, List.getElem?_cons_zero, Option.map_some, Option.getD_some, valsG, List.map_cons, List.map_nil, List.length_cons, List.length_nil]; exact ⟨_, rfl, (by first | with_reducible assumption | exact krg _ | exact Keep.al (krg _) _), fun W9 hk9 => ⟨_, rfl, (hk9.frm fun _ => False).heap (fun h => h) (heap_alloc_new _ _)⟩⟩)
      · (intro us W h9 hW hE hd hs K hK; obtain ⟨u0, u1, u2, u3, u4, u5, u6, u7, u8, u9, u10, u11, u12, u13, u14, u15, u16, rfl⟩ := rog 17 h9 rfl; clear h9; simp only [DepG, AtG, and_true, relG, eqG, eqG1, eqG2, eqG3, gdG, gdG1, gnG, gnG1, List.getD_cons_zero, List.getD_cons_succ, List.getElem?_cons_succ, List.getElem?_cons_zero, Option.map_some, Option.getD_some, valsG, List.map_cons, List.map_nil, List.length_cons, List.length_nil] at hd; obtain ⟨d4, d12⟩ := hd; subst d4; clear hs; simp only [fillG, List.set_cons_zero, List.set_cons_succ]; have hKW := Keep.tr (Keep.dr (Keep.rf _)) (hE rfl); have e0 := Keep.cell hKW e0; have e2 := Keep.cell hKW e2; refine want_n rfl ?_; refine wp_app (.tmp 38) (.tmp 46) 32 rfl B 53 _ 3 48 Try.underlying32 infoBlk rfl (by omega) _ its.length _ rfl (own_keep HR2.out.row hKW) _ 1 _ rfl (OneBlk.src d12) (fun u hu => by simp [blkCells] at hu; rcases hu with rfl | rfl | rfl <;> rfl) (by simp only [maxLen]; omega) (by omega) (Nat.le_trans hBw (Below.size hKW)) ?_; intro v9 w9 ha9; refine hK _ _ ?_; simp only [DoneG, fillG, List.set_cons_zero, List.set_cons_succ, relG, eqG, eqG1, eqG2, eqG3, gdG, gdG1, gnG, gnG1, List.getD_cons_zero, List.getD_cons_succ, List.getElem?_cons_succ, List.getElem?_cons_zero, Option.map_some, Option.getD_some, valsG, List.map_cons, List.map_nil, List.length_cons, List.length_nil]; exact ⟨_, rfl, (by first | with_reducible assumption | exact trivial), fun W9 hk9 => (BPush.mk hKW ha9).keep hk9⟩)
      · (intro us W h9 hW hE hd hs K hK; obtain ⟨u0, u1, u2, u3, u4, u5, u6, u7, u8, u9, u10, u11, u12, u13, u14, u15, u16, rfl⟩ := rog 17 h9 rfl; clear h9; simp only [DepG, AtG, and_true, relG, eqG, eqG1, eqG2, eqG3, gdG, gdG1, gnG, gnG1, List.getD_cons_zero, List.getD_cons_succ, List.getElem?_cons_succ, List.getElem?_cons_zero, Option.map_some, Option.getD_some, valsG, List.map_cons, List.map_nil, List.length_cons, List.length_nil] at hd; have d0 := hd; clear hd; subst d0; clear hs; simp only [fillG, List.set_cons_zero, List.set_cons_succ]; refine want_n rfl ?_; go_wp2_with (first | fail); simp only [DoneG, fillG, List.set_cons_zero, List.set_cons_succ, relG, eqG, eqG1, eqG2, eqG3, gdG, gdG1, gnG, gnG1, List.getD_cons_zero, List.getD_cons_succ, List.getElem?_cons_succ, List.getElem?_cons_zero, Option.map_some, Option.getD_some, valsG, List.map_cons, List.map_nil, List.length_cons, List.length_nil]; exact ⟨_, rfl, (by first | with_reducible assumption | exact krg _ | exact Keep.al (krg _) _), fun _ _ => rfl⟩)
      · (intro us W h9 hW hE hd hs K hK; obtain ⟨u0, u1, u2, u3, u4, u5, u6, u7, u8, u9, u10, u11, u12, u13, u14, u15, u16, rfl⟩ := rog 17 h9 rfl; clear h9; simp only [DepG, AtG, and_true, relG, eqG, eqG1, eqG2, eqG3, gdG, gdG1, gnG, gnG1, List.getD_cons_zero, List.getD_cons_succ, List.getElem?_cons_succ, List.getElem?_cons_zero, Option.map_some, Option.getD_some, valsG, List.map_cons, List.map_nil, List.length_cons, List.length_nil] at hd; have d14 := hd; clear hd; subst d14; clear hs; simp only [fillG, List.set_cons_zero, List.set_cons_succ]; refine want_n rfl ?_; go_wp2_with (first | fail); simp only [DoneG, fillG, List.set_cons_zero, List.set_cons_succ, relG, eqG, eqG1, eqG2, eqG3, gdG, gdG1, gnG, gnG1, List.getD_cons_zero, List.getD_cons_succ, List.getElem?_cons_succ, List.getElem?_cons_zero, Option.map_some, Option.getD_some, valsG, List.map_cons, List.map_nil, List.length_cons, List.length_nil]; exact ⟨_, rfl, (by first | with_reducible assumption | exact krg _ | exact Keep.al (krg _) _), fun _ _ => rfl⟩)
    (intro us W5 h9 hW hE hA hl9; obtain ⟨u0, u1, u2, u3, u4, u5, u6, u7, u8, u9, u10, u11, u12, u13, u14, u15, u16, rfl⟩ := rog 17 h9 rfl; clear h9; clear hl9; simp only [AllG, AtG, and_true, relG, eqG, eqG1, eqG2, eqG3, gdG, gdG1, gnG, gnG1, List.getD_cons_zero, List.getD_cons_succ, List.getElem?_cons_succ, List.getElem?_cons_zero, Option.map_some, Option.getD_some, valsG, List.map_cons, List.map_nil, List.length_cons, List.length_nil] at hA; obtain ⟨d13, d15⟩ := hA; subst d15; simp only [fillG, List.set_cons_zero, List.set_cons_succ]; refine want_n rfl ?_)
    obtain ⟨hdP, hwt⟩ := DR.pushed HD1.out hU hp htag hm2 F2 d13
    obtain ⟨Wb, kb, hgb, hmb, hob⟩ := d13
    have tp := (Frm.of_grown (S := fun k => (Value.slice A its.length c).ownBlock = some k) hgb fun _ e => e).heap (fun e => (HR2.out.d2 dp e).1 rfl) (HR2.out.keep kb).top
    have tpc := top_cells tp 2
    have tpf := top_free tp 2
    simp only [List.getElem?_toArray, List.getElem?_cons_succ, List.getElem?_cons_zero] at tpc
    obtain ⟨n9, A9, c9, e9⟩ : ∃ n A c, u13 = Value.slice A n c := by obtain ⟨A, c, e⟩ := own_slice hob; exact ⟨_, A, c, e⟩
    subst e9
    have hd0 := HD1.out
    have hnx1 : ¬ HasD dp mb (Value.slice A9 n9 c9) (its ++ [(⟨(Em.blk H n).1, [], []⟩, .slice none 0 0)]) w.heap.size := hwt.out (by simp) hnx
    have hx5 := hwt.heap hnx (heap_alloc_new w (.cells #[.bool false, .int .i64 0] 31))
    have hk5 := hwt.low hd0 k01 hB
    have hus : Em.uns U (s.come n (Em.blk H n).1).ws < f := by
      have := Em.uns_snoc hU (Em.pos_none.1 hp)
      simp only [Em.Dw.come]
      omega
    have hil : its.length < (its ++ [((⟨(Em.blk H n).1, [], []⟩, .slice none 0 0) : Em.Blk × Value)]).length := by simp
    have HW1 := hide hwt
    have HDP := hide hdP
    have HX5 := hide hx5
    have HK5 := hide hk5
    clear tp hgb hmb hob kb hwt hdP hx5 hk5 hd0 hlk d0 d1 d2 hup hm2 F2 e0 e2 hW hE
    go_wp2_with fail
    clear tpc tpf
    generalize World.setCell W5 _ _ = W6 at *
    refine (hblk W6 _ _ _ n its.length HK5.out HDP.out hil hn hus).mono ?_
    rintro e W7 ⟨l', its', rfl, hd7, hw7⟩
    have hx7 := hw7.heap hnx1 HX5.out
    have hnx7 := hw7.out (Array.getElem?_eq_some_iff.1 HX5.out).1 hnx1
    have y0 := top_cells hx7 0
    have y1 := top_cells hx7 1
    simp only [List.getElem?_toArray, List.getElem?_cons_succ, List.getElem?_cons_zero] at y0 y1
    have z0 := top_free hx7 0
    have z1 := top_free hx7 1
    have H7 := hide hw7
    have HD7 := hide hd7
    have HX7 := hide hx7
    clear hw7 hd7 hx7 hnx1
    go_wp2_with fail
    have F8 : Frm (· = w.heap.size) W7 ((W7.setCell ⟨w.heap.size, 0, none⟩ (.bool false)).setCell ⟨w.heap.size, 1, none⟩ (.int .i64 (its.length : Int))) := frm_two W7 w.heap.size _ _
    refine bodyPost_ret_by (results_cell_row rfl _ _ w.heap.size 31 _ (0, 0) _ rfl (heap_set2 HX7.out _ _) Try.underlying31 rfl ?_) rfl ?_
    · kernel_rfl
    · rw [HR.out]
      exact ⟨l', its', rfl, wf_nat (by omega), HD7.out.frm F8 fun k hk e => hnx7 (e ▸ hk), (((Went.of_keep kal).tr HW1.out).tr H7.out).stx F8 (Nat.le_refl _)⟩
end Go.Proofs.Ytilhglnfjaablaa
