/- Walks: a body (reference of server). -/
import Derived.Test.YtcbkklfdeloeeaaCliH
namespace Go.Proofs.Ytcbkklfdeloeeaa
open Go.RowKit
set_option linter.unusedVariables false
set_option maxRecDepth 100000
theorem results_cell3t {fn : Func} {p u x : Tmp} {ty : TypeId} (h : fn.results = #[.cell p ty, .tmp u, .tmp x]) (tmps : Array Value) (P : Program) (w : World) :
    (results fn tmps).run P w =
      ((asAddr (tmps.getD p undef)).run P w).andThen fun a w₁ => ((loadVar ty a).run P w₁).andThen fun v w₂ => .ok (.tuple #[v, tmps.getD u undef, tmps.getD x undef]) w₂ := by
  simp only [results, h]
  simp [Sem.run_bind, Result.andThen]
theorem results_cell3v {P : Program} {fn : Func} {p u x : Tmp} {ty : TypeId} (h : fn.results = #[.cell p ty, .tmp u, .tmp x]) (tmps : Array Value) (w : World) (g : Nat) (t : TypeId) (cs : Array Value) (fr : Nat × Nat) (d : TypeDesc)
    (hp : tmps.getD p undef = .pointer (some ⟨g, 0, none⟩)) (hg : w.heap[g]? = some (.cells cs t fr))
    (hu : P.underlying ty = some d) (hd : (match d with | .struct _ | .array _ _ => true | _ => false) = true) (hi : (P.info? ty).map (·.size) = some cs.size) :
    (results fn tmps).run P w = .ok (.tuple #[.agg cs, tmps.getD u undef, tmps.getD x undef]) w := by
  have hp' : tmps[p]?.getD undef = .pointer (some ⟨g, 0, none⟩) := by simpa using hp
  simp [results_cell3t h, hp', asAddr, run_loadVar_row w g t ty cs fr d hg hu hd hi, Result.andThen]
/-- What a body comes to: the call, what is left, was there one. -/
def bdX : Option (List UInt8) → (Nat × Nat) × List UInt8 × Bool
  | none => ((0, 0), [], false)
  | some b => ((nV b, nV (nR b)), nR (nR b), nB b && nB (nR b))
def RetBd (w : World) (x : (Nat × Nat) × List UInt8 × Bool) (e : Ending) (w' : World) : Prop := Keep w w' ∧ ∃ A c, e = .returned (.tuple #[.agg #[.int .i64 (x.1.1 : Int), .int .i64 (x.1.2 : Int)], .slice A x.2.1.length c, .bool x.2.2]) ∧ Bs w' (.slice A x.2.1.length c) x.2.1
theorem RetBd.of {w w' : World} {x y : (Nat × Nat) × List UInt8 × Bool} {e : Ending} (h : x = y) (r : RetBd w y e w') : RetBd w x e w' := h ▸ r
theorem heap_set2' {w : World} {b : Nat} {x y : Value} {ty : TypeId} (h : w.heap[b]? = some (.cells #[x, y] ty)) (u v : Value) : ((w.setCell ⟨b, 0, none⟩ u).setCell ⟨b, 1, none⟩ v).heap[b]? = some (.cells #[u, v] ty) := heap_set2 h u v
/-- Bytes do not lie where a struct without bytes lies. -/
theorem Bs.away {w W : World} {b : Nat} {cs : Array Value} {t : TypeId} (F : Frm (· = b) w W) (hb : w.heap[b]? = some (.cells cs t)) (hcs : ∀ (j : Nat) (x : UInt8), cs[j]? ≠ some (bv x)) {v : Value} {l : List UInt8} (h : Bs w v l) : Bs W v l := by
  obtain ⟨A, c, rfl, g1, g2, g3⟩ := h
  refine ⟨A, c, rfl, g1, g2, fun h0 => ?_⟩
  obtain ⟨ad, e, hc⟩ := g3 h0
  refine ⟨ad, e, fun j hj => F.cell (fun e => ?_) (hc j hj)⟩
  have e : (ad.add j).block = b := e
  have hcj := hc j hj
  unfold World.cell? at hcj
  rw [e, hb] at hcj
  simp only at hcj
  split at hcj
  · cases hcj
  · exact hcs _ _ hcj
theorem call_noB (x y : Int) (j : Nat) (b : UInt8) : (#[Value.int .i64 x, .int .i64 y] : Array Value)[j]? ≠ some (bv b) := by
  intro h
  match j with
  | 0 => simp [bv] at h
  | 1 => simp [bv] at h
  | j + 2 => simp at h
theorem reply_noB (x y z : Int) (n c : Nat) (j : Nat) (b : UInt8) : (#[Value.int .i64 x, .int .i64 y, .int .i64 z, .slice none n c] : Array Value)[j]? ≠ some (bv b) := by
  intro h
  match j with
  | 0 => simp [bv] at h
  | 1 => simp [bv] at h
  | 2 => simp [bv] at h
  | 3 => simp [bv] at h
  | j + 4 => simp at h
set_option maxHeartbeats 16000000 in
theorem ref5Body (k : UInt8) (v : Value) (l : List UInt8) (w : World) (h : Bs w v l) : Calls Try.prog 115 #[v, .int .u8 (k.toNat : Int)] w (RetBd w (bdX (Em.whole k l))) := by
  have hz := heap_alloc_new w (.cells #[.int .i64 0, .int .i64 0] 54)
  have k1 : Keep w (w.alloc (.cells #[.int .i64 0, .int .i64 0] 54)) := (by repeat (first | exact Keep.rf _ | assumption | apply Keep.al | apply Keep.dr | apply Keep.dn))
  have HG := hide (refFGet v l _ (h.keep k1))
  obtain ⟨A, c, rfl, hlc, hcm, hr⟩ := h
  clear hr
  cases hg : Em.getF l with
  | none =>
    rw [whole_none hg]
    have hG := hide hg
    clear hg
    go_enter Try.func115, Try.ntmps115
    go_wp2_with fail
    generalize World.alloc w _ = W1 at *
    refine HG.out.mono ?_
    rintro e w1 ⟨hk, hm⟩
    rw [hG.out] at hm
    obtain rfl := hm
    have hz1 := (hk.frm fun _ => False).heap (fun h => h) hz
    have y0 := top_cells hz1 0
    have y1 := top_cells hz1 1
    have z0 := top_free hz1 0
    have z1 := top_free hz1 1
    simp only [List.getElem?_toArray, List.getElem?_cons_succ, List.getElem?_cons_zero] at y0 y1
    have HZ1 := hide hz1
    have HK := hide (Keep.tr k1 hk)
    have hlt1 := (Array.getElem?_eq_some_iff.1 hz1).1
    clear hk hz hz1 k1
    go_wp2_with fail
    refine bodyPost_ret_by (results_cell3v rfl _ _ w.heap.size 54 _ (0, 0) _ rfl (heap_set2' HZ1.out _ _) Try.underlying54 rfl ?_) rfl ?_
    · kernel_rfl
    · exact ⟨Frm.keep HK.out (frm_set2 _ _ _ _) fun i e => by have e : i = w.heap.size := e; omega, none, 0, rfl, Bs.nil0 _⟩
  | some y =>
    obtain ⟨k', b, n⟩ := y
    have hG := hide hg
    by_cases h1 : k' = k
    · subst h1
      by_cases h2 : n = l.length
      · rw [whole_yes hg ⟨rfl, h2⟩]
        have h2' := hide h2
        clear hg h2
        go_enter Try.func115, Try.ntmps115
        go_wp2_with fail
        generalize World.alloc w _ = W1 at *
        refine HG.out.mono ?_
        rintro e w1 ⟨hk, hm⟩
        rw [hG.out, h2'.out] at hm
        obtain ⟨u, rfl, hu⟩ := hm
        have hN := hide (ref5Num u b w1 hu)
        obtain ⟨A1, c1, rfl, -⟩ := hu
        have HX := hide (show bdX (some b) = ((nV b, nV (nR b)), nR (nR b), nB b && nB (nR b)) from rfl)
        have hz1 := (hk.frm fun _ => False).heap (fun h => h) hz
        have kw1 := Keep.tr k1 hk
        clear hk hz k1
        go_wp2_with fail
        refine hN.out.mono ?_
        rintro e w2 ⟨k12, A2, c2, rfl, hb2⟩
        have hN2 := hide (ref5Num _ _ w2 (hb2.keep k12))
        have hz2 := (k12.frm fun _ => False).heap (fun h => h) hz1
        have kw2 := Keep.tr kw1 k12
        generalize nV b = vb at *
        generalize nB b = bb at *
        generalize nR b = rb at *
        clear hN hz1 kw1 hb2 k12
        go_wp2_with fail
        refine hN2.out.mono ?_
        rintro e w3 ⟨k23, A3, c3, rfl, hb3⟩
        have hz3 := (k23.frm fun _ => False).heap (fun h => h) hz2
        have kw3 := Keep.tr kw2 k23
        have y0 := top_cells hz3 0
        have y1 := top_cells hz3 1
        have z0 := top_free hz3 0
        have z1 := top_free hz3 1
        simp only [List.getElem?_toArray, List.getElem?_cons_succ, List.getElem?_cons_zero] at y0 y1
        have HZ3 := hide hz3
        have HK := hide kw3
        have HB := hide (hb3.keep k23)
        have hlt3 := (Array.getElem?_eq_some_iff.1 hz3).1
        generalize nV rb = vc at *
        generalize nB rb = bc at *
        generalize nR rb = rc at *
        clear hN2 hz2 hz3 kw2 kw3 hb3 k23
        cases bb
        all_goals
          go_wp2_with fail
          refine bodyPost_ret_by (results_cell3v rfl _ _ w.heap.size 54 _ (0, 0) _ rfl (heap_set2' HZ3.out _ _) Try.underlying54 rfl ?_) rfl ?_
          · kernel_rfl
          · exact RetBd.of HX.out ⟨Frm.keep HK.out (frm_set2 _ _ _ _) fun i e => by have e : i = w.heap.size := e; omega, A3, c3, rfl, HB.out.away (frm_set2 _ _ _ _) HZ3.out (call_noB 0 0)⟩
      · rw [whole_no hg (fun x => h2 x.2)]
        have h2i : ((n : Int) == (l.length : Int)) = false := beq_false_of_ne (by omega)
        have h2j : ((n : Int) != (l.length : Int)) = true := by simp; omega
        clear hg h2
        go_enter Try.func115, Try.ntmps115
        go_wp2_with fail
        generalize World.alloc w _ = W1 at *
        refine HG.out.mono ?_
        rintro e w1 ⟨hk, hm⟩
        rw [hG.out] at hm
        obtain ⟨u, rfl, hu⟩ := hm
        obtain ⟨A1, c1, rfl, -⟩ := hu
        have hz1 := (hk.frm fun _ => False).heap (fun h => h) hz
        have y0 := top_cells hz1 0
        have y1 := top_cells hz1 1
        have z0 := top_free hz1 0
        have z1 := top_free hz1 1
        simp only [List.getElem?_toArray, List.getElem?_cons_succ, List.getElem?_cons_zero] at y0 y1
        have HZ1 := hide hz1
        have HK := hide (Keep.tr k1 hk)
        have hlt1 := (Array.getElem?_eq_some_iff.1 hz1).1
        clear hk hz hz1 k1
        go_wp2_with fail
        refine bodyPost_ret_by (results_cell3v rfl _ _ w.heap.size 54 _ (0, 0) _ rfl (heap_set2' HZ1.out _ _) Try.underlying54 rfl ?_) rfl ?_
        · kernel_rfl
        · exact ⟨Frm.keep HK.out (frm_set2 _ _ _ _) fun i e => by have e : i = w.heap.size := e; omega, none, 0, rfl, Bs.nil0 _⟩
    · rw [whole_no hg (fun x => h1 x.1)]
      have h1i : ((k'.toNat : Int) == (k.toNat : Int)) = false := by
        have : k'.toNat ≠ k.toNat := fun e => h1 (UInt8.toNat_inj.1 e)
        exact beq_false_of_ne (by omega)
      have h1j : ((k'.toNat : Int) != (k.toNat : Int)) = true := by rw [bne, h1i]; rfl
      clear hg h1
      go_enter Try.func115, Try.ntmps115
      go_wp2_with fail
      generalize World.alloc w _ = W1 at *
      refine HG.out.mono ?_
      rintro e w1 ⟨hk, hm⟩
      rw [hG.out] at hm
      obtain ⟨u, rfl, hu⟩ := hm
      obtain ⟨A1, c1, rfl, -⟩ := hu
      have hz1 := (hk.frm fun _ => False).heap (fun h => h) hz
      have y0 := top_cells hz1 0
      have y1 := top_cells hz1 1
      have z0 := top_free hz1 0
      have z1 := top_free hz1 1
      simp only [List.getElem?_toArray, List.getElem?_cons_succ, List.getElem?_cons_zero] at y0 y1
      have HZ1 := hide hz1
      have HK := hide (Keep.tr k1 hk)
      have hlt1 := (Array.getElem?_eq_some_iff.1 hz1).1
      clear hk hz hz1 k1
      go_wp2_with fail
      refine bodyPost_ret_by (results_cell3v rfl _ _ w.heap.size 54 _ (0, 0) _ rfl (heap_set2' HZ1.out _ _) Try.underlying54 rfl ?_) rfl ?_
      · kernel_rfl
      · exact ⟨Frm.keep HK.out (frm_set2 _ _ _ _) fun i e => by have e : i = w.heap.size := e; omega, none, 0, rfl, Bs.nil0 _⟩
end Go.Proofs.Ytcbkklfdeloeeaa
