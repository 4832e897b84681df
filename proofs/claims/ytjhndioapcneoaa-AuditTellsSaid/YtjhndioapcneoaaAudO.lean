/- Walks: what is there once (package audit, and the reference). -/
import Derived.Test.YtjhndioapcneoaaAudX
namespace Go.Proofs.Ytjhndioapcneoaa
open Go.RowKit Go.Maps
set_option linter.unusedVariables false
set_option maxRecDepth 100000
abbrev pairV (a : Int × Int) : Value := .agg #[.int .i64 a.1, .int .i64 a.2]
namespace Em
/-- a's row with b at its end, if it is not there. -/
def ins (s : List (Int × Int)) (a : Int × Int) : List (Int × Int) := if a ∈ s then s else s ++ [a]
def dd (s : List (Int × Int)) : List (Int × Int) → List (Int × Int)
  | [] => s
  | a :: l => dd (ins s a) l
theorem dd_len (s l : List (Int × Int)) : (dd s l).length ≤ s.length + l.length ∧ ((dd s l).length = s.length + l.length ↔ l.Nodup ∧ ∀ x ∈ l, x ∉ s) := by
  induction l generalizing s with
  | nil => simp [dd]
  | cons a l ih =>
    obtain ⟨h1, h2⟩ := ih (ins s a)
    rw [dd]
    by_cases ha : a ∈ s
    · have e : ins s a = s := if_pos ha
      rw [e] at h1 h2 ⊢
      refine ⟨by simp only [List.length_cons]; omega, ⟨fun h => ?_, fun h => ?_⟩⟩
      · simp only [List.length_cons] at h; omega
      · exact absurd ha (h.2 a (by simp))
    · have e : ins s a = s ++ [a] := if_neg ha
      rw [e] at h1 h2 ⊢
      simp only [List.length_append, List.length_cons, List.length_nil] at h1 h2 ⊢
      refine ⟨by omega, ?_⟩
      rw [show s.length + (l.length + 1) = s.length + (0 + 1) + l.length by omega, h2, List.nodup_cons]
      constructor
      · rintro ⟨g1, g2⟩
        exact ⟨⟨fun hm => by simpa using g2 a hm, g1⟩, fun x hx => by
          rcases List.mem_cons.1 hx with rfl | hx
          · exact ha
          · exact fun hs => g2 x hx (by simp [hs])⟩
      · rintro ⟨⟨g1, g2⟩, g3⟩
        refine ⟨g2, fun x hx hm => ?_⟩
        rcases List.mem_append.1 hm with hm | hm
        · exact g3 x (by simp [hx]) hm
        · rw [List.mem_singleton] at hm
          exact g1 (hm ▸ hx)
theorem dd_once (l : List (Int × Int)) : decide (((dd [] l).length : Int) = (l.length : Int)) = decide l.Nodup := by
  have := (dd_len [] l).2
  simp only [List.length_nil, Nat.zero_add, List.not_mem_nil, not_false_eq_true, implies_true, and_true] at this
  rw [decide_eq_decide, ← this]
  omega
end Em
theorem pairKeyG {P : Program} {k i : TypeId} {f0 f1 : Field} (hu : P.underlying k = some (.struct #[f0, f1])) (n0 : (f0.name != "_") = true) (n1 : (f1.name != "_") = true) (t0 : f0.type = i) (t1 : f1.type = i) (o0 : f0.offset = 0) (o1 : f1.offset = 1)
    (hi : P.underlying i = some (.int .i64)) (hc : P.cellsOf k = 2) (hci : P.cellsOf i = 1) (hkt : P.keyType k = true) (hs : k < P.types.size) (a : Int × Int) (h1 : (Lit.int .i64 a.1).wf = true) (h2 : (Lit.int .i64 a.2).wf = true) : ∃ l, keyOf P k (pairV a) = some l := by
  obtain ⟨n, hn⟩ : ∃ n, P.types.size = n + 1 := ⟨P.types.size - 1, by have : 0 < P.types.size := Nat.lt_of_le_of_lt (Nat.zero_le _) hs; omega⟩
  unfold keyOf
  rw [hu, hkt]
  simp [Value.formed, hu, hc, hn, Program.keyLits, t0, t1, o0, o1, n0, n1, hi, hci, h1, h2, Value.cells]
theorem callSize : 57 < Try.prog.types.size := of_decide_eq_true (by kernel_rfl)
theorem callCells : Try.prog.cellsOf 57 = 2 := by kernel_rfl
theorem intCells : Try.prog.cellsOf 3 = 1 := by kernel_rfl
theorem callWide : (match Try.prog.underlying 57 with | some (.array _ _) | some (.struct _) => true | _ => false) = true := by rw [Try.underlying57]
theorem callAt : Try.prog.keyTypeAt 2 57 = true := by kernel_rfl
theorem callKT : Try.prog.keyType 57 = true := by kernel_rfl
theorem callLaw : WideMaps.KeyLaw Try.prog 57 := deep_law_laid laidOutK (m := 2) (by omega) callSize callAt callWide
theorem callKeyed : Keyed Try.prog 57 := Keyed.of_law callLaw
theorem callKey (a : Int × Int) (h1 : (Lit.int .i64 a.1).wf = true) (h2 : (Lit.int .i64 a.2).wf = true) : ∃ l, keyOf Try.prog 57 (pairV a) = some l := by
  exact pairKeyG Try.underlying57 (by decide) (by decide) rfl rfl rfl rfl Try.underlying3 callCells intCells callKT callSize a h1 h2
theorem pairEq (a b : Int × Int) (h1 : (Lit.int .i64 a.1).wf = true) (h2 : (Lit.int .i64 a.2).wf = true) (h3 : (Lit.int .i64 b.1).wf = true) (h4 : (Lit.int .i64 b.2).wf = true) (w : World) : (Op.equal 57 (pairV a) (pairV b)).run Try.prog w = .ok (decide (a = b)) w := by
  obtain ⟨la, ha⟩ := callKey a h1 h2
  obtain ⟨lb, hb⟩ := callKey b h3 h4
  obtain ⟨r, hr, hi⟩ := run_equal_deep w (m := 2) (by omega) callAt callWide ha hb
  rw [hr]
  congr 1
  rw [Bool.eq_iff_iff, hi, decide_eq_true_eq]
  constructor
  · intro e
    have := callLaw.inj ha (e ▸ hb)
    simp only [pairV, Value.agg.injEq, Array.mk.injEq, List.cons.injEq, Value.int.injEq, true_and, and_true] at this
    exact Prod.ext this.1 this.2
  · rintro rfl
    rw [ha] at hb
    injection hb
/-- Block b is a map whose keys are these. -/
def MapP (w : World) (b : Nat) (s : List (Int × Int)) : Prop := ∃ es clock, w.heap[b]? = some (.map es clock) ∧ es.toList.map (·.key) = s.map pairV ∧ ∀ a ∈ s, (Lit.int .i64 a.1).wf = true ∧ (Lit.int .i64 a.2).wf = true
theorem MapP.frm {S : Nat → Prop} {w w' : World} {b : Nat} {s : List (Int × Int)} (h : MapP w b s) (k : Frm S w w') (hs : ¬ S b) : MapP w' b s := by
  obtain ⟨es, clock, h1, h2⟩ := h
  exact ⟨es, clock, k.heap hs h1, h2⟩
theorem MapP.new (w : World) {b : Nat} (hb : w.heap.size = b) : MapP (w.alloc (.map #[] 0)) b [] := by
  subst hb
  exact ⟨#[], 0, heap_alloc_new w _, by simp, by simp⟩
theorem pairV_inj {a b : Int × Int} (h : pairV a = pairV b) : a = b := by
  simp only [pairV, Value.agg.injEq, Array.mk.injEq, List.cons.injEq, Value.int.injEq, true_and, and_true] at h
  exact Prod.ext h.1 h.2
theorem modify_keys (f : MapEntry → MapEntry) (hf : ∀ e, (f e).key = e.key) : ∀ (l : List MapEntry) (j : Nat), (l.modify j f).map (·.key) = l.map (·.key) := by
  intro l j
  apply List.ext_getElem?
  intro i
  simp only [List.getElem?_map, List.getElem?_modify]
  split <;> cases l[i]? <;> simp [hf]
theorem MapP.put {w : World} {b : Nat} {s : List (Int × Int)} {t : TypeId} {e : TypeId} (h : MapP w b s) (ht : Try.prog.underlying t = some (.map 57 e)) (a : Int × Int) (h1 : (Lit.int .i64 a.1).wf = true) (h2 : (Lit.int .i64 a.2).wf = true) (v : Value) :
    ∃ w', (Instr.mapUpdate t (.map (some b)) (pairV a) v).run Try.prog w = .ok () w' ∧ MapP w' b (Em.ins s a) ∧ Frm (· = b) w w' := by
  obtain ⟨es, clock, g1, g2, g3⟩ := h
  obtain ⟨la, ha⟩ := callKey a h1 h2
  have hc := callKeyed.check w false ha
  have hb : b < w.heap.size := (Array.getElem?_eq_some_iff.1 g1).1
  have hall : ∀ x ∈ es.toList, ∃ c ∈ s, x.key = pairV c := by
    intro x hx
    have : x.key ∈ es.toList.map (·.key) := List.mem_map_of_mem hx
    rw [g2] at this
    obtain ⟨c, hc, e⟩ := List.mem_map.1 this
    exact ⟨c, hc, e.symm⟩
  rcases callKeyed.find w ha es.toList (fun x hx => by
    obtain ⟨c, hc, e⟩ := hall x hx
    obtain ⟨l, hl⟩ := callKey c (g3 c hc).1 (g3 c hc).2
    exact ⟨l, by rw [e]; exact hl⟩) with ⟨i1, i2⟩ | ⟨j, x, i1, i2, i3⟩
  · have hna : a ∉ s := by
      intro hm
      have : pairV a ∈ es.toList.map (·.key) := by rw [g2]; exact List.mem_map_of_mem hm
      obtain ⟨x, hx, e⟩ := List.mem_map.1 this
      exact i2 x hx e
    refine ⟨{ w with heap := w.heap.setIfInBounds b (.map (es.push { key := pairV a, val := v, born := clock }) (clock + 1)) }, ?_, ?_, ?_⟩
    · simp [Instr.mapUpdate, run_underlying ht, MapKept.run_getObj_map g1, hc, i1, MapKept.run_setObj_map _ g1]
    · refine ⟨es.push { key := pairV a, val := v, born := clock }, clock + 1, by simp [hb], ?_, ?_⟩
      · rw [Em.ins, if_neg hna, Array.toList_push, List.map_append, g2, List.map_append]
        rfl
      · rw [Em.ins, if_neg hna]
        intro c hc
        rcases List.mem_append.1 hc with hc | hc
        · exact g3 c hc
        · rw [List.mem_singleton.1 hc]
          exact ⟨h1, h2⟩
    · refine ⟨rfl, rfl, rfl, by simp, fun i hi hne => ?_⟩
      simp [Array.getElem?_setIfInBounds, Ne.symm hne]
  · have hma : a ∈ s := by
      obtain ⟨c, hc, e⟩ := hall x (List.mem_of_getElem? i2)
      rw [i3] at e
      rw [pairV_inj e]
      exact hc
    have hst := callKeyed.stays w ha
    have hx : ((es[j]?).map (·.key)).getD (pairV a) = pairV a := by
      rw [← Array.getElem?_toList, i2]
      simp [i3]
    refine ⟨{ w with heap := w.heap.setIfInBounds b (.map (es.modify j fun e => { e with key := pairV a, val := v }) clock) }, ?_, ?_, ?_⟩
    · simp [Instr.mapUpdate, run_underlying ht, MapKept.run_getObj_map g1, hc, i1, MapKept.run_setObj_map _ g1, hx, hst]
    · refine ⟨es.modify j fun e => { e with key := pairV a, val := v }, clock, by simp [hb], ?_, ?_⟩
      · rw [Em.ins, if_pos hma, Array.toList_modify, ← g2]
        apply List.ext_getElem?
        intro i
        simp only [List.getElem?_map, List.getElem?_modify]
        by_cases hij : j = i
        · subst hij
          rw [i2]
          simp [i3]
        · simp [hij]
      · rw [Em.ins, if_pos hma]
        exact g3
    · refine ⟨rfl, rfl, rfl, by simp, fun i hi hne => ?_⟩
      simp [Array.getElem?_setIfInBounds, Ne.symm hne]
end Go.Proofs.Ytjhndioapcneoaa
