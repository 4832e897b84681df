/- A region of open order, by what each operation's slot holds once it is done, whatever came up before it. No program is named here. A region of open order whose last operation waits for all others (a store, a map's update): as RegRel, the last one by itself. No program is named here. -/
import Derived.Test.YtoehaijmkmdggaaGreatGLib
import Derived.RegionTactic
set_option linter.unusedSimpArgs false
set_option linter.unusedVariables false
namespace Go.Proofs.YtoehaijmkmdggaaGreat
open Go.RowKit
/-- The frame a, slots ds filled with us. -/
def fillD : List Value → List (Option Nat) → List Value → List Value
  | a, some d :: ds, u :: us => fillD (a.set d u) ds us
  | a, none :: ds, _ :: us => fillD a ds us
  | a, _, _ => a
def us0 (a : List Value) (ds : List (Option Nat)) : List Value := ds.map fun
  | some d => a.getD d undef
  | none => undef
theorem fillD_start : ∀ (ds : List (Option Nat)) (a : List Value), fillD a ds (us0 a ds) = a
  | [], a => by simp [fillD, us0]
  | none :: ds, a => by simp only [us0, List.map_cons, fillD]; exact fillD_start ds a
  | some d :: ds, a => by
    simp only [us0, List.map_cons, fillD]
    have : a.set d (a.getD d undef) = a := by
      apply List.ext_getElem?
      intro i
      by_cases hi : d = i
      · subst hi
        rcases Nat.lt_or_ge d a.length with h | h
        · rw [List.getElem?_set_self h, List.getD_eq_getElem?_getD, List.getElem?_eq_getElem h]; rfl
        · rw [List.getElem?_eq_none (by simpa using h), List.getElem?_eq_none h]
      · rw [List.getElem?_set_ne hi]
    rw [this]
    exact fillD_start ds a
def depsOf (o : Oper) : List Nat := (o.after.toList.filter (fun e => Region.binds .any e)).map (·.on)
/-- nd: of each operation, which of those that it waits for are looked at; sm: which of those that wait for it. -/
def regChk (l : List Oper) (ds : List (Option Nat)) (nd sm : List (List Nat)) : Bool :=
  decide (l.map (·.dst) = ds) && decide (nd.length = l.length) && decide (sm.length = l.length) &&
  (List.range ds.length).all (fun i => (List.range ds.length).all fun j => match ds[i]?, ds[j]? with
    | some (some d), some (some e) => d != e || i == j
    | _, _ => true) &&
  (List.range l.length).all fun i => match l[i]? with
    | some o => (depsOf o).all (fun j => decide (j < i)) && (nd.getD i []).all (fun j => (depsOf o).contains j) && (sm.getD i []).all (fun j => j == i || match l[j]? with
      | some o' => (depsOf o').contains i
      | none => false)
    | none => false
/-- What is looked at holds. -/
def DepR (Rs : List (World → Value → Prop)) (W : World) (us : List Value) : List Nat → Prop
  | [] => True
  | j :: js => (Rs.getD j (fun _ _ => True)) W (us.getD j undef) ∧ DepR Rs W us js
def SameR (u0 us : List Value) : List Nat → Prop
  | [] => True
  | j :: js => us.getD j undef = u0.getD j undef ∧ SameR u0 us js
def AllR : List (World → Value → Prop) → World → List Value → Prop
  | R :: Rs, W, u :: us => R W u ∧ AllR Rs W us
  | _, _, _ => True
/-- An operation is done. -/
def DoneR (rel : World → World → Prop) (a0 : List Value) (ds : List (Option Nat)) (us : List Value) (i : Nat) (R : World → Value → Prop) (W : World) (a' : Act) (W' : World) : Prop :=
  ∃ v, a' = ⟨(fillD a0 ds (us.set i v)).toArray, []⟩ ∧ rel W W' ∧ ∀ W'', rel W' W'' → R W'' v
def StepR (P : Program) (l : List Oper) (Q : Exit → Act → World → Prop) (rel : World → World → Prop) (a0 : List Value) (ds : List (Option Nat)) (Rs : List (World → Value → Prop)) (w1 : World) (i : Nat) (o : Oper) (nd sm : List Nat) : Prop :=
  ∀ us W, us.length = ds.length → rel w1 W → DepR Rs W us nd → SameR (us0 a0 ds) us sm →
    ∀ K : Act → World → Prop, (∀ a' W', DoneR rel a0 ds us i (Rs.getD i (fun _ _ => True)) W a' W' → K a' W') →
      ∃ b : Bool, Region.wanted o (yielded l.toArray (fillD a0 ds us).toArray) = b ∧ (b = true → Oper.wp P o ⟨(fillD a0 ds us).toArray, []⟩ W K Q) ∧
        (b = false → K ((⟨(fillD a0 ds us).toArray, []⟩ : Act).put o.dst undef) W)
def StepsR (P : Program) (l : List Oper) (Q : Exit → Act → World → Prop) (rel : World → World → Prop) (a0 : List Value) (ds : List (Option Nat)) (Rs : List (World → Value → Prop)) (w1 : World) : Nat → List Oper → List (List Nat) → List (List Nat) → Prop
  | i, o :: os, n :: nd, s :: sm => StepR P l Q rel a0 ds Rs w1 i o n s ∧ StepsR P l Q rel a0 ds Rs w1 (i + 1) os nd sm
  | _, _, _, _ => True
section
variable {P : Program} {l : List Oper} {Q : Exit → Act → World → Prop} {rel : World → World → Prop} {a0 : List Value} {ds : List (Option Nat)} {Rs : List (World → Value → Prop)} {w1 : World}
theorem StepsR.at_ : ∀ {os : List Oper} {nd sm : List (List Nat)} {k : Nat} (h : StepsR P l Q rel a0 ds Rs w1 k os nd sm) (h1 : nd.length = os.length) (h2 : sm.length = os.length) (i : Nat) (o : Oper), os[i]? = some o → StepR P l Q rel a0 ds Rs w1 (k + i) o (nd.getD i []) (sm.getD i [])
  | o :: os, n :: nd, s :: sm, k, h, h1, h2, 0, o', ho => by
    have : o = o' := by simpa using ho
    subst this
    simpa using h.1
  | o :: os, n :: nd, s :: sm, k, h, h1, h2, i + 1, o', ho => by
    have := StepsR.at_ (k := k + 1) h.2 (by simpa using h1) (by simpa using h2) i o' (by simpa using ho)
    rw [show k + (i + 1) = k + 1 + i from by omega]
    simpa using this
  | [], _, _, _, _, _, _, _, _, ho => by simp at ho
  | _ :: _, [], _, _, _, h1, _, _, _, _ => by simp at h1
  | _ :: _, _ :: _, [], _, _, _, h2, _, _, _ => by simp at h2
theorem AllR.of : ∀ {Rs : List (World → Value → Prop)} {us : List Value} {W : World}, (∀ (i : Nat) (R : World → Value → Prop) (u : Value), Rs[i]? = some R → us[i]? = some u → R W u) → AllR Rs W us
  | [], us, W, _ => by cases us <;> trivial
  | R :: Rs, [], W, _ => trivial
  | R :: Rs, u :: us, W, h => ⟨h 0 R u rfl rfl, AllR.of fun i R' u' h1 h2 => h (i + 1) R' u' (by simpa using h1) (by simpa using h2)⟩
theorem DepR.of {W : World} {us : List Value} : ∀ {js : List Nat}, (∀ j ∈ js, (Rs.getD j (fun _ _ => True)) W (us.getD j undef)) → DepR Rs W us js
  | [], _ => trivial
  | j :: js, h => ⟨h j List.mem_cons_self, DepR.of fun i hi => h i (List.mem_cons_of_mem _ hi)⟩
theorem SameR.of {u0 us : List Value} : ∀ {js : List Nat}, (∀ j ∈ js, us.getD j undef = u0.getD j undef) → SameR u0 us js
  | [], _ => trivial
  | j :: js, h => ⟨h j List.mem_cons_self, SameR.of fun i hi => h i (List.mem_cons_of_mem _ hi)⟩
theorem getD_set_self {α : Type} (us : List α) (i : Nat) (v d : α) (h : i < us.length) : (us.set i v).getD i d = v := by
  rw [List.getD_eq_getElem?_getD, List.getElem?_set_self h]; rfl
theorem getD_set_other {α : Type} (us : List α) (i j : Nat) (v d : α) (h : i ≠ j) : (us.set i v).getD j d = us.getD j d := by
  rw [List.getD_eq_getElem?_getD, List.getElem?_set_ne h, ← List.getD_eq_getElem?_getD]
theorem if_of {c : Bool} {A B : Prop} (h : ∃ b : Bool, c = b ∧ (b = true → A) ∧ (b = false → B)) : if c = true then A else B := by
  obtain ⟨b, rfl, h1, h2⟩ := h
  cases c with
  | true => exact h1 rfl
  | false => exact h2 rfl
theorem region_rel {id : Nat} {w : World} (hm : P.follows .mixedOrders = true) (rel : World → World → Prop) (hrf : ∀ w, rel w w) (htr : ∀ a b c, rel a b → rel b c → rel a c)
    (ds : List (Option Nat)) (Rs : List (World → Value → Prop)) (nd sm : List (List Nat)) (hchk : regChk l ds nd sm = true)
    (steps : StepsR P l Q rel a0 ds Rs w.drew 0 l nd sm)
    (fin : ∀ us W, us.length = ds.length → rel w.drew W → AllR Rs W us → Q .normal ⟨(fillD a0 ds us).toArray, []⟩ W) : (Code.region id l.toArray true).wp P Q ⟨a0.toArray, []⟩ w := by
  simp only [regChk, Bool.and_eq_true, decide_eq_true_eq, List.all_eq_true, List.mem_range] at hchk
  obtain ⟨⟨⟨⟨hds, hnd⟩, hsm⟩, hinj⟩, hops⟩ := hchk
  have hdl : ds.length = l.length := by rw [← hds, List.length_map]
  have hinj' : ∀ (i j e : Nat), ds[i]? = some (some e) → ds[j]? = some (some e) → i = j := by
    intro i j e h1 h2
    have hi := (List.getElem?_eq_some_iff.1 h1).1
    have hj := (List.getElem?_eq_some_iff.1 h2).1
    have := hinj i hi j hj
    rw [h1, h2] at this
    simpa using this
  have key : ∀ (fuel : Nat) (listed : Array Bool) (us : List Value) (W : World), listed.size = l.length → us.length = ds.length → rel w.drew W →
      (∀ i, i < l.length → listed.getD i true = true → ∀ W', rel W W' → (Rs.getD i (fun _ _ => True)) W' (us.getD i undef)) →
      (∀ i, i < l.length → listed.getD i true = false → us.getD i undef = (us0 a0 ds).getD i undef) →
      (∀ i o, l[i]? = some o → listed.getD i true = true → ∀ j ∈ depsOf o, listed.getD j true = true) →
      listed.toList.countP (fun b => !b) ≤ fuel → wpAny P .any l.toArray Q fuel listed ⟨(fillD a0 ds us).toArray, []⟩ W := by
    have done : ∀ (listed : Array Bool) (us : List Value) (W : World), listed.size = l.length → us.length = ds.length → rel w.drew W →
        (∀ i, i < l.length → listed.getD i true = true → ∀ W', rel W W' → (Rs.getD i (fun _ _ => True)) W' (us.getD i undef)) →
        (∀ i, i < l.length → listed.getD i true = true) → Q .normal ⟨(fillD a0 ds us).toArray, []⟩ W := by
      intro listed us W h1 h2 h3 h4 h5
      refine fin us W h2 h3 (AllR.of fun i R u hR hu => ?_)
      have hi : i < us.length := (List.getElem?_eq_some_iff.1 hu).1
      have := h4 i (by omega) (h5 i (by omega)) W (hrf W)
      rw [List.getD_eq_getElem?_getD, hR, List.getD_eq_getElem?_getD, hu] at this
      exact this
    have isReady : ∀ (listed : Array Bool), listed.size = l.length → (∃ i, i < l.length ∧ listed.getD i true = false) → Region.ready .any l.toArray listed ≠ [] := by
      intro listed h1 hex hnil
      obtain ⟨i, hi, hf⟩ := hex
      have hmin : ∀ n i, i ≤ n → i < l.length → listed.getD i true = false → False := by
        intro n
        induction n with
        | zero =>
          intro i hin hi hf
          have hi0 : i = 0 := by omega
          subst hi0
          have hr : 0 ∈ Region.ready .any l.toArray listed := mem_ready.2 ⟨hf, l[0], by simp [hi], fun e he hb => by
            have h := hops 0 hi
            rw [List.getElem?_eq_getElem hi] at h
            simp only [Bool.and_eq_true, List.all_eq_true, decide_eq_true_eq] at h
            have := h.1.1 e.on (by unfold depsOf; exact List.mem_map.2 ⟨e, List.mem_filter.2 ⟨by simpa using he, hb⟩, rfl⟩)
            omega⟩
          rw [hnil] at hr
          cases hr
        | succ n ih =>
          intro i hin hi hf
          have hr : i ∈ Region.ready .any l.toArray listed := mem_ready.2 ⟨hf, l[i], by simp [hi], fun e he hb => by
            have h := hops i hi
            rw [List.getElem?_eq_getElem hi] at h
            simp only [Bool.and_eq_true, List.all_eq_true, decide_eq_true_eq] at h
            have hlt := h.1.1 e.on (by unfold depsOf; exact List.mem_map.2 ⟨e, List.mem_filter.2 ⟨by simpa using he, hb⟩, rfl⟩)
            cases hg : listed.getD e.on true with
            | false => exact (ih e.on (by omega) (by omega) hg).elim
            | true =>
              have hs : e.on < listed.size := by omega
              simpa [Array.getD, hs] using hg⟩
          rw [hnil] at hr
          cases hr
      exact hmin i i (Nat.le_refl _) hi hf
    intro fuel
    induction fuel with
    | zero =>
      intro listed us W h1 h2 h3 h4 h5 h6 h7
      have hall : ∀ i, i < l.length → listed.getD i true = true := by
        intro i hi
        have hz : listed.toList.countP (fun b => !b) = 0 := by omega
        have := List.countP_eq_zero.1 hz listed[i] (by simp)
        have hs : i < listed.size := by omega
        simpa [Array.getD, hs] using this
      refine ⟨?_, done listed us W h1 h2 h3 h4 hall⟩
      apply List.eq_nil_iff_forall_not_mem.2
      intro i hr
      obtain ⟨hf, o, ho, _⟩ := mem_ready.1 hr
      have hi : i < l.length := by simpa using (Array.getElem?_eq_some_iff.1 ho).1
      rw [hall i hi] at hf
      cases hf
    | succ fuel ih =>
      intro listed us W h1 h2 h3 h4 h5 h6 h7
      refine ⟨fun hnil => ?_, fun i hr => ?_⟩
      · refine done listed us W h1 h2 h3 h4 fun i hi => ?_
        cases hg : listed.getD i true with
        | true => rfl
        | false => exact absurd hnil (isReady listed h1 ⟨i, hi, hg⟩)
      · obtain ⟨hf, o, ho, hdep⟩ := mem_ready.1 hr
        have ho' : l[i]? = some o := by simpa using ho
        have hi : i < l.length := (List.getElem?_eq_some_iff.1 ho').1
        have hop := hops i hi
        rw [ho'] at hop
        simp only [Bool.and_eq_true, List.all_eq_true, decide_eq_true_eq] at hop
        obtain ⟨⟨hlt, hndi⟩, hsmi⟩ := hop
        have hdone : ∀ j ∈ depsOf o, listed.getD j true = true := by
          intro j hj
          unfold depsOf at hj
          obtain ⟨e, he, rfl⟩ := List.mem_map.1 hj
          obtain ⟨he1, he2⟩ := List.mem_filter.1 he
          have := hdep e (by simpa using he1) he2
          have hlt' := hlt e.on (by unfold depsOf; exact hj)
          have hs : e.on < listed.size := by omega
          simpa [Array.getD, hs] using this
        have st := StepsR.at_ steps hnd hsm i o ho'
        rw [Nat.zero_add] at st
        refine wpOp_step (o := o) (by simpa using ho') fun K hK => ?_
        refine if_of (st us W h2 h3 (DepR.of fun j hj => ?_) (SameR.of fun j hj => ?_) K fun a' W' hd => ?_)
        · have hjd : j ∈ depsOf o := by simpa using hndi j hj
          have := hlt j hjd
          exact h4 j (by omega) (hdone j hjd) W (hrf W)
        · have hj' := hsmi j hj
          simp only [Bool.or_eq_true, beq_iff_eq] at hj'
          rcases hj' with rfl | hj'
          · exact h5 j hi hf
          · cases hlj : l[j]? with
            | none => rw [hlj] at hj'; cases hj'
            | some o' =>
              rw [hlj] at hj'
              have hji : j < l.length := (List.getElem?_eq_some_iff.1 hlj).1
              cases hg : listed.getD j true with
              | false => exact h5 j hji hg
              | true =>
                have := h6 j o' hlj hg i (by simpa using hj')
                rw [hf] at this
                cases this
        · obtain ⟨v, rfl, hrel, hR⟩ := hd
          refine hK _ _ (ih _ (us.set i v) W' (by simpa using h1) (by simpa using h2) (htr _ _ _ h3 hrel) ?_ ?_ ?_ ?_)
          · intro j hj hl W'' hW
            by_cases hij : i = j
            · subst hij
              rw [getD_set_self _ _ _ _ (by omega)]
              exact hR W'' hW
            · rw [getD_set_other _ _ _ _ _ hij]
              exact h4 j hj (by rw [getD_set_ne _ hij] at hl; exact hl) W'' (htr _ _ _ hrel hW)
          · intro j hj hl
            by_cases hij : i = j
            · subst hij
              have hs : i < listed.size := by omega
              simp [Array.getD, hs] at hl
            · rw [getD_set_other _ _ _ _ _ hij]
              exact h5 j hj (by rw [getD_set_ne _ hij] at hl; exact hl)
          · intro j o' hj hl k hk
            by_cases hij : i = j
            · subst hij
              rw [ho'] at hj
              injection hj with hj
              subst hj
              by_cases hik : i = k
              · subst hik
                have := hlt i hk
                omega
              · rw [getD_set_ne _ hik]
                exact hdone k hk
            · rw [getD_set_ne _ hij] at hl
              by_cases hik : i = k
              · subst hik
                have hs : i < listed.size := by omega
                simp [Array.getD, hs]
              · rw [getD_set_ne _ hik]
                exact h6 j o' hj hl k hk
          · have hs : i < listed.toList.length := by simpa using (show i < listed.size by omega)
            rw [Array.toList_setIfInBounds, List.countP_set hs]
            have hfi : listed.toList[i] = false := by
              have hs' : i < listed.size := by omega
              simpa [Array.getD, hs'] using hf
            rw [hfi]
            have hpos : 0 < listed.toList.countP (fun b => !b) := by
              rw [List.countP_pos_iff]
              exact ⟨_, List.getElem_mem hs, by rw [hfi]; rfl⟩
            simp only [Bool.not_false, Bool.not_true, if_true, Bool.false_eq_true, if_false]
            omega
  refine wp_region_any hm ?_
  have hst := key l.length (Array.replicate l.length false) (us0 a0 ds) w.drew (by simp) (by simp [us0]) (hrf _) ?_ (fun _ _ _ => rfl) ?_ ?_
  · rw [fillD_start] at hst
    simpa using hst
  · intro i hi hl
    simp [Array.getD, hi] at hl
  · intro i o ho hl
    have hi : i < l.length := (List.getElem?_eq_some_iff.1 ho).1
    simp [Array.getD, hi] at hl
  · have := List.countP_le_length (p := fun b => !b) (l := (Array.replicate l.length false).toList)
    simpa using this
end
theorem wantedN {f : Nat → Option Bool} {o : Oper} {A B : Prop} (hg : o.guard = none) (h : A) : ∃ b : Bool, Region.wanted o f = b ∧ (b = true → A) ∧ (b = false → B) :=
  ⟨true, by simp [Region.wanted, hg], fun _ => h, fun e => by cases e⟩
theorem krf (w : World) : Keep w w := Keep.rf w
theorem ktr (a b c : World) (h : Keep a b) (k : Keep b c) : Keep a c := Keep.tr h k
/-- A list of n values, opened. -/
def OpensR : Nat → (List Value → Prop) → Prop
  | 0, p => p []
  | n + 1, p => ∃ u, OpensR n fun l => p (u :: l)
theorem opensR_of : ∀ (us : List Value) (p : List Value → Prop), p us → OpensR us.length p
  | [], _, h => h
  | u :: us, p, h => ⟨u, opensR_of us (fun l => p (u :: l)) h⟩
theorem rro (n : Nat) {us : List Value} {ds : List (Option Nat)} (h : us.length = ds.length) (hn : ds.length = n) : OpensR n (us = ·) := by
  have := opensR_of us (us = ·) rfl
  rwa [h, hn] at this
end Go.Proofs.YtoehaijmkmdggaaGreat
namespace Go.Proofs.YtoehaijmkmdggaaGreat
open Go.RowKit
section
variable {P : Program} {l : List Oper} {Q : Exit → Act → World → Prop} {rel : World → World → Prop} {a0 : List Value} {ds : List (Option Nat)} {Rs : List (World → Value → Prop)} {w1 : World}
end
end Go.Proofs.YtoehaijmkmdggaaGreat
