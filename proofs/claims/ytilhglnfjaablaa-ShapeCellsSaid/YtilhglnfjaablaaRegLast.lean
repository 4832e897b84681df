/- A region of open order whose last operation waits for all others (a store, a map's update): as RegRel, the last one by itself. No program is named here. -/
import Derived.Test.YtilhglnfjaablaaRegRel
namespace Go.Proofs.Ytilhglnfjaablaa
open Go.RowKit
/-- The last operation waits for all others. -/
def lastChk (l : List Oper) (n : Nat) (ol : Oper) : Bool := decide (n + 1 = l.length) && (List.range n).all fun j => (depsOf ol).contains j
theorem getD_rep {n m : Nat} (h : n < m) : (Array.replicate m false).getD n true = false := by simp [Array.getD, h]
section
variable {P : Program} {l : List Oper} {Q : Exit → Act → World → Prop} {rel : World → World → Prop} {a0 : List Value} {ds : List (Option Nat)} {Rs : List (World → Value → Prop)} {w1 : World}
theorem region_lastop {id : Nat} {w : World} (n : Nat) (ol : Oper) (hm : P.follows .mixedOrders = true) (rel : World → World → Prop) (hrf : ∀ w, rel w w) (htr : ∀ a b c, rel a b → rel b c → rel a c)
    (ds : List (Option Nat)) (Rs : List (World → Value → Prop)) (nd sm : List (List Nat)) (hchk : regChk l ds nd sm = true)
    (hln : lastChk l n ol = true) (holn : l[n]? = some ol)
    (steps : StepsR P l Q rel a0 ds Rs w.drew 0 (l.take n) (nd.take n) (sm.take n))
    (fin : ∀ us W, us.length = ds.length → rel w.drew W → AllR (Rs.take n) W us → us.getD n undef = (us0 a0 ds).getD n undef →
      ∃ b : Bool, Region.wanted ol (yielded l.toArray (fillD a0 ds us).toArray) = b ∧ (b = true → Oper.wp P ol ⟨(fillD a0 ds us).toArray, []⟩ W (fun a' W' => Q .normal a' W') Q) ∧ (b = false → Q .normal ((⟨(fillD a0 ds us).toArray, []⟩ : Act).put ol.dst undef) W)) : (Code.region id l.toArray true).wp P Q ⟨a0.toArray, []⟩ w := by
  simp only [regChk, Bool.and_eq_true, decide_eq_true_eq, List.all_eq_true, List.mem_range] at hchk
  obtain ⟨⟨⟨⟨hds, hnd⟩, hsm⟩, hinj⟩, hops⟩ := hchk
  have hdl : ds.length = l.length := by rw [← hds, List.length_map]
  simp only [lastChk, Bool.and_eq_true, decide_eq_true_eq, List.all_eq_true, List.mem_range] at hln
  obtain ⟨hn1, hn2⟩ := hln
  have hinj' : ∀ (i j e : Nat), ds[i]? = some (some e) → ds[j]? = some (some e) → i = j := by
    intro i j e h1 h2
    have hi := (List.getElem?_eq_some_iff.1 h1).1
    have hj := (List.getElem?_eq_some_iff.1 h2).1
    have := hinj i hi j hj
    rw [h1, h2] at this
    simpa using this
  have key : ∀ (fuel : Nat) (listed : Array Bool) (us : List Value) (W : World), listed.size = l.length → us.length = ds.length → rel w.drew W →
      (∀ i, i < l.length → listed.getD i true = true → ∀ W', rel W W' → (Rs.getD i (fun _ _ => True)) W' (us.getD i undef)) →
      (∀ i, i < l.length → listed.getD i true = false → us.getD i undef = (us0 a0 ds).getD i undef) →
      (∀ i o, l[i]? = some o → listed.getD i true = true → ∀ j ∈ depsOf o, listed.getD j true = true) →
      listed.getD n true = false → listed.toList.countP (fun b => !b) ≤ fuel → wpAny P .any l.toArray Q fuel listed ⟨(fillD a0 ds us).toArray, []⟩ W := by
    have allDone : ∀ (fuel : Nat) (listed : Array Bool) (a : Act) (W : World), listed.size = l.length → (∀ i, i < l.length → listed.getD i true = true) → Q .normal a W → wpAny P .any l.toArray Q fuel listed a W := by
      intro fuel listed a W h1 hall hQ
      have hnil : Region.ready .any l.toArray listed = [] := by
        apply List.eq_nil_iff_forall_not_mem.2
        intro i hr
        obtain ⟨hf, o, ho, _⟩ := mem_ready.1 hr
        have hi : i < l.length := by simpa using (Array.getElem?_eq_some_iff.1 ho).1
        rw [hall i hi] at hf
        cases hf
      cases fuel with
      | zero => exact ⟨hnil, hQ⟩
      | succ fuel => exact ⟨fun _ => hQ, fun i hi => by rw [hnil] at hi; cases hi⟩
    have isReady : ∀ (listed : Array Bool), listed.size = l.length → (∃ i, i < l.length ∧ listed.getD i true = false) → Region.ready .any l.toArray listed ≠ [] := by
      intro listed h1 hex hnil
      obtain ⟨i, hi, hf⟩ := hex
      have hmin : ∀ n i, i ≤ n → i < l.length → listed.getD i true = false → False := by
        intro n
        induction n with
        | zero =>
          intro i hin hi hf
          have hi0 : i = 0 := by omega
          subst hi0
          have hr : 0 ∈ Region.ready .any l.toArray listed := mem_ready.2 ⟨hf, l[0], by simp [hi], fun e he hb => by
            have h := hops 0 hi
            rw [List.getElem?_eq_getElem hi] at h
            simp only [Bool.and_eq_true, List.all_eq_true, decide_eq_true_eq] at h
            have := h.1.1 e.on (by unfold depsOf; exact List.mem_map.2 ⟨e, List.mem_filter.2 ⟨by simpa using he, hb⟩, rfl⟩)
            omega⟩
          rw [hnil] at hr
          cases hr
        | succ n ih =>
          intro i hin hi hf
          have hr : i ∈ Region.ready .any l.toArray listed := mem_ready.2 ⟨hf, l[i], by simp [hi], fun e he hb => by
            have h := hops i hi
            rw [List.getElem?_eq_getElem hi] at h
            simp only [Bool.and_eq_true, List.all_eq_true, decide_eq_true_eq] at h
            have hlt := h.1.1 e.on (by unfold depsOf; exact List.mem_map.2 ⟨e, List.mem_filter.2 ⟨by simpa using he, hb⟩, rfl⟩)
            cases hg : listed.getD e.on true with
            | false => exact (ih e.on (by omega) (by omega) hg).elim
            | true =>
              have hs : e.on < listed.size := by omega
              simpa [Array.getD, hs] using hg⟩
          rw [hnil] at hr
          cases hr
      exact hmin i i (Nat.le_refl _) hi hf
    intro fuel
    induction fuel with
    | zero =>
      intro listed us W h1 h2 h3 h4 h5 h6 h8 h7
      exfalso
      have hz : listed.toList.countP (fun b => !b) = 0 := by omega
      have hs : n < listed.size := by omega
      have := List.countP_eq_zero.1 hz listed[n] (by simp)
      simp [Array.getD, hs] at h8
      simp [h8] at this
    | succ fuel ih =>
      intro listed us W h1 h2 h3 h4 h5 h6 h8 h7
      refine ⟨fun hnil => ?_, fun i hr => ?_⟩
      · exact absurd hnil (isReady listed h1 ⟨n, by omega, h8⟩)
      · obtain ⟨hf, o, ho, hdep⟩ := mem_ready.1 hr
        have ho' : l[i]? = some o := by simpa using ho
        have hi : i < l.length := (List.getElem?_eq_some_iff.1 ho').1
        have hop := hops i hi
        rw [ho'] at hop
        simp only [Bool.and_eq_true, List.all_eq_true, decide_eq_true_eq] at hop
        obtain ⟨⟨hlt, hndi⟩, hsmi⟩ := hop
        have hdone : ∀ j ∈ depsOf o, listed.getD j true = true := by
          intro j hj
          unfold depsOf at hj
          obtain ⟨e, he, rfl⟩ := List.mem_map.1 hj
          obtain ⟨he1, he2⟩ := List.mem_filter.1 he
          have := hdep e (by simpa using he1) he2
          have hlt' := hlt e.on (by unfold depsOf; exact hj)
          have hs : e.on < listed.size := by omega
          simpa [Array.getD, hs] using this
        by_cases hin : i = n
        · subst hin
          rw [holn] at ho'
          injection ho' with ho'
          subst ho'
          have hoth : ∀ j, j < l.length → j ≠ i → listed.getD j true = true := fun j hj hne => hdone j (by simpa using hn2 j (by omega))
          refine wpOp_step (o := ol) (by simpa using holn) fun K hK => ?_
          refine if_of ?_
          obtain ⟨bb, hb1, hb2, hb3⟩ := fin us W h2 h3 (AllR.of fun j R u hR hu => by
            have hj : j < i := by
              have := (List.getElem?_eq_some_iff.1 hR).1
              simp only [List.length_take] at this
              omega
            have := h4 j (by omega) (hoth j (by omega) (by omega)) W (hrf W)
            rw [List.getElem?_take_of_lt hj] at hR
            rw [List.getD_eq_getElem?_getD, hR, List.getD_eq_getElem?_getD, hu] at this
            exact this) (h5 i (by omega) h8)
          have hset : ∀ j, j < l.length → (listed.setIfInBounds i true).getD j true = true := by
            intro j hj
            by_cases hij : i = j
            · subst hij
              have hs : i < listed.size := by omega
              simp [Array.getD, hs]
            · rw [getD_set_ne _ hij]
              exact hoth j hj (fun e => hij e.symm)
          exact ⟨bb, hb1, fun e => Oper.wp_mono (fun a' W' hQ => hK _ _ (allDone _ _ _ _ (by simpa using h1) hset hQ)) (hb2 e), fun e => hK _ _ (allDone _ _ _ _ (by simpa using h1) hset (hb3 e))⟩
        have hin' : i < n := by omega
        have st := StepsR.at_ steps (by simp only [List.length_take]; omega) (by simp only [List.length_take]; omega) i o (by rw [List.getElem?_take_of_lt hin']; exact ho')
        rw [Nat.zero_add] at st
        rw [show (nd.take n).getD i [] = nd.getD i [] from by simp only [List.getD_eq_getElem?_getD, List.getElem?_take_of_lt hin'], show (sm.take n).getD i [] = sm.getD i [] from by simp only [List.getD_eq_getElem?_getD, List.getElem?_take_of_lt hin']] at st
        refine wpOp_step (o := o) (by simpa using ho') fun K hK => ?_
        refine if_of (st us W h2 h3 (DepR.of fun j hj => ?_) (SameR.of fun j hj => ?_) K fun a' W' hd => ?_)
        · have hjd : j ∈ depsOf o := by simpa using hndi j hj
          have := hlt j hjd
          exact h4 j (by omega) (hdone j hjd) W (hrf W)
        · have hj' := hsmi j hj
          simp only [Bool.or_eq_true, beq_iff_eq] at hj'
          rcases hj' with rfl | hj'
          · exact h5 j hi hf
          · cases hlj : l[j]? with
            | none => rw [hlj] at hj'; cases hj'
            | some o' =>
              rw [hlj] at hj'
              have hji : j < l.length := (List.getElem?_eq_some_iff.1 hlj).1
              cases hg : listed.getD j true with
              | false => exact h5 j hji hg
              | true =>
                have := h6 j o' hlj hg i (by simpa using hj')
                rw [hf] at this
                cases this
        · obtain ⟨v, rfl, hrel, hR⟩ := hd
          refine hK _ _ (ih _ (us.set i v) W' (by simpa using h1) (by simpa using h2) (htr _ _ _ h3 hrel) ?_ ?_ ?_ (by rw [getD_set_ne _ hin]; exact h8) ?_)
          · intro j hj hl W'' hW
            by_cases hij : i = j
            · subst hij
              rw [getD_set_self _ _ _ _ (by omega)]
              exact hR W'' hW
            · rw [getD_set_other _ _ _ _ _ hij]
              exact h4 j hj (by rw [getD_set_ne _ hij] at hl; exact hl) W'' (htr _ _ _ hrel hW)
          · intro j hj hl
            by_cases hij : i = j
            · subst hij
              have hs : i < listed.size := by omega
              simp [Array.getD, hs] at hl
            · rw [getD_set_other _ _ _ _ _ hij]
              exact h5 j hj (by rw [getD_set_ne _ hij] at hl; exact hl)
          · intro j o' hj hl k hk
            by_cases hij : i = j
            · subst hij
              rw [ho'] at hj
              injection hj with hj
              subst hj
              by_cases hik : i = k
              · subst hik
                have := hlt i hk
                omega
              · rw [getD_set_ne _ hik]
                exact hdone k hk
            · rw [getD_set_ne _ hij] at hl
              by_cases hik : i = k
              · subst hik
                have hs : i < listed.size := by omega
                simp [Array.getD, hs]
              · rw [getD_set_ne _ hik]
                exact h6 j o' hj hl k hk
          · have hs : i < listed.toList.length := by simpa using (show i < listed.size by omega)
            rw [Array.toList_setIfInBounds, List.countP_set hs]
            have hfi : listed.toList[i] = false := by
              have hs' : i < listed.size := by omega
              simpa [Array.getD, hs'] using hf
            rw [hfi]
            have hpos : 0 < listed.toList.countP (fun b => !b) := by
              rw [List.countP_pos_iff]
              exact ⟨_, List.getElem_mem hs, by rw [hfi]; rfl⟩
            simp only [Bool.not_false, Bool.not_true, if_true, Bool.false_eq_true, if_false]
            omega
  refine wp_region_any hm ?_
  have hst := key l.length (Array.replicate l.length false) (us0 a0 ds) w.drew (by simp) (by simp [us0]) (hrf _) ?_ (fun _ _ _ => rfl) ?_ (getD_rep (by omega)) ?_
  · rw [fillD_start] at hst
    simpa using hst
  · intro i hi hl
    simp [Array.getD, hi] at hl
  · intro i o ho hl
    have hi : i < l.length := (List.getElem?_eq_some_iff.1 ho).1
    simp [Array.getD, hi] at hl
  · have := List.countP_le_length (p := fun b => !b) (l := (Array.replicate l.length false).toList)
    simpa using this
end
end Go.Proofs.Ytilhglnfjaablaa
