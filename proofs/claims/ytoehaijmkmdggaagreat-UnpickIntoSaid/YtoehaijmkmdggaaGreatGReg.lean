/- A region of open order: of each operation, what its slot holds once it is done, in terms of the slots that it waits for; some operations may change what was there. No program is named here. -/
import Derived.Test.YtoehaijmkmdggaaGreatGLib
import Derived.RegionTactic
set_option linter.unusedSimpArgs false
set_option linter.unusedVariables false
namespace Go.Proofs.YtoehaijmkmdggaaGreat
open Go.RowKit
set_option linter.unusedVariables false
set_option linter.unusedSimpArgs false
/-- The frame a, slots ds filled with us. -/
def fillG : List Value → List (Option Nat) → List Value → List Value
  | a, some d :: ds, u :: us => fillG (a.set d u) ds us
  | a, none :: ds, _ :: us => fillG a ds us
  | a, _, _ => a
def usG (a : List Value) (ds : List (Option Nat)) : List Value := ds.map fun
  | some d => a.getD d undef
  | none => undef
theorem fillG_start : ∀ (ds : List (Option Nat)) (a : List Value), fillG a ds (usG a ds) = a
  | [], a => by simp [fillG, usG]
  | none :: ds, a => by simp only [usG, List.map_cons, fillG]; exact fillG_start ds a
  | some d :: ds, a => by
    simp only [usG, List.map_cons, fillG]
    have : a.set d (a.getD d undef) = a := by
      apply List.ext_getElem?
      intro i
      by_cases hi : d = i
      · subst hi
        rcases Nat.lt_or_ge d a.length with h | h
        · rw [List.getElem?_set_self h, List.getD_eq_getElem?_getD, List.getElem?_eq_getElem h]; rfl
        · rw [List.getElem?_eq_none (by simpa using h), List.getElem?_eq_none h]
      · rw [List.getElem?_set_ne hi]
    rw [this]
    exact fillG_start ds a
/-- What an operation waits for. -/
def waitsG (o : Oper) : List Nat := (o.after.toList.filter (fun e => Region.binds .any e)).map (·.on)
/-- What an operation waits for, through others too. -/
def farG (l : List Oper) : List (List Nat) := l.foldl (fun acc o => acc ++ [(waitsG o ++ (waitsG o).flatMap fun j => acc.getD j []).eraseDups]) []
theorem farG_aux (X : Nat → Prop) (L : List Oper) (hX : ∀ i o, L[i]? = some o → X i → ∀ j ∈ waitsG o, X j) : ∀ (l : List Oper) (acc : List (List Nat)) (pre : List Oper), pre.length = acc.length → L = pre ++ l →
    (∀ i o, i < acc.length → L[i]? = some o → (∀ j ∈ waitsG o, X j) → ∀ j ∈ acc.getD i [], X j) →
    ∀ i o, L[i]? = some o → (∀ j ∈ waitsG o, X j) → ∀ j ∈ (l.foldl (fun acc o => acc ++ [(waitsG o ++ (waitsG o).flatMap fun j => acc.getD j []).eraseDups]) acc).getD i [], X j
  | [], acc, pre, hp, hL, h, i, o, hi, hw, j, hj => by
    have : i < L.length := (List.getElem?_eq_some_iff.1 hi).1
    rw [hL, List.append_nil] at this
    exact h i o (by omega) hi hw j hj
  | o0 :: l, acc, pre, hp, hL, h, i, o, hi, hw, j, hj => by
    rw [List.foldl_cons] at hj
    refine farG_aux X L hX l _ (pre ++ [o0]) (by simp [hp]) (by simp [hL]) ?_ i o hi hw j hj
    intro i o hi ho hw j hj
    rcases Nat.lt_or_ge i acc.length with hlt | hge
    · rw [List.getD_eq_getElem?_getD, List.getElem?_append_left hlt, ← List.getD_eq_getElem?_getD] at hj
      exact h i o hlt ho hw j hj
    · have hie : i = acc.length := by
        simp only [List.length_append, List.length_singleton] at hi
        omega
      subst hie
      have ho0 : o = o0 := by
        rw [hL, List.getElem?_append_right (by omega), hp] at ho
        simpa using ho.symm
      subst ho0
      rw [List.getD_eq_getElem?_getD, List.getElem?_append_right (Nat.le_refl _), Nat.sub_self] at hj
      simp only [List.getElem?_cons_zero, Option.getD_some, List.mem_eraseDups, List.mem_append, List.mem_flatMap] at hj
      rcases hj with hj | ⟨k, hk, hj⟩
      · exact hw j hj
      · have hXk := hw k hk
        rcases Nat.lt_or_ge k acc.length with hkl | hkl
        · have hkL : k < L.length := by
            rw [hL, List.length_append]
            omega
          exact h k L[k] hkl (List.getElem?_eq_getElem hkL) (fun q hq => hX k _ (List.getElem?_eq_getElem hkL) hXk q hq) j hj
        · rw [List.getD_eq_getElem?_getD, List.getElem?_eq_none hkl] at hj
          cases hj
theorem farG_of (X : Nat → Prop) (l : List Oper) (hX : ∀ i o, l[i]? = some o → X i → ∀ j ∈ waitsG o, X j) (i : Nat) (o : Oper) (ho : l[i]? = some o) (hw : ∀ j ∈ waitsG o, X j) : ∀ j ∈ (farG l).getD i [], X j :=
  farG_aux X l hX l [] [] rfl rfl (fun i o h => by simp at h) i o ho hw
/-- How an operation stands: what of what it waits for is looked at; which later ones' slots are looked at as they were; is it ahead of all that change; does it change; is what it gives undone by what changes. -/
structure HowG where
  nd : List Nat
  sm : List Nat := []
  early : Bool := true
  turns : Bool := false
  weak : Bool := false
def chkG (l : List Oper) (ds : List (Option Nat)) (H : List HowG) : Bool :=
  let F := farG l
  let M := (List.range l.length).filter fun m => ((H[m]?).map (·.turns)).getD false
  decide (l.map (·.dst) = ds) && decide (H.length = l.length) &&
  (List.range ds.length).all (fun i => (List.range ds.length).all fun j => match ds[i]?, ds[j]? with
    | some (some d), some (some e) => d != e || i == j
    | _, _ => true) &&
  (List.range l.length).all fun i => match l[i]?, H[i]? with
    | some o, some h => (waitsG o).all (fun j => decide (j < i)) && h.nd.all (fun j => decide (j < l.length) && (F.getD i []).contains j) &&
        h.sm.all (fun j => decide (j < l.length) && (j == i || (F.getD j []).contains i)) &&
        (!h.early || M.all fun m => m == i || (F.getD m []).contains i) &&
        h.nd.all (fun j => !((H[j]?).map (·.weak)).getD true || M.all fun m => m == j || (F.getD j []).contains m || m == i || (F.getD m []).contains i)
    | _, _ => false
def valsG (us : List Value) (js : List Nat) : List Value := js.map fun j => us.getD j undef
abbrev FactG := List Value → World → Value → Prop
/-- What an operation's slot holds, the others' slots being us. -/
def AtG (Rs : List FactG) (H : List HowG) (us : List Value) (i : Nat) (W : World) : Prop := (Rs.getD i (fun _ _ _ => True)) (valsG us ((H[i]?.map (·.nd)).getD [])) W (us.getD i undef)
def DepG (Rs : List FactG) (H : List HowG) (us : List Value) (W : World) : List Nat → Prop
  | [] => True
  | j :: js => AtG Rs H us j W ∧ DepG Rs H us W js
def SameG (u0 us : List Value) : List Nat → Prop
  | [] => True
  | j :: js => us.getD j undef = u0.getD j undef ∧ SameG u0 us js
def relG (b : Bool) (r s : World → World → Prop) : World → World → Prop := match b with
  | true => r
  | false => s
/-- An operation is done. -/
def DoneG (relK rel : World → World → Prop) (a0 : List Value) (ds : List (Option Nat)) (us : List Value) (i : Nat) (h : HowG) (R : FactG) (W : World) (a' : Act) (W' : World) : Prop :=
  ∃ v, a' = ⟨(fillG a0 ds (us.set i v)).toArray, []⟩ ∧ relG h.turns rel relK W W' ∧ ∀ W'', relG h.weak relK rel W' W'' → R (valsG us h.nd) W'' v
def StepG (P : Program) (l : List Oper) (Q : Exit → Act → World → Prop) (relK rel : World → World → Prop) (a0 : List Value) (ds : List (Option Nat)) (Rs : List FactG) (H : List HowG) (w1 : World) (i : Nat) (o : Oper) (h : HowG) : Prop :=
  ∀ us W, us.length = ds.length → rel w1 W → (h.early = true → relK w1 W) → DepG Rs H us W h.nd → SameG (usG a0 ds) us h.sm →
    ∀ K : Act → World → Prop, (∀ a' W', DoneG relK rel a0 ds us i h (Rs.getD i (fun _ _ _ => True)) W a' W' → K a' W') →
      ∃ b : Bool, Region.wanted o (yielded l.toArray (fillG a0 ds us).toArray) = b ∧ (b = true → Oper.wp P o ⟨(fillG a0 ds us).toArray, []⟩ W K Q) ∧
        (b = false → K ((⟨(fillG a0 ds us).toArray, []⟩ : Act).put o.dst undef) W)
def StepsG (P : Program) (l : List Oper) (Q : Exit → Act → World → Prop) (relK rel : World → World → Prop) (a0 : List Value) (ds : List (Option Nat)) (Rs : List FactG) (H : List HowG) (w1 : World) : Nat → List Oper → List HowG → Prop
  | i, o :: os, h :: hs => StepG P l Q relK rel a0 ds Rs H w1 i o h ∧ StepsG P l Q relK rel a0 ds Rs H w1 (i + 1) os hs
  | _, _, _ => True
/-- What holds at last: of each slot, but for what was undone. -/
def AllG (Rs : List FactG) (H : List HowG) (W : World) (us : List Value) : List Nat → Prop
  | [] => True
  | j :: js => AtG Rs H us j W ∧ AllG Rs H W us js
section
variable {P : Program} {l : List Oper} {Q : Exit → Act → World → Prop} {relK rel : World → World → Prop} {a0 : List Value} {ds : List (Option Nat)} {Rs : List FactG} {H : List HowG} {w1 : World}
theorem StepsG.at_ : ∀ {os : List Oper} {hs : List HowG} {k : Nat} (h : StepsG P l Q relK rel a0 ds Rs H w1 k os hs) (i : Nat) (o : Oper) (x : HowG), os[i]? = some o → hs[i]? = some x → StepG P l Q relK rel a0 ds Rs H w1 (k + i) o x
  | o :: os, x :: hs, k, h, 0, o', x', ho, hx => by
    have : o = o' := by simpa using ho
    subst this
    have : x = x' := by simpa using hx
    subst this
    simpa using h.1
  | o :: os, x :: hs, k, h, i + 1, o', x', ho, hx => by
    have := StepsG.at_ (k := k + 1) h.2 i o' x' (by simpa using ho) (by simpa using hx)
    rw [show k + (i + 1) = k + 1 + i from by omega]
    exact this
  | [], _, _, _, _, _, _, ho, _ => by simp at ho
  | _ :: _, [], _, _, _, _, _, _, hx => by simp at hx
theorem DepG.of {W : World} {us : List Value} : ∀ {js : List Nat}, (∀ j ∈ js, AtG Rs H us j W) → DepG Rs H us W js
  | [], _ => trivial
  | j :: js, h => ⟨h j List.mem_cons_self, DepG.of fun i hi => h i (List.mem_cons_of_mem _ hi)⟩
theorem AllG.of {W : World} {us : List Value} : ∀ {js : List Nat}, (∀ j ∈ js, AtG Rs H us j W) → AllG Rs H W us js
  | [], _ => trivial
  | j :: js, h => ⟨h j List.mem_cons_self, AllG.of fun i hi => h i (List.mem_cons_of_mem _ hi)⟩
theorem SameG.of {u0 us : List Value} : ∀ {js : List Nat}, (∀ j ∈ js, us.getD j undef = u0.getD j undef) → SameG u0 us js
  | [], _ => trivial
  | j :: js, h => ⟨h j List.mem_cons_self, SameG.of fun i hi => h i (List.mem_cons_of_mem _ hi)⟩
theorem getG_self {α : Type} (us : List α) (i : Nat) (v d : α) (h : i < us.length) : (us.set i v).getD i d = v := by
  rw [List.getD_eq_getElem?_getD, List.getElem?_set_self h]; rfl
theorem getG_other {α : Type} (us : List α) (i j : Nat) (v d : α) (h : i ≠ j) : (us.set i v).getD j d = us.getD j d := by
  rw [List.getD_eq_getElem?_getD, List.getElem?_set_ne h, ← List.getD_eq_getElem?_getD]
theorem valsG_other (us : List Value) (i : Nat) (v : Value) (js : List Nat) (h : i ∉ js) : valsG (us.set i v) js = valsG us js := by
  unfold valsG
  apply List.map_congr_left
  intro j hj
  exact getG_other us i j v undef fun e => h (by rw [e]; exact hj)
theorem ifG {c : Bool} {A B : Prop} (h : ∃ b : Bool, c = b ∧ (b = true → A) ∧ (b = false → B)) : if c = true then A else B := by
  obtain ⟨b, rfl, h1, h2⟩ := h
  cases c with
  | true => exact h1 rfl
  | false => exact h2 rfl
/-- The last operation waits for all others. -/
def lastG (l : List Oper) (n : Nat) (ol : Oper) : Bool := decide (n + 1 = l.length) && (List.range n).all fun j => ((farG l).getD n []).contains j
theorem region_gen {id : Nat} {w : World} (hm : P.follows .mixedOrders = true) (relK rel : World → World → Prop) (hKrf : ∀ w, relK w w) (hKtr : ∀ a b c, relK a b → relK b c → relK a c) (hrf : ∀ w, rel w w) (htr : ∀ a b c, rel a b → rel b c → rel a c) (hK2 : ∀ a b, relK a b → rel a b)
    (ds : List (Option Nat)) (Rs : List FactG) (H : List HowG) (lst : Option (Nat × Oper)) (sn : List Nat) (hchk : chkG l ds H = true) (hsn : sn.all (fun i => match H[i]? with
      | some h => decide (i < l.length) && decide (lst.map (·.1) ≠ some i) && (!h.weak || (List.range l.length).all fun m => !((H[m]?).map (·.turns)).getD true || m == i || ((farG l).getD i []).contains m)
      | none => false) = true)
    (hln : ∀ n ol, lst = some (n, ol) → lastG l n ol = true ∧ l[n]? = some ol ∧ ((H[n]?).map (·.turns)).getD true = false)
    (steps : StepsG P l Q relK rel a0 ds Rs H w.drew 0 (match lst with | some (n, _) => l.take n | none => l) H)
    (fin : ∀ us W, us.length = ds.length → rel w.drew W → ((H.all fun h => !h.turns) = true → relK w.drew W) → AllG Rs H W us sn → match lst with
      | none => Q .normal ⟨(fillG a0 ds us).toArray, []⟩ W
      | some (n, ol) => us.getD n undef = (usG a0 ds).getD n undef → ∃ b : Bool, Region.wanted ol (yielded l.toArray (fillG a0 ds us).toArray) = b ∧ (b = true → Oper.wp P ol ⟨(fillG a0 ds us).toArray, []⟩ W (fun a' W' => Q .normal a' W') Q) ∧ (b = false → Q .normal ((⟨(fillG a0 ds us).toArray, []⟩ : Act).put ol.dst undef) W)) : (Code.region id l.toArray true).wp P Q ⟨a0.toArray, []⟩ w := by
  simp only [chkG, Bool.and_eq_true, decide_eq_true_eq, List.all_eq_true, List.mem_range] at hchk
  obtain ⟨⟨⟨hds, hHl⟩, hinj⟩, hops⟩ := hchk
  have hdl : ds.length = l.length := by rw [← hds, List.length_map]
  have hinj' : ∀ (i j e : Nat), ds[i]? = some (some e) → ds[j]? = some (some e) → i = j := by
    intro i j e h1 h2
    have hi := (List.getElem?_eq_some_iff.1 h1).1
    have hj := (List.getElem?_eq_some_iff.1 h2).1
    have := hinj i hi j hj
    rw [h1, h2] at this
    simpa using this
  -- what the check says of one operation
  have hop : ∀ i o h, l[i]? = some o → H[i]? = some h → (∀ j ∈ waitsG o, j < i) ∧ (∀ j ∈ h.nd, j < l.length ∧ j ∈ (farG l).getD i []) ∧ (∀ j ∈ h.sm, j < l.length ∧ (j = i ∨ i ∈ (farG l).getD j [])) ∧
      (h.early = true → ∀ m x, H[m]? = some x → m < l.length → x.turns = true → m = i ∨ i ∈ (farG l).getD m []) ∧
      (∀ j ∈ h.nd, ∀ y, H[j]? = some y → y.weak = true → ∀ m x, H[m]? = some x → m < l.length → x.turns = true → m = j ∨ m ∈ (farG l).getD j [] ∨ m = i ∨ i ∈ (farG l).getD m []) := by
    intro i o h ho hh
    have hi := (List.getElem?_eq_some_iff.1 ho).1
    have := hops i hi
    rw [ho, hh] at this
    simp only [Bool.and_eq_true, List.all_eq_true, decide_eq_true_eq, Bool.or_eq_true, beq_iff_eq, Bool.not_eq_true', List.mem_filter, List.mem_range, List.contains_iff_mem, and_imp] at this
    obtain ⟨⟨⟨⟨t1, t2⟩, t3⟩, t4⟩, t5⟩ := this
    refine ⟨t1, t2, t3, fun he m x hx hml hmu => ?_, fun j hj y hy hw m x hx hml hmu => ?_⟩
    · rcases t4 with t4 | t4
      · rw [he] at t4; cases t4
      · exact t4 m hml (by rw [hx]; simpa using hmu)
    · rcases t5 j hj with t | t
      · rw [hy] at t
        simp only [Option.map_some, Option.getD_some] at t
        rw [hw] at t; cases t
      · have := t m hml (by rw [hx]; simpa using hmu)
        rcases this with ((h1 | h1) | h1) | h1
        · exact .inl h1
        · exact .inr (.inl h1)
        · exact .inr (.inr (.inl h1))
        · exact .inr (.inr (.inr h1))
  have hHat : ∀ i, i < l.length → ∃ h, H[i]? = some h := fun i hi => ⟨H[i]'(by omega), List.getElem?_eq_getElem (by omega)⟩
  -- the invariant
  have key : ∀ (fuel : Nat) (listed : Array Bool) (us : List Value) (W : World), listed.size = l.length → us.length = ds.length → rel w.drew W →
      ((∀ m x, H[m]? = some x → m < l.length → x.turns = true → listed.getD m true = false) → relK w.drew W) →
      (∀ i h, i < l.length → H[i]? = some h → listed.getD i true = true → (h.weak = true → ∀ m x, H[m]? = some x → m < l.length → x.turns = true → listed.getD m true = true → m = i ∨ m ∈ (farG l).getD i []) →
        ∀ W', relG h.weak relK rel W W' → AtG Rs H us i W') →
      (∀ i, i < l.length → listed.getD i true = false → us.getD i undef = (usG a0 ds).getD i undef) →
      (∀ i o, l[i]? = some o → listed.getD i true = true → ∀ j ∈ waitsG o, listed.getD j true = true) →
      (∀ n ol, lst = some (n, ol) → listed.getD n true = false) →
      listed.toList.countP (fun b => !b) ≤ fuel → wpAny P .any l.toArray Q fuel listed ⟨(fillG a0 ds us).toArray, []⟩ W := by
    have allDone : ∀ (fuel : Nat) (listed : Array Bool) (a : Act) (W : World), listed.size = l.length → (∀ i, i < l.length → listed.getD i true = true) → Q .normal a W → wpAny P .any l.toArray Q fuel listed a W := by
      intro fuel listed a W h1 hall hQ
      have hnil : Region.ready .any l.toArray listed = [] := by
        apply List.eq_nil_iff_forall_not_mem.2
        intro i hr
        obtain ⟨hf, o, ho, _⟩ := mem_ready.1 hr
        have hi : i < l.length := by simpa using (Array.getElem?_eq_some_iff.1 ho).1
        rw [hall i hi] at hf
        cases hf
      cases fuel with
      | zero => exact ⟨hnil, hQ⟩
      | succ fuel => exact ⟨fun _ => hQ, fun i hi => by rw [hnil] at hi; cases hi⟩
    have isReady : ∀ (listed : Array Bool), listed.size = l.length → (∃ i, i < l.length ∧ listed.getD i true = false) → Region.ready .any l.toArray listed ≠ [] := by
      intro listed h1 hex hnil
      obtain ⟨i, hi, hf⟩ := hex
      have hmin : ∀ n i, i ≤ n → i < l.length → listed.getD i true = false → False := by
        intro n
        induction n with
        | zero =>
          intro i hin hi hf
          have hi0 : i = 0 := by omega
          subst hi0
          have hr : 0 ∈ Region.ready .any l.toArray listed := mem_ready.2 ⟨hf, l[0], by simp [hi], fun e he hb => by
            obtain ⟨h, hh⟩ := hHat 0 hi
            have := (hop 0 l[0] h (List.getElem?_eq_getElem hi) hh).1 e.on (by unfold waitsG; exact List.mem_map.2 ⟨e, List.mem_filter.2 ⟨by simpa using he, hb⟩, rfl⟩)
            omega⟩
          rw [hnil] at hr
          cases hr
        | succ n ih =>
          intro i hin hi hf
          have hr : i ∈ Region.ready .any l.toArray listed := mem_ready.2 ⟨hf, l[i], by simp [hi], fun e he hb => by
            obtain ⟨h, hh⟩ := hHat i hi
            have hlt := (hop i l[i] h (List.getElem?_eq_getElem hi) hh).1 e.on (by unfold waitsG; exact List.mem_map.2 ⟨e, List.mem_filter.2 ⟨by simpa using he, hb⟩, rfl⟩)
            cases hg : listed.getD e.on true with
            | false => exact (ih e.on (by omega) (by omega) hg).elim
            | true =>
              have hs : e.on < listed.size := by omega
              simpa [Array.getD, hs] using hg⟩
          rw [hnil] at hr
          cases hr
      exact hmin i i (Nat.le_refl _) hi hf
    have done : ∀ (listed : Array Bool) (us : List Value) (W : World), lst = none → us.length = ds.length → rel w.drew W →
        ((∀ m x, H[m]? = some x → m < l.length → x.turns = true → listed.getD m true = false) → relK w.drew W) →
        (∀ i h, i < l.length → H[i]? = some h → listed.getD i true = true → (h.weak = true → ∀ m x, H[m]? = some x → m < l.length → x.turns = true → listed.getD m true = true → m = i ∨ m ∈ (farG l).getD i []) →
          ∀ W', relG h.weak relK rel W W' → AtG Rs H us i W') →
        (∀ i, i < l.length → listed.getD i true = true) → Q .normal ⟨(fillG a0 ds us).toArray, []⟩ W := by
      intro listed us W hnone h2 h3 h3k h4 h5
      have hf := fin us W h2 h3 (fun hnm => h3k fun m x hx hml hmu => by
        rw [List.all_eq_true] at hnm
        have := hnm x (List.mem_of_getElem? hx)
        rw [hmu] at this
        cases this) (AllG.of fun j hj => by
          rw [List.all_eq_true] at hsn
          have hj' := hsn j hj
          cases hx : H[j]? with
          | none => rw [hx] at hj'; cases hj'
          | some x =>
            rw [hx] at hj'
            simp only [Bool.and_eq_true, decide_eq_true_eq, Bool.or_eq_true, Bool.not_eq_true', List.all_eq_true, List.mem_range, beq_iff_eq, List.contains_iff_mem] at hj'
            obtain ⟨⟨hjl, _⟩, hjw⟩ := hj'
            refine h4 j x hjl hx (h5 j hjl) (fun hw m y hy hml hmu _ => ?_) W (by
              cases x.weak with
              | true => exact hKrf W
              | false => exact hrf W)
            rcases hjw with hjw | hjw
            · rw [hw] at hjw; cases hjw
            · have := hjw m hml
              rw [hy] at this
              simp only [Option.map_some, Option.getD_some] at this
              rw [hmu] at this
              rcases this with (h | h) | h
              · cases h
              · exact .inl h
              · exact .inr h)
      subst hnone
      exact hf
    intro fuel
    induction fuel with
    | zero =>
      intro listed us W h1 h2 h3 h3k h4 h5 h6 h8 h7
      have hall : ∀ i, i < l.length → listed.getD i true = true := by
        intro i hi
        have hz : listed.toList.countP (fun b => !b) = 0 := by omega
        have := List.countP_eq_zero.1 hz listed[i] (by simp)
        have hs : i < listed.size := by omega
        simpa [Array.getD, hs] using this
      cases hl : lst with
      | some p =>
        have hn := h8 p.1 p.2 hl
        have hln' := (hln p.1 p.2 hl).2.1
        have hnl := (List.getElem?_eq_some_iff.1 hln').1
        rw [hall p.1 hnl] at hn
        cases hn
      | none => exact allDone 0 listed _ W h1 hall (done listed us W hl h2 h3 h3k h4 hall)
    | succ fuel ih =>
      intro listed us W h1 h2 h3 h3k h4 h5 h6 h8 h7
      refine ⟨fun hnil => ?_, fun i hr => ?_⟩
      · have hall : ∀ i, i < l.length → listed.getD i true = true := fun i hi => by
          cases hg : listed.getD i true with
          | true => rfl
          | false => exact absurd hnil (isReady listed h1 ⟨i, hi, hg⟩)
        cases hl : lst with
        | some p =>
          have hn := h8 p.1 p.2 hl
          have hnl := (List.getElem?_eq_some_iff.1 (hln p.1 p.2 hl).2.1).1
          rw [hall p.1 hnl] at hn
          cases hn
        | none => exact done listed us W hl h2 h3 h3k h4 hall
      · obtain ⟨hf, o, ho, hdep⟩ := mem_ready.1 hr
        have ho' : l[i]? = some o := by simpa using ho
        have hi : i < l.length := (List.getElem?_eq_some_iff.1 ho').1
        obtain ⟨x, hx⟩ := hHat i hi
        obtain ⟨hlt, hnd, hsm, hear, hwk⟩ := hop i o x ho' hx
        have hdone : ∀ j ∈ waitsG o, listed.getD j true = true := by
          intro j hj
          have hlt' := hlt j hj
          unfold waitsG at hj
          obtain ⟨e, he, rfl⟩ := List.mem_map.1 hj
          obtain ⟨he1, he2⟩ := List.mem_filter.1 he
          have := hdep e (by simpa using he1) he2
          have hs : e.on < listed.size := by omega
          simpa [Array.getD, hs] using this
        have hfar : ∀ j ∈ (farG l).getD i [], listed.getD j true = true := farG_of (fun j => listed.getD j true = true) l h6 i o ho' hdone
        have hfarL : ∀ k, k < l.length → listed.getD k true = true → ∀ j ∈ (farG l).getD k [], listed.getD j true = true := fun k hk hlk =>
          farG_of (fun j => listed.getD j true = true) l h6 k l[k] (List.getElem?_eq_getElem hk) (h6 k l[k] (List.getElem?_eq_getElem hk) hlk)
        have hset : ∀ j, j < l.length → (listed.setIfInBounds i true).getD j true = if i = j then true else listed.getD j true := by
          intro j hj
          by_cases hij : i = j
          · subst hij
            have hs : i < listed.size := by omega
            simp [Array.getD, hs]
          · rw [getD_set_ne _ hij, if_neg hij]
        by_cases hlast : ∃ ol, lst = some (i, ol)
        · obtain ⟨ol, hl⟩ := hlast
          obtain ⟨hl1, hl2, hl3⟩ := hln i ol hl
          have heo : ol = o := by
            rw [hl2] at ho'
            injection ho'
          subst heo
          have hoth : ∀ j, j < l.length → j ≠ i → listed.getD j true = true := fun j hj hne => hfar j (by
            simp only [lastG, Bool.and_eq_true, decide_eq_true_eq, List.all_eq_true, List.mem_range, List.contains_iff_mem] at hl1
            exact hl1.2 j (by omega))
          refine wpOp_step (o := ol) (by simpa using ho') fun K hK => ?_
          refine ifG ?_
          have hfn := fin us W h2 h3 (fun hnm => h3k fun m y hy hml hmu => by
            rw [List.all_eq_true] at hnm
            have := hnm y (List.mem_of_getElem? hy)
            rw [hmu] at this
            cases this) (AllG.of fun j hj => by
              rw [List.all_eq_true] at hsn
              have hj' := hsn j hj
              cases hy : H[j]? with
              | none => rw [hy] at hj'; cases hj'
              | some y =>
                rw [hy] at hj'
                simp only [Bool.and_eq_true, decide_eq_true_eq, Bool.or_eq_true, Bool.not_eq_true', List.all_eq_true, List.mem_range, beq_iff_eq, List.contains_iff_mem] at hj'
                obtain ⟨⟨hjl, hjn⟩, hjw⟩ := hj'
                refine h4 j y hjl hy (hoth j hjl (fun e => hjn (by rw [hl, e]; rfl))) (fun hw m z hz hml hmu _ => ?_) W (by
                  cases y.weak with
                  | true => exact hKrf W
                  | false => exact hrf W)
                rcases hjw with hjw | hjw
                · rw [hw] at hjw; cases hjw
                · have := hjw m hml
                  rw [hz] at this
                  simp only [Option.map_some, Option.getD_some] at this
                  rw [hmu] at this
                  rcases this with (h | h) | h
                  · cases h
                  · exact .inl h
                  · exact .inr h)
          rw [hl] at hfn
          obtain ⟨bb, hb1, hb2, hb3⟩ := hfn (h5 i hi hf)
          have hs2 : ∀ j, j < l.length → (listed.setIfInBounds i true).getD j true = true := fun j hj => by
            rw [hset j hj]
            by_cases hij : i = j
            · rw [if_pos hij]
            · rw [if_neg hij]; exact hoth j hj (fun e => hij e.symm)
          exact ⟨bb, hb1, fun e => Oper.wp_mono (fun a' W' hQ => hK _ _ (allDone _ _ _ _ (by simpa using h1) hs2 hQ)) (hb2 e), fun e => hK _ _ (allDone _ _ _ _ (by simpa using h1) hs2 (hb3 e))⟩
        · have st : StepG P l Q relK rel a0 ds Rs H w.drew i o x := by
            cases hl : lst with
            | none =>
              have st0 := steps
              rw [hl] at st0
              have := StepsG.at_ st0 i o x ho' hx
              rwa [Nat.zero_add] at this
            | some p =>
              have hpn : p.1 + 1 = l.length := by
                have := (hln p.1 p.2 hl).1
                simp only [lastG, Bool.and_eq_true, decide_eq_true_eq] at this
                exact this.1
              have hip : i ≠ p.1 := fun e => hlast ⟨p.2, by rw [hl, e]⟩
              have st0 := steps
              rw [hl] at st0
              have := StepsG.at_ st0 i o x (by simp only; rw [List.getElem?_take_of_lt (by omega)]; exact ho') hx
              rwa [Nat.zero_add] at this
          have notI : ∀ m, m < l.length → listed.getD m true = true → i ∈ (farG l).getD m [] → False := fun m hml hlm hmem => by
            have := hfarL m hml hlm i hmem
            rw [hf] at this
            cases this
          have notE : ∀ m, listed.getD m true = true → m = i → False := fun m hlm e => by
            rw [e, hf] at hlm
            cases hlm
          refine wpOp_step (o := o) (by simpa using ho') fun K hK => ?_
          refine ifG (st us W h2 h3 (fun he => h3k fun m y hy hml hmu => ?_) (DepG.of fun j hj => ?_) (SameG.of fun j hj => ?_) K fun a' W' hd => ?_)
          · cases hg : listed.getD m true with
            | false => rfl
            | true =>
              rcases hear he m y hy hml hmu with e | e
              · exact (notE m hg e).elim
              · exact (notI m hml hg e).elim
          · obtain ⟨hjl, hjf⟩ := hnd j hj
            obtain ⟨y, hy⟩ := hHat j hjl
            refine h4 j y hjl hy (hfar j hjf) (fun hw m z hz hml hmu hlm => ?_) W (by
              cases y.weak with
              | true => exact hKrf W
              | false => exact hrf W)
            rcases hwk j hj y hy hw m z hz hml hmu with e | e | e | e
            · exact .inl e
            · exact .inr e
            · exact (notE m hlm e).elim
            · exact (notI m hml hlm e).elim
          · obtain ⟨hjl, hj'⟩ := hsm j hj
            rcases hj' with rfl | hj'
            · exact h5 j hi hf
            · cases hg : listed.getD j true with
              | false => exact h5 j hjl hg
              | true => exact (notI j hjl hg hj').elim
          · obtain ⟨v, rfl, hrel, hR⟩ := hd
            have hrelW : rel W W' := by
              cases hmu : x.turns with
              | true => rw [hmu] at hrel; exact hrel
              | false => rw [hmu] at hrel; exact hK2 _ _ hrel
            have hold : ∀ m, m < l.length → (listed.setIfInBounds i true).getD m true = true → m ≠ i → listed.getD m true = true := fun m hml hlm hne => by
              rw [hset m hml, if_neg (fun e => hne e.symm)] at hlm
              exact hlm
            have hnew : ∀ m, m < l.length → listed.getD m true = true → (listed.setIfInBounds i true).getD m true = true := fun m hml hlm => by
              rw [hset m hml]
              by_cases e : i = m
              · rw [if_pos e]
              · rw [if_neg e]; exact hlm
            have hseti : (listed.setIfInBounds i true).getD i true = true := by rw [hset i hi, if_pos rfl]
            refine hK _ _ (ih _ (us.set i v) W' (by simpa using h1) (by simpa using h2) (htr _ _ _ h3 hrelW) ?_ ?_ ?_ ?_ ?_ ?_)
            · intro hno
              have hxm : x.turns = false := by
                cases hmu : x.turns with
                | false => rfl
                | true =>
                  have := hno i x hx hi hmu
                  rw [hseti] at this
                  cases this
              rw [hxm] at hrel
              refine hKtr _ _ _ (h3k fun m y hy hml hmu => ?_) hrel
              cases hg : listed.getD m true with
              | false => rfl
              | true =>
                have := hno m y hy hml hmu
                rw [hnew m hml hg] at this
                cases this
            · intro j y hjl hy hlj hwc W'' hW
              by_cases hij : j = i
              · subst hij
                rw [hx] at hy
                injection hy with hy
                subst hy
                have hni : j ∉ x.nd := fun hm => by
                  have := hfar j (hnd j hm).2
                  rw [hf] at this
                  cases this
                unfold AtG
                rw [hx, getG_self _ _ _ _ (by omega)]
                simp only [Option.map_some, Option.getD_some]
                rw [valsG_other _ _ _ _ hni]
                exact hR W'' hW
              · have hljo := hold j hjl hlj hij
                have hni : i ∉ y.nd := fun hm => notI j hjl hljo ((hop j l[j] y (List.getElem?_eq_getElem hjl) hy).2.1 i hm).2
                have := h4 j y hjl hy hljo (fun hw m z hz hml hmu hlm => hwc hw m z hz hml hmu (hnew m hml hlm)) W'' (by
                  cases hyw : y.weak with
                  | false =>
                    rw [hyw] at hW
                    exact htr _ _ _ hrelW hW
                  | true =>
                    rw [hyw] at hW
                    cases hmu : x.turns with
                    | false =>
                      rw [hmu] at hrel
                      exact hKtr _ _ _ hrel hW
                    | true =>
                      rcases hwc hyw i x hx hi hmu hseti with e | e
                      · exact (hij e.symm).elim
                      · have := hfarL j hjl hljo i e
                        rw [hf] at this
                        cases this)
                unfold AtG at this ⊢
                rw [hy] at this ⊢
                simp only [Option.map_some, Option.getD_some] at this ⊢
                rw [valsG_other _ _ _ _ hni, getG_other _ _ _ _ _ (fun e => hij e.symm)]
                exact this
            · intro j hj hl
              by_cases hij : i = j
              · subst hij
                rw [hseti] at hl
                cases hl
              · rw [getG_other _ _ _ _ _ hij]
                rw [hset j hj, if_neg hij] at hl
                exact h5 j hj hl
            · intro j o' hj hlj k hk
              have hjl := (List.getElem?_eq_some_iff.1 hj).1
              have hold2 : listed.getD k true = true := by
                by_cases hij : j = i
                · subst hij
                  rw [ho'] at hj
                  injection hj with hj
                  subst hj
                  exact hdone k hk
                · exact h6 j o' hj (hold j hjl hlj hij) k hk
              by_cases hik : i = k
              · subst hik
                exact hseti
              · rw [getD_set_ne _ hik]; exact hold2
            · intro n ol hl
              by_cases hin : i = n
              · subst hin
                exact (hlast ⟨ol, hl⟩).elim
              · rw [getD_set_ne _ hin]; exact h8 n ol hl
            · have hs : i < listed.toList.length := by simpa using (show i < listed.size by omega)
              rw [Array.toList_setIfInBounds, List.countP_set hs]
              have hfi : listed.toList[i] = false := by
                have hs' : i < listed.size := by omega
                simpa [Array.getD, hs'] using hf
              rw [hfi]
              have hpos : 0 < listed.toList.countP (fun b => !b) := by
                rw [List.countP_pos_iff]
                exact ⟨_, List.getElem_mem hs, by rw [hfi]; rfl⟩
              simp only [Bool.not_false, Bool.not_true, if_true, Bool.false_eq_true, if_false]
              omega
  refine wp_region_any hm ?_
  have hst := key l.length (Array.replicate l.length false) (usG a0 ds) w.drew (by simp) (by simp [usG]) (hrf _) (fun _ => hKrf _) ?_ (fun _ _ _ => rfl) ?_ ?_ ?_
  · rw [fillG_start] at hst
    simpa using hst
  · intro i x hi hx hl
    simp [Array.getD, hi] at hl
  · intro i o ho hl
    have hi : i < l.length := (List.getElem?_eq_some_iff.1 ho).1
    simp [Array.getD, hi] at hl
  · intro n ol hl
    have hi : n < l.length := (List.getElem?_eq_some_iff.1 (hln n ol hl).2.1).1
    simp [Array.getD, hi]
  · have := List.countP_le_length (p := fun b => !b) (l := (Array.replicate l.length false).toList)
    simpa using this
theorem region_all {id : Nat} {w : World} (hm : P.follows .mixedOrders = true) (relK rel : World → World → Prop) (hKrf : ∀ w, relK w w) (hKtr : ∀ a b c, relK a b → relK b c → relK a c) (hrf : ∀ w, rel w w) (htr : ∀ a b c, rel a b → rel b c → rel a c) (hK2 : ∀ a b, relK a b → rel a b)
    (ds : List (Option Nat)) (Rs : List FactG) (H : List HowG) (sn : List Nat) (hchk : chkG l ds H = true) (hsn : sn.all (fun i => match H[i]? with
      | some h => decide (i < l.length) && (!h.weak || (List.range l.length).all fun m => !((H[m]?).map (·.turns)).getD true || m == i || ((farG l).getD i []).contains m)
      | none => false) = true)
    (steps : StepsG P l Q relK rel a0 ds Rs H w.drew 0 l H)
    (fin : ∀ us W, us.length = ds.length → rel w.drew W → ((H.all fun h => !h.turns) = true → relK w.drew W) → AllG Rs H W us sn → Q .normal ⟨(fillG a0 ds us).toArray, []⟩ W) : (Code.region id l.toArray true).wp P Q ⟨a0.toArray, []⟩ w := by
  refine region_gen hm relK rel hKrf hKtr hrf htr hK2 ds Rs H none sn hchk ?_ (fun n ol h => by cases h) steps fin
  rw [List.all_eq_true] at hsn ⊢
  intro i hi
  have := hsn i hi
  cases hh : H[i]? with
  | none => rw [hh] at this; exact this
  | some h =>
    rw [hh] at this
    simp only [Bool.and_eq_true, decide_eq_true_eq] at this ⊢
    exact ⟨⟨this.1, fun e => by cases e⟩, this.2⟩
theorem region_last {id : Nat} {w : World} (n : Nat) (ol : Oper) (hm : P.follows .mixedOrders = true) (relK rel : World → World → Prop) (hKrf : ∀ w, relK w w) (hKtr : ∀ a b c, relK a b → relK b c → relK a c) (hrf : ∀ w, rel w w) (htr : ∀ a b c, rel a b → rel b c → rel a c) (hK2 : ∀ a b, relK a b → rel a b)
    (ds : List (Option Nat)) (Rs : List FactG) (H : List HowG) (sn : List Nat) (hchk : chkG l ds H = true) (hsn : sn.all (fun i => match H[i]? with
      | some h => decide (i < n) && (!h.weak || (List.range l.length).all fun m => !((H[m]?).map (·.turns)).getD true || m == i || ((farG l).getD i []).contains m)
      | none => false) = true)
    (hl1 : lastG l n ol = true) (hl2 : l[n]? = some ol) (hl3 : ((H[n]?).map (·.turns)).getD true = false)
    (steps : StepsG P l Q relK rel a0 ds Rs H w.drew 0 (l.take n) H)
    (fin : ∀ us W, us.length = ds.length → rel w.drew W → ((H.all fun h => !h.turns) = true → relK w.drew W) → AllG Rs H W us sn → us.getD n undef = (usG a0 ds).getD n undef →
      ∃ b : Bool, Region.wanted ol (yielded l.toArray (fillG a0 ds us).toArray) = b ∧ (b = true → Oper.wp P ol ⟨(fillG a0 ds us).toArray, []⟩ W (fun a' W' => Q .normal a' W') Q) ∧ (b = false → Q .normal ((⟨(fillG a0 ds us).toArray, []⟩ : Act).put ol.dst undef) W)) : (Code.region id l.toArray true).wp P Q ⟨a0.toArray, []⟩ w := by
  refine region_gen hm relK rel hKrf hKtr hrf htr hK2 ds Rs H (some (n, ol)) sn hchk ?_ (fun n' ol' h => by cases h; exact ⟨hl1, hl2, hl3⟩) steps fin
  have hnl := (List.getElem?_eq_some_iff.1 hl2).1
  rw [List.all_eq_true] at hsn ⊢
  intro i hi
  have := hsn i hi
  cases hh : H[i]? with
  | none => rw [hh] at this; exact this
  | some h =>
    rw [hh] at this
    simp only [Bool.and_eq_true, decide_eq_true_eq] at this ⊢
    refine ⟨⟨by omega, ?_⟩, this.2⟩
    intro e
    simp only [Option.map_some, Option.some.injEq] at e
    omega
end
/-- A list of n values, opened. -/
def OpensG : Nat → (List Value → Prop) → Prop
  | 0, p => p []
  | n + 1, p => ∃ u, OpensG n fun l => p (u :: l)
theorem opensG_of : ∀ (us : List Value) (p : List Value → Prop), p us → OpensG us.length p
  | [], _, h => h
  | u :: us, p, h => ⟨u, opensG_of us (fun l => p (u :: l)) h⟩
theorem rog (n : Nat) {us : List Value} {ds : List (Option Nat)} (h : us.length = ds.length) (hn : ds.length = n) : OpensG n (us = ·) := by
  have := opensG_of us (us = ·) rfl
  rwa [h, hn] at this
theorem and_tt {a b : Bool} (h : a = true) (k : b = true) : (a && b) = true := by rw [h, k]; rfl
/-- A value under a guard. -/
def gd (c : Bool) (v : Value) : Value := bif c then v else undef
theorem gd_t {c : Bool} (h : c = true) (v : Value) : v = gd c v := by rw [h]; rfl
theorem gd_f {c : Bool} (h : c = false) (v : Value) : v = gd (!c) v := by rw [h]; rfl
theorem gd_tn {c : Bool} (h : c = false) (v : Value) : undef = gd c v := by rw [h]; rfl
theorem gd_fn {c : Bool} (h : c = true) (v : Value) : undef = gd (!c) v := by rw [h]; rfl
theorem want_n {f : Nat → Option Bool} {o : Oper} {A B : Prop} (hg : o.guard = none) (h : A) : ∃ b : Bool, Region.wanted o f = b ∧ (b = true → A) ∧ (b = false → B) :=
  ⟨true, by simp [Region.wanted, hg], fun _ => h, fun e => by cases e⟩
theorem want_y {f : Nat → Option Bool} {o : Oper} {A B : Prop} (hg : Region.wanted o f = true) (h : A) : ∃ b : Bool, Region.wanted o f = b ∧ (b = true → A) ∧ (b = false → B) :=
  ⟨true, hg, fun _ => h, fun e => by cases e⟩
theorem want_f {f : Nat → Option Bool} {o : Oper} {A B : Prop} (hg : Region.wanted o f = false) (h : B) : ∃ b : Bool, Region.wanted o f = b ∧ (b = true → A) ∧ (b = false → B) :=
  ⟨false, hg, (fun e => by cases e), fun _ => h⟩
/-- A guard whose test is not decided: b. -/
theorem want_b {f : Nat → Option Bool} {o : Oper} {A B : Prop} {j : Nat} {want b : Bool} (hg : o.guard = some (j, want)) (hf : f j = some b) (hA : b = want → A) (hB : b = !want → B) : ∃ b : Bool, Region.wanted o f = b ∧ (b = true → A) ∧ (b = false → B) := by
  refine ⟨b == want, by simp [Region.wanted, hg, hf], fun h => hA (by simpa using h), fun h => hB ?_⟩
  cases b <;> cases want <;> simp_all
/-- A slot's value, in closed form, or in terms of the slots of the operations that it waits for. -/
def eqG (e : Value) : FactG := fun _ _ v => v = e
def eqG1 (e : Value → Value) (i : Nat) : FactG := fun us _ v => v = e (us.getD i undef)
def eqG2 (e : Value → Value → Value) (i j : Nat) : FactG := fun us _ v => v = e (us.getD i undef) (us.getD j undef)
def eqG3 (e : Value → Value → Value → Value) (i j k : Nat) : FactG := fun us _ v => v = e (us.getD i undef) (us.getD j undef) (us.getD k undef)
def gdG (c : Bool) (e : Value) : FactG := fun _ _ v => v = gd c e
def gdG1 (c : Bool) (e : Value → Value) (i : Nat) : FactG := fun us _ v => v = gd c (e (us.getD i undef))
def gnG (c : Bool) (e : Value) : FactG := fun _ _ v => v = gd (!c) e
def gnG1 (c : Bool) (e : Value → Value) (i : Nat) : FactG := fun us _ v => v = gd (!c) (e (us.getD i undef))
theorem wp_pick_and {P : Program} {o : Oper} {a : Act} {W : World} {K : Act → World → Prop} {Q : Exit → Act → World → Prop} {c x : Operand} {b y : Bool} (ho : o.op = .pick c x (.const (.bool false))) (hc : a.eval c = .bool b) (hx : a.eval x = gd b (.bool y))
    (h : K (a.put o.dst (.bool (b && y))) W) : o.wp P a W K Q := by
  unfold Oper.wp execOp
  cases b <;> simp_all [gd, Act.eval, asBool, Oper.upon]
theorem wp_pick_or {P : Program} {o : Oper} {a : Act} {W : World} {K : Act → World → Prop} {Q : Exit → Act → World → Prop} {c x : Operand} {b y : Bool} (ho : o.op = .pick c (.const (.bool true)) x) (hc : a.eval c = .bool b) (hx : a.eval x = gd (!b) (.bool y))
    (h : K (a.put o.dst (.bool (b || y))) W) : o.wp P a W K Q := by
  unfold Oper.wp execOp
  cases b <;> simp_all [gd, Act.eval, asBool, Oper.upon]
/-- A guard whose test is itself under a guard. -/
theorem want_ct {l : Array Oper} {tm : Array Value} {o : Oper} {A B : Prop} {j : Nat} {c b : Bool} {d : Nat} (hg : o.guard = some (j, true)) (hd : (l[j]?.bind (·.dst)) = some d) (hf : tm[d]? = some (gd c (.bool b))) (hA : c = true → b = true → A) (hB : (c && b) = false → B) : ∃ x : Bool, Region.wanted o (yielded l tm) = x ∧ (x = true → A) ∧ (x = false → B) := by
  have hy : yielded l tm j = if c then some b else none := by
    unfold yielded
    rw [hd]
    simp only [Option.bind_some, hf]
    cases c <;> rfl
  refine ⟨c && b, ?_, fun h => ?_, hB⟩
  · simp only [Region.wanted, hg, hy]
    cases c <;> cases b <;> rfl
  · simp only [Bool.and_eq_true] at h
    exact hA h.1 h.2
/-- The world is left to itself. -/
def AnyW (_ _ : World) : Prop := True
theorem anyrf (w : World) : AnyW w w := trivial
theorem anytr (a b c : World) (_ : AnyW a b) (_ : AnyW b c) : AnyW a c := trivial
theorem anyk (a b : World) (_ : Keep a b) : AnyW a b := trivial
theorem grown_keep {w a b : World} {row : Option Nat} (h : w.grownBy a row) (k : Keep a b) : w.grownBy b row :=
  ⟨k.os.trans h.os, k.tape.trans h.tape, k.output.trans h.output, Nat.le_trans h.size k.size, fun i hi hr => by
    rw [k.block i (Nat.lt_of_lt_of_le hi h.size), h.block i hi hr]⟩
section
variable {P : Program}
/-- append onto what has no room: what was there stays. -/
theorem run_app0 (w : World) (base : Nat) (t ty e : TypeId) (i : TypeInfo) (z : Value) (size bytes : Nat) (ht : P.underlying t = some (.slice e)) (hi : P.info? e = some i) (hz : i.zero = some z)
    (hsize : i.size = size) (hby : i.bytes = bytes) (hzs : z.cells.size = size) (hsz : 0 < size)
    (g : Nat) (hg : w.heap[g]? = some (.cells #[] e)) (hbg : base ≤ g) (y : Value) (m : Nat) (news : List Value) (hy : Src w size y m news)
    (h63 : m ≤ maxLen) (hbytes : m * bytes ≤ 140737488355328) (hbase : base ≤ w.heap.size) :
    ∃ v' w', (Builtin.append_ #[t, t] ty #[.slice (some ⟨g, 0, none⟩) 0 0, y]).run P w = .ok v' w' ∧ w'.ownsRow base e size v' m news ∧ Keep w w' ∧ ∃ A c, v' = .slice A m c := by
  obtain ⟨hl, A, c, rfl, hc⟩ := hy
  by_cases hm : m = 0
  · subst hm
    have hn : news = [] := List.eq_nil_of_length_eq_zero (by simpa using hl)
    subst hn
    refine ⟨_, w, ?_, ⟨by simp, .inr ⟨g, 0, #[], rfl, hbg, hg, Nat.le_refl _, by simp [maxLen], by simp, by simp⟩⟩, Keep.rf w, _, _, rfl⟩
    cases A with
    | none => simp [Builtin.append_, run_underlying ht, sizeOf, typeInfo, hi, Builtin.lenOf, Builtin.firstCells, storeCells]
    | some ad => simp [Builtin.append_, run_underlying ht, sizeOf, typeInfo, hi, Builtin.lenOf, Builtin.firstCells, storeCells, loadCells, loadCellsFrom]
  · obtain ⟨ad, rfl, hcells⟩ := hc (by omega)
    subst hsize
    subst hby
    have hr := run_append_grow (P := P) w t ty e i z ht hi hz ⟨g, 0, none⟩ 0 0 [] (by simp) (by simp) ad m c news hl hcells (by omega) (by simp only [maxLen] at h63; omega) (growslice_fits (by omega) (by rw [Nat.zero_add]; exact hbytes))
    rw [Nat.zero_add] at hr
    have hge := grownCap_ge w m 0 e
    have hcm : grownCap w m 0 e ≤ maxLen := grownCap_le_maxLen w m 0 e (by omega)
    refine ⟨_, _, hr, ⟨by simpa using hl, .inr ⟨w.heap.size, _, _, rfl, hbase, heap_alloc_new w.drew _, hge, hcm, ?_, ?_⟩⟩, (Keep.dr (Keep.rf w)).al _, _, _, rfl⟩
    · simp only [Array.size_append, List.size_toArray, size_zeroCells, hzs, hl, List.length_nil, Nat.zero_add] at hge ⊢
      rw [← Nat.add_mul]
      congr 1
      omega
    · simp only [Array.toList_append, List.append_assoc]
      rw [← hl]
      simp
theorem wp_app0 {w : World} {o : Oper} {a : Act} {K : Act → World → Prop} {Q : Exit → Act → World → Prop} (s x : Operand) (t : TypeId)
    (ho : o.op = .call { callee := .builtin .append, args := #[s, x], argTypes := #[t, t] })
    (base e : Nat) (z : Value) (size bytes : Nat) (ht : P.underlying t = some (.slice e)) (hinfo : (P.info? e).map (fun i => (i.zero, i.size, i.bytes)) = some (some z, size, bytes)) (hzs : z.cells.size = size) (hsz : 0 < size)
    (g : Nat) (hs : a.eval s = .slice (some ⟨g, 0, none⟩) 0 0) (hg : w.heap[g]? = some (.cells #[] e)) (hbg : base ≤ g)
    (y : Value) (m : Nat) (news : List Value) (hx : a.eval x = y) (hy : Src w size y m news)
    (h63 : m ≤ maxLen) (hbytes : m * bytes ≤ 140737488355328) (hbase : base ≤ w.heap.size)
    (h : ∀ A c w', w'.ownsRow base e size (.slice A m c) m news → Keep w w' → K (a.put o.dst (.slice A m c)) w') : o.wp P a w K Q := by
  obtain ⟨i0, hi, hzz⟩ := Option.map_eq_some_iff.1 hinfo
  simp only [Prod.mk.injEq] at hzz
  obtain ⟨hz0, hz1, hz2⟩ := hzz
  obtain ⟨v', w', hrun, h2, h3, A, c, rfl⟩ := run_app0 (P := P) w base t o.type e i0 z size bytes ht hi hz0 hz1 hz2 hzs hsz g hg hbg y m news hy h63 hbytes hbase
  unfold Oper.wp execOp
  simp only [ho, resolve, invoke, builtin, Sem.run_bind, Sem.run_pure, Result.andThen_ok, List.map_toArray, List.map_cons, List.map_nil, hs, hx, hrun]
  exact h A c w' h2 h3
end
theorem krg (w : World) : Keep w w := Keep.rf w
theorem ktg (a b c : World) (h : Keep a b) (k : Keep b c) : Keep a c := Keep.tr h k
end Go.Proofs.YtoehaijmkmdggaaGreat
