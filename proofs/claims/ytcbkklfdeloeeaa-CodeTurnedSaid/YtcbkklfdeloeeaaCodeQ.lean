/- Words for the walks of Read (code): rows of texts, of instructions, of functions; where the loops stand. -/
import Derived.Test.YtcbkklfdeloeeaaCodeN
namespace Go.Proofs.Ytcbkklfdeloeeaa
open Go.RowKit
open Em (Prg)
set_option linter.unusedVariables false
set_option maxRecDepth 100000
abbrev sv (s : List UInt8) : Value := .string (str s)
abbrev encI (x : Int × Int) : List Value := [.int .i64 x.1, .int .i64 x.2]
theorem map_flat : ∀ xs : List (List UInt8), (xs.map sv) = (xs.map fun s => [sv s]).flatten
  | [] => rfl
  | x :: xs => by rw [List.map_cons, List.map_cons, List.flatten_cons, ← map_flat xs]; rfl
theorem sl_of_strs {w : World} {base e n : Nat} {v : Value} {xs : List (List UInt8)} (h : w.ownsRow base e 1 v n (xs.map sv)) (hn : n = xs.length) : Sl 1 KS w v xs := by
  rw [map_flat xs] at h
  exact sl_of_own h hn (by simp) (fun cs hc => by obtain ⟨a, _, rfl⟩ := List.mem_map.1 hc; rfl) fun j h1 h2 => by rw [List.getElem_map]; rfl
theorem sl_of_ins {w : World} {base e n : Nat} {v : Value} {xs : List (Int × Int)} (h : w.ownsRow base e 2 v n (xs.map encI).flatten) (hn : n = xs.length) (hw : ∀ x ∈ xs, In64 x.1 ∧ In64 x.2) : Sl 2 KIns w v xs :=
  sl_of_own h hn (by simp) (fun cs hc => by obtain ⟨a, _, rfl⟩ := List.mem_map.1 hc; rfl) fun j h1 h2 => by
    rw [List.getElem_map]
    have := hw xs[j] (List.getElem_mem _)
    exact ⟨rfl, wf_of this.1, wf_of this.2⟩
/-- A row of instructions, with the block where it lies. -/
def InsRow (S : Nat → Prop) (w : World) (v : Value) (f : List (Int × Int)) : Prop := (∀ k, v.ownBlock = some k → S k) ∧ Sl 2 KIns w v f
theorem InsRow.mono {S S' : Nat → Prop} {w : World} {v : Value} {f : List (Int × Int)} (h : InsRow S w v f) (hs : ∀ k, S k → S' k) : InsRow S' w v f := ⟨fun k hk => hs k (h.1 k hk), h.2⟩
theorem InsRow.frm {S T : Nat → Prop} {w w' : World} {v : Value} {f : List (Int × Int)} (h : InsRow S w v f) (k : Frm T w w') (hs : ∀ k, S k → ¬ T k) : InsRow S w' v f := by
  obtain ⟨h4, A, c, e, g1, g2, g3⟩ := h
  refine ⟨h4, A, c, e, g1, g2, fun hp => (g3 hp).imp fun ad ⟨ea, hc⟩ => ⟨ea, fun j hj => (hc j hj).imp fun cs ⟨hl, hcell, hk⟩ => ⟨hl, fun i u hu => k.cell (fun ht => hs ad.block (h4 ad.block (by rw [e, ea]; rfl)) (by
    have : (ad.add (j * 2 + i)).block = ad.block := by unfold Addr.add; split <;> rfl
    rwa [this] at ht)) (hcell i u hu), hk⟩⟩⟩
/-- A row of functions of the call's own. -/
structure RowF (w5 W : World) (v : Value) (vs : List Value) (fs : List (List (Int × Int))) : Prop where
  own : W.ownsRow w5.heap.size 89 1 v vs.length vs
  len : vs.length = fs.length
  row : ∀ (i : Nat) (h : i < vs.length) (h' : i < fs.length), InsRow (fun k => w5.heap.size ≤ k ∧ k < W.heap.size ∧ v.ownBlock ≠ some k) W vs[i] fs[i]
theorem RowF.nil (w5 W : World) : RowF w5 W (.slice none 0 0) [] [] := ⟨⟨by simp, .inl ⟨rfl, rfl⟩⟩, rfl, fun i h => by simp at h⟩
theorem RowF.frm {w5 W W' : World} {v : Value} {vs : List Value} {fs : List (List (Int × Int))} {T : Nat → Prop} (h : RowF w5 W v vs fs) (k : Frm T W W') (hT : ∀ i, T i → i < w5.heap.size ∨ W.heap.size ≤ i) : RowF w5 W' v vs fs where
  own := k.own h.own fun q hq ht => by have := World.ownsRow.lt h.own q hq; have := hT q ht; omega
  len := h.len
  row := fun i h1 h2 => ((h.row i h1 h2).frm k fun q hq ht => by have := hT q ht; omega).mono fun q hq => ⟨hq.1, Nat.lt_of_lt_of_le hq.2.1 k.size, hq.2.2⟩
theorem RowF.push {w5 Wb W' : World} {v v' u : Value} {vs : List Value} {fs : List (List (Int × Int))} {f : List (Int × Int)} {S : Nat → Prop} (h : RowF w5 Wb v vs fs) (hu : InsRow S Wb u f) (hS : ∀ k, S k → w5.heap.size ≤ k ∧ k < Wb.heap.size ∧ v.ownBlock ≠ some k)
    (ha : App Wb w5.heap.size 89 1 v (vs.length + 1) (vs ++ [u]) v' W') : RowF w5 W' v' (vs ++ [u]) (fs ++ [f]) := by
  obtain ⟨a1, a2, a3⟩ := ha
  have hF : Frm (fun k => v.ownBlock = some k) Wb W' := Frm.of_grown a2 fun _ e => e
  have hv : ∀ k, k < Wb.heap.size → v.ownBlock ≠ some k → v'.ownBlock ≠ some k := fun k hk hn e => by
    rcases a3 with a3 | a3
    · exact hn (by rw [← a3, e])
    · rw [a3] at e
      injection e with e
      omega
  refine ⟨by simpa using a1, by simp [h.len], fun i h1 h2 => ?_⟩
  rcases Nat.lt_or_ge i vs.length with hi | hi
  · rw [List.getElem_append_left hi, List.getElem_append_left (by have := h.len; omega)]
    exact ((h.row i hi (by have := h.len; omega)).frm hF fun k hk e => hk.2.2 e).mono fun k hk => ⟨hk.1, Nat.lt_of_lt_of_le hk.2.1 hF.size, hv k hk.2.1 hk.2.2⟩
  · have hi2 : i = vs.length := by simp at h1; omega
    subst hi2
    have hl := h.len
    rw [List.getElem_append_right (Nat.le_refl _), List.getElem_append_right (by omega)]
    simp only [Nat.sub_self, show vs.length - fs.length = 0 by omega, List.getElem_singleton]
    exact (hu.frm hF fun k hk e => (hS k hk).2.2 e).mono fun k hk => ⟨(hS k hk).1, Nat.lt_of_lt_of_le (hS k hk).2.1 hF.size, hv k (hS k hk).2.1 (hS k hk).2.2⟩
theorem RowF.sl {w5 W : World} {v : Value} {vs : List Value} {fs : List (List (Int × Int))} (h : RowF w5 W v vs fs) : Sl 1 KFun W v fs := by
  have ho := h.own
  have e1 : vs = (vs.map fun u => [u]).flatten := by
    generalize vs = l
    induction l with
    | nil => rfl
    | cons x xs ih => rw [List.map_cons, List.flatten_cons, ← ih]; rfl
  rw [e1] at ho
  exact sl_of_own ho (by rw [← e1]; exact h.len) (by simp [h.len]) (fun cs hc => by obtain ⟨a, _, rfl⟩ := List.mem_map.1 hc; rfl) fun j h1 h2 => by
    rw [List.getElem_map]
    exact ⟨_, rfl, (h.row j (by simpa using h1) h2).2⟩
/-- Where the loop over the texts stands. -/
structure RdS (tt : Nat) (w W5 W : World) (p b5 : Nat) (d : Int) (n0 : Nat) (s0 : Option (List UInt8)) (st : Option (List UInt8)) (vb v : Value) (xs : List (List UInt8)) : Prop where
  own : W.ownsRow W5.heap.size 9 1 v xs.length (xs.map sv)
  blk : W.heap[b5]? = some (.cells #[.int .i64 d, .slice none 0 0, vb] 36)
  zero : W.heap[w.heap.size]? = some (.cells #[.int .i64 0, .slice none 0 0, .slice none 0 0] 36)
  keep : Keep w W
  size : W5.heap.size ≤ W.heap.size
  stt : StC tt w W p st
  no : st = none → s0.bind (Em.rdMany Em.rdTx n0) = none
  yes : ∀ l, st = some l → s0.bind (Em.rdMany Em.rdTx n0) = (match Em.rdMany Em.rdTx (n0 - xs.length) l with | none => none | some (us, r) => some (xs ++ us, r))
section
variable {tt : Nat} {w W5 W W' wr : World} {p b5 : Nat} {d : Int} {n0 : Nat} {s0 st : Option (List UInt8)} {vb v : Value} {xs : List (List UInt8)}
theorem RdS.kp (h : RdS tt w W5 W p b5 d n0 s0 st vb v xs) (k : Keep W W') : RdS tt w W5 W' p b5 d n0 s0 st vb v xs where
  own := own_keep h.own k
  blk := (k.frm fun _ => False).heap (fun h => h) h.blk
  zero := (k.frm fun _ => False).heap (fun h => h) h.zero
  keep := Keep.tr h.keep k
  size := Nat.le_trans h.size k.size
  stt := h.stt.keep k
  no := h.no
  yes := h.yes
/-- One text more, not put back yet. -/
def PshS (tt : Nat) (w W5 : World) (p b5 : Nat) (d : Int) (n0 : Nat) (s0 : Option (List UInt8)) (st : Option (List UInt8)) (vb : Value) (j : Nat) (W : World) (v : Value) : Prop :=
  ∃ xs A c, v = .slice A j c ∧ xs.length = j ∧ RdS tt w W5 W p b5 d n0 s0 st vb (.slice A j c) xs
theorem PshS.keep {j : Nat} (h : PshS tt w W5 p b5 d n0 s0 st vb j W v) (k : Keep W W') : PshS tt w W5 p b5 d n0 s0 st vb j W' v := by
  obtain ⟨xs, A, c, e, hj, h⟩ := h
  exact ⟨xs, A, c, e, hj, h.kp k⟩
theorem RdS.push {v' : Value} {w' : World} {x : List UInt8} (hI : RdS tt w W5 wr p b5 d n0 s0 st v v xs) (hwp : w.heap.size < p) (hp : p < b5) (h5 : b5 < W5.heap.size) (hjK : xs.length < n0)
    (F : Frm (· = p) wr W) (hS : StC tt w W p ((texS st).map fun x => x.2)) (hx : ∀ t r, texS st = some (t, r) → x = t)
    (ha : App W W5.heap.size 9 1 v (xs.length + 1) (xs.map sv ++ [sv x]) v' w') :
    PshS tt w W5 p b5 d n0 s0 ((texS st).map fun x => x.2) v (xs.length + 1) w' v' := by
  obtain ⟨vA, vc, rfl⟩ := own_slice ha.1
  have hsz : W5.heap.size ≤ wr.heap.size := hI.size
  have hown : ∀ k, v.ownBlock = some k → W5.heap.size ≤ k ∧ k < wr.heap.size := World.ownsRow.lt hI.own
  have Fa : Frm (fun k => v.ownBlock = some k) W w' := Frm.of_grown ha.2.1 fun _ e => e
  have hs2 : W.heap.size ≤ w'.heap.size := Fa.size
  have hs1 : wr.heap.size ≤ W.heap.size := F.size
  refine ⟨xs ++ [x], vA, vc, rfl, by simp, by simpa using ha.1, Fa.heap (fun e => by have := hown _ e; omega) (F.heap (fun e => by have e : b5 = p := e; omega) hI.blk), Fa.heap (fun e => by have := hown _ e; omega) (F.heap (fun e => by have e : w.heap.size = p := e; omega) hI.zero),
    Frm.keep (Frm.keep hI.keep F fun i e => by have e : i = p := e; omega) Fa fun i e => by have := hown _ e; omega, by omega, hS.frm Fa (fun e => by have := hown _ e; omega), fun h => ?_, fun l h => ?_⟩
  · cases hst : st with
    | none => exact hI.no hst
    | some l =>
      have hrest := hI.yes l hst
      rw [hrest, show n0 - xs.length = (n0 - (xs.length + 1)) + 1 by omega, Em.rdMany]
      rw [hst] at h
      cases hy : Em.rdTx l with
      | none => rfl
      | some y => simp [texS, hy] at h
  · cases hst : st with
    | none => rw [hst] at h; cases h
    | some l1 =>
      have hrest := hI.yes l1 hst
      cases hy : Em.rdTx l1 with
      | none => rw [hst] at h; simp [texS, hy] at h
      | some y =>
        obtain ⟨t, r⟩ := y
        have hty : texS st = some (t, r) := by rw [hst]; exact hy
        rw [hty] at h
        injection h with h
        have h : r = l := h
        subst h
        have hxt := hx t r hty
        subst hxt
        rw [hrest, show n0 - xs.length = (n0 - (xs.length + 1)) + 1 by omega, Em.rdMany, hy]
        simp only [List.length_append, List.length_singleton]
        cases Em.rdMany Em.rdTx (n0 - (xs.length + 1)) r with
        | none => rfl
        | some q =>
          obtain ⟨us, r2⟩ := q
          simp
theorem RdS.put (h : RdS tt w W5 W p b5 d n0 s0 st vb v xs) (hwp : w.heap.size < p) (hp : p < b5) (h5 : b5 < W5.heap.size) : RdS tt w W5 (W.setCell ⟨b5, 2, none⟩ v) p b5 d n0 s0 st v v xs := by
  have FS : Frm (· = b5) W (W.setCell ⟨b5, 2, none⟩ v) := Frm.st (S := (· = b5)) (p := ⟨b5, 2, none⟩) (Frm.rf _ W) (.inl rfl) _
  have hlt := World.ownsRow.lt h.own
  exact ⟨FS.own h.own fun q hq e => by have e : q = b5 := e; have := hlt q hq; omega, heap_setT (j := 2) h.blk v, FS.heap (fun e => by have e : w.heap.size = b5 := e; omega) h.zero, Frm.keep h.keep FS fun i e => by have e : i = b5 := e; omega, by rw [size_set]; exact h.size,
    h.stt.frm FS (fun e => by have e : p = b5 := e; omega), h.no, h.yes⟩
end
/-- Where the loop over a function's instructions stands. -/
structure RdI (tt : Nat) (w wr W : World) (p : Nat) (m0 : Nat) (s0 : Option (List UInt8)) (st : Option (List UInt8)) (v : Value) (xs : List (Int × Int)) : Prop where
  own : W.ownsRow wr.heap.size 91 2 v xs.length (xs.map encI).flatten
  frm : Frm (· = p) wr W
  wf : ∀ x ∈ xs, In64 x.1 ∧ In64 x.2
  stt : StC tt w W p st
  no : st = none → s0.bind (Em.rdMany Em.rdI m0) = none
  yes : ∀ l, st = some l → s0.bind (Em.rdMany Em.rdI m0) = (match Em.rdMany Em.rdI (m0 - xs.length) l with | none => none | some (us, r) => some (xs ++ us, r))
section
variable {tt : Nat} {w wr W W1 W6 w' : World} {p m0 : Nat} {s0 st : Option (List UInt8)} {v v' : Value} {xs : List (Int × Int)} {o n : Int}
theorem RdI.push (hI : RdI tt w wr W p m0 s0 st v xs) (hp : p < wr.heap.size) (hjK : xs.length < m0) (F : Frm (· = p) W W1) (k6 : Keep W1 W6)
    (hwo : (Lit.int .i64 o).wf = true) (hwn : (Lit.int .i64 n).wf = true) (hx : ∀ x r, insS st = some (x, r) → (o, n) = x) (hS : StC tt w W1 p ((insS st).map fun x => x.2))
    (ha : App W6 wr.heap.size 91 2 v (xs.length + 1) ((xs.map encI).flatten ++ [.int .i64 o, .int .i64 n]) v' w') :
    RdI tt w wr w' p m0 s0 ((insS st).map fun x => x.2) v' (xs ++ [(o, n)]) := by
  have hown : ∀ k, v.ownBlock = some k → wr.heap.size ≤ k ∧ k < W.heap.size := World.ownsRow.lt hI.own
  have Fa : Frm (fun k => v.ownBlock = some k) W6 w' := Frm.of_grown ha.2.1 fun _ e => e
  refine ⟨by simpa using ha.1, ((hI.frm.tr F).tr (k6.frm _)).trn Fa fun i e => .inr (by have := hown _ e; omega), fun x hx' => ?_, (hS.keep k6).frm Fa fun e => by have := hown _ e; omega, fun h => ?_, fun l h => ?_⟩
  · rcases List.mem_append.1 hx' with hx' | hx'
    · exact hI.wf x hx'
    · rw [List.mem_singleton.1 hx']
      exact ⟨in_i64 hwo, in_i64 hwn⟩
  · cases hst : st with
    | none => exact hI.no hst
    | some l =>
      have hrest := hI.yes l hst
      rw [hrest, show m0 - xs.length = (m0 - (xs.length + 1)) + 1 by omega, Em.rdMany]
      rw [hst] at h
      cases hy : Em.rdI l with
      | none => rfl
      | some y => simp [insS, hy] at h
  · cases hst : st with
    | none => rw [hst] at h; cases h
    | some l1 =>
      have hrest := hI.yes l1 hst
      cases hy : Em.rdI l1 with
      | none => rw [hst] at h; simp [insS, hy] at h
      | some y =>
        obtain ⟨t, r⟩ := y
        have hty : insS st = some (t, r) := by rw [hst]; exact hy
        rw [hty] at h
        injection h with h
        have h : r = l := h
        subst h
        have hxt := hx t r hty
        subst hxt
        rw [hrest, show m0 - xs.length = (m0 - (xs.length + 1)) + 1 by omega, Em.rdMany, hy]
        simp only [List.length_append, List.length_singleton]
        cases Em.rdMany Em.rdI (m0 - (xs.length + 1)) r with
        | none => rfl
        | some q =>
          obtain ⟨us, r2⟩ := q
          simp
end
/-- Where the loop over the functions stands. -/
structure RdF (tt : Nat) (w W5 W : World) (p b5 : Nat) (d : Int) (vs : Value) (ss : List (List UInt8)) (m0 : Nat) (s0 : Option (List UInt8)) (st : Option (List UInt8)) (v : Value) (us : List Value) (fs : List (List (Int × Int))) : Prop where
  row : RowF W5 W v us fs
  strs : W.ownsRow 0 9 1 vs ss.length (ss.map sv) ∧ ∀ k, vs.ownBlock = some k → b5 < k ∧ k < W5.heap.size
  blk : W.heap[b5]? = some (.cells #[.int .i64 d, v, vs] 36)
  zero : W.heap[w.heap.size]? = some (.cells #[.int .i64 0, .slice none 0 0, .slice none 0 0] 36)
  keep : Keep w W
  size : W5.heap.size ≤ W.heap.size
  stt : StC tt w W p st
  no : st = none → s0.bind (Em.rdMany Em.rdF m0) = none
  yes : ∀ l, st = some l → s0.bind (Em.rdMany Em.rdF m0) = (match Em.rdMany Em.rdF (m0 - fs.length) l with | none => none | some (us, r) => some (fs ++ us, r))
/-- A function that comes next, if the reader is well. -/
def funS (st : Option (List UInt8)) : Option (List (Int × Int) × List UInt8) := st.bind Em.rdF
theorem fun_parts (st : Option (List UInt8)) : funS st = (cntS 4000 st).bind fun y => Em.rdMany Em.rdI y.1 y.2 := by
  cases st with
  | none => rfl
  | some l =>
    show Em.rdF l = (Em.rdC 4000 l).bind _
    unfold Em.rdF
    cases Em.rdC 4000 l with
    | none => rfl
    | some y => rfl
section
variable {tt : Nat} {w W5 wr W W6 w' : World} {p b5 : Nat} {d : Int} {vs : Value} {ss : List (List UInt8)} {m0 : Nat} {s0 st st' : Option (List UInt8)} {v v' u : Value} {us : List Value} {fs : List (List (Int × Int))} {f : List (Int × Int)}
/-- One function more: its row was read between wr and W, and appended. -/
theorem RdF.push (hI : RdF tt w W5 wr p b5 d vs ss m0 s0 st v us fs) (hwp : w.heap.size < p) (hp : p < b5) (h5 : b5 < W5.heap.size) (hjK : fs.length < m0)
    (F : Frm (· = p) wr W) (k6 : Keep W W6) (hu : W.ownsRow wr.heap.size 91 2 u f.length (f.map encI).flatten) (hwf : ∀ x ∈ f, In64 x.1 ∧ In64 x.2) (hS : StC tt w W p st')
    (hno : st' = none → funS st = none) (hyes : ∀ l, st' = some l → funS st = some (f, l))
    (ha : App W6 W5.heap.size 89 1 v (us.length + 1) (us ++ [u]) v' w') :
    w'.heap[b5]? = some (.cells #[.int .i64 d, v, vs] 36) ∧ RdF tt w W5 (w'.setCell ⟨b5, 1, none⟩ v') p b5 d vs ss m0 s0 st' v' (us ++ [u]) (fs ++ [f]) := by
  have hsz : W5.heap.size ≤ wr.heap.size := hI.size
  have hown : ∀ k, v.ownBlock = some k → W5.heap.size ≤ k ∧ k < wr.heap.size := World.ownsRow.lt hI.row.own
  have hul : ∀ k, u.ownBlock = some k → wr.heap.size ≤ k ∧ k < W.heap.size := World.ownsRow.lt hu
  have F6 : Frm (· = p) wr W6 := F.tr (k6.frm _)
  have Fa : Frm (fun k => v.ownBlock = some k) W6 w' := Frm.of_grown ha.2.1 fun _ e => e
  have FS : Frm (· = b5) w' (w'.setCell ⟨b5, 1, none⟩ v') := Frm.st (S := (· = b5)) (p := ⟨b5, 1, none⟩) (Frm.rf _ w') (.inl rfl) _
  have hs1 := F6.size
  have hs2 := Fa.size
  have hs3 := k6.size
  have hblk : w'.heap[b5]? = some (.cells #[.int .i64 d, v, vs] 36) := Fa.heap (fun e => by have := hown _ e; omega) (F6.heap (fun e => by have e : b5 = p := e; omega) hI.blk)
  have hR6 : RowF W5 W6 v us fs := hI.row.frm F6 fun i e => .inl (by have e : i = p := e; omega)
  have hiu : InsRow (fun k => wr.heap.size ≤ k ∧ k < W.heap.size) W6 u f := InsRow.frm (w := W) ⟨hul, sl_of_ins hu rfl hwf⟩ (k6.frm fun _ => False) fun _ _ h => h
  have hps := hR6.push hiu (fun k hk => ⟨by omega, by omega, fun e => by have := hown _ e; omega⟩) ha
  have hps2 : RowF W5 (w'.setCell ⟨b5, 1, none⟩ v') v' (us ++ [u]) (fs ++ [f]) := hps.frm FS fun i e => .inl (by have e : i = b5 := e; omega)
  refine ⟨hblk, hps2, ⟨?_, hI.strs.2⟩, heap_setT (j := 1) hblk v', FS.heap (fun e => by have e : w.heap.size = b5 := e; omega) (Fa.heap (fun e => by have := hown _ e; omega) (F6.heap (fun e => by have e : w.heap.size = p := e; omega) hI.zero)),
    Frm.keep (Frm.keep (Frm.keep hI.keep F6 fun i e => by have e : i = p := e; omega) Fa fun i e => by have := hown _ e; omega) FS fun i e => by have e : i = b5 := e; omega, by rw [size_set]; omega,
    ((hS.keep k6).frm Fa fun e => by have := hown _ e; omega).frm FS fun e => by have e : p = b5 := e; omega, fun h => ?_, fun l h => ?_⟩
  · refine FS.own (Fa.own (F6.own hI.strs.1 fun q hq e => ?_) fun q hq e => ?_) fun q hq e => ?_
    · have := hI.strs.2 q hq
      have e : q = p := e
      omega
    · have := hI.strs.2 q hq
      have := hown _ e
      omega
    · have := hI.strs.2 q hq
      have e : q = b5 := e
      omega
  · cases hst : st with
    | none => exact hI.no hst
    | some l =>
      have hrest := hI.yes l hst
      rw [hrest, show m0 - fs.length = (m0 - (fs.length + 1)) + 1 by omega, Em.rdMany]
      have := hno h
      rw [hst] at this
      have : Em.rdF l = none := this
      rw [this]
  · cases hst : st with
    | none => have := hyes l h; rw [hst] at this; cases this
    | some l1 =>
      have hrest := hI.yes l1 hst
      have hy := hyes l h
      rw [hst] at hy
      have hy : Em.rdF l1 = some (f, l) := hy
      rw [hrest, show m0 - fs.length = (m0 - (fs.length + 1)) + 1 by omega, Em.rdMany, hy]
      simp only [List.length_append, List.length_singleton]
      cases Em.rdMany Em.rdF (m0 - (fs.length + 1)) l with
      | none => rfl
      | some q =>
        obtain ⟨us, r2⟩ := q
        simp
end
theorem cnt_many {α : Type} (g : List UInt8 → Option (α × List UInt8)) (most : Nat) (st : Option (List UInt8)) : ((cntS most st).map fun x => x.2).bind (Em.rdMany g (cntV most st)) = (cntS most st).bind fun y => Em.rdMany g y.1 y.2 := by
  unfold cntV
  cases cntS most st with
  | none => rfl
  | some y => rfl
theorem cntV_le (most : Nat) (st : Option (List UInt8)) : cntV most st ≤ most := by
  unfold cntV
  cases h : cntS most st with
  | none => simp
  | some y =>
    obtain ⟨v, r⟩ := y
    cases st with
    | none => cases h
    | some l => exact (rdC_put (show Em.rdC most l = some (v, r) from h)).2
theorem tak_tex (st : Option (List UInt8)) : takS (cntV 2000 st) ((cntS 2000 st).map fun x => x.2) = texS st := by
  have htx : texS st = (cntS 2000 st).bind fun y => if y.2.length < y.1 then none else some (y.2.take y.1, y.2.drop y.1) := by
    cases st with
    | none => rfl
    | some l =>
      show Em.rdTx l = (Em.rdC 2000 l).bind _
      unfold Em.rdTx
      cases Em.rdC 2000 l with
      | none => rfl
      | some y => rfl
  rw [htx]
  unfold cntV takS
  cases cntS 2000 st with
  | none => rfl
  | some y => rfl
/-- All of it, from how the reader stood. -/
theorem rdP_chain (l : List UInt8) (ss : List (List UInt8)) (fs : List (List (Int × Int))) (st2 st3 st4 st5 : Option (List UInt8)) (n0 m0 d : Nat) (hd : d = cntV 4 (some l)) (hn0 : n0 = cntV 2000 ((cntS 4 (some l)).map fun x => x.2)) (h2 : st2 = (cntS 2000 ((cntS 4 (some l)).map fun x => x.2)).map fun x => x.2)
    (h3n : st3 = none → st2.bind (Em.rdMany Em.rdTx n0) = none) (h3y : ∀ x, st3 = some x → st2.bind (Em.rdMany Em.rdTx n0) = some (ss, x)) (hm0 : m0 = cntV 200 st3) (h4 : st4 = (cntS 200 st3).map fun x => x.2)
    (h5n : st5 = none → st4.bind (Em.rdMany Em.rdF m0) = none) (h5y : ∀ x, st5 = some x → st4.bind (Em.rdMany Em.rdF m0) = some (fs, x)) :
    (st5 = none → Em.rdP l = none) ∧ ∀ r, st5 = some r → Em.rdP l = some (⟨(d : Int), fs, ss⟩, r) := by
  subst hd hn0 h2 hm0 h4
  rw [cnt_many] at h3n h3y h5n h5y
  have hP : Em.rdP l = (cntS 4 (some l)).bind fun y => ((cntS 2000 (some y.2)).bind fun z => Em.rdMany Em.rdTx z.1 z.2).bind fun u => ((cntS 200 (some u.2)).bind fun z => Em.rdMany Em.rdF z.1 z.2).bind fun t => some (⟨(y.1 : Int), t.1, u.1⟩, t.2) := by
    show Em.rdP l = (Em.rdC 4 l).bind _
    unfold Em.rdP
    cases Em.rdC 4 l with
    | none => rfl
    | some y =>
      show _ = (((Em.rdC 2000 y.2).bind _).bind _)
      cases h1 : Em.rdC 2000 y.2 with
      | none => simp [h1]
      | some z =>
        simp only [h1, Option.bind_some]
        cases h2 : Em.rdMany Em.rdTx z.1 z.2 with
        | none => simp
        | some u =>
          simp only [Option.bind_some]
          show _ = (((Em.rdC 200 u.2).bind _).bind _)
          cases h3 : Em.rdC 200 u.2 with
          | none => simp [h3]
          | some a =>
            simp only [h3, Option.bind_some]
            cases h4 : Em.rdMany Em.rdF a.1 a.2 with
            | none => simp
            | some t => simp
  cases h1 : cntS 4 (some l) with
  | none =>
    rw [h1] at hP h3n h3y
    refine ⟨fun _ => hP, fun r e => ?_⟩
    cases h3 : st3 with
    | none => subst h3; have := h5y r e; cases this
    | some x => have := h3y x h3; cases this
  | some y =>
    have hd : cntV 4 (some l) = y.1 := by rw [cntV, h1]; rfl
    rw [h1] at hP h3n h3y
    simp only [Option.map_some] at h3n h3y
    rw [hd]
    simp only [Option.bind_some] at hP
    cases h3 : st3 with
    | none =>
      rw [h3n h3] at hP
      refine ⟨fun _ => hP, fun r e => ?_⟩
      subst h3
      have := h5y r e
      cases this
    | some x =>
      subst h3
      rw [h3y x rfl] at hP
      simp only [Option.bind_some] at hP
      refine ⟨fun e => ?_, fun r e => ?_⟩
      · rw [hP, h5n e]
        rfl
      · rw [hP, h5y r e]
        rfl
end Go.Proofs.Ytcbkklfdeloeeaa
