/- What PickKnown asks: answers by hand, types and words in rows. -/
import Derived.Test.YtoehaijmkmdggaaPkK
namespace Go.Proofs.Ytoehaijmkmdggaa
open Go.RowKit
open Em (Ty)
set_option linter.unusedVariables false
set_option linter.unusedSimpArgs false
set_option maxRecDepth 100000
abbrev tyIk : Ty := .mk Em.wInt 0 []
abbrev tySk : Ty := .mk Em.wString 0 []
abbrev tyCk : Ty := .mk Em.wCell 0 []
def pkH0 : Em.Hp := [(1, [195]), (4, [-1]), (2, [3, 1]), (5, [11, 20]), (2, [14, 1])]
def pkF : List (List Int) := [[0, 0], [4, 4], [8, 8], [3, 1], [20, 14]]
def pkT : List Ty := [.mk Em.wPair 0 [tySk, tySk], .mk Em.wPair 0 [.mk Em.wRef 0 [tyIk], .mk Em.wRef 0 [tyIk]], .mk Em.wPair 0 [.mk Em.wList 0 [tyIk], .mk Em.wList 0 [tyIk]], .mk Em.wPair 0 [.mk Em.wBool 0 [], .mk Em.wUnit 0 []], .mk Em.wPair 0 [.mk Em.wList 0 [tyCk], tyCk]]
def pkB : List (List UInt8) := [[0, 0, 1, 97, 2], [0, 0, 1, 2], [0, 1, 2, 0, 3], [0, 1], [0, 1, 0, 10, 3, 0, 3]]
theorem pk_all : (pkF.zip (pkT.zip pkB)).all (fun y => Em.bytesK (pkH0 ++ [(3, y.1)]) 26 y.2.1 == (y.2.2, 0)) = true := by kernel_rfl
theorem pk_at (i : Nat) (hb : i < pkF.length) (ht : i < pkT.length) (hk : i < pkB.length) : Em.bytesK (pkH0 ++ [(3, pkF[i])]) 26 pkT[i] = (pkB[i], 0) := by
  have h := List.all_eq_true.1 pk_all (pkF[i], pkT[i], pkB[i]) (by
    rw [List.mem_iff_getElem]
    exact ⟨i, by simp [pkF, pkT, pkB] at *; omega, by simp [List.getElem_zip]; exact ⟨rfl, rfl⟩⟩)
  simpa using h
theorem pk_alloc : ∀ f ∈ pkF, Em.alloc 99 pkH0 3 f = some (26, pkH0 ++ [(3, f)]) := by
  intro f hf
  simp only [pkF, List.mem_cons, List.not_mem_nil, or_false] at hf
  rcases hf with rfl | rfl | rfl | rfl | rfl <;> kernel_rfl
theorem pk_fs : ∀ f ∈ pkF, f.length = 2 ∧ ∀ x ∈ f, (Lit.int .i64 x).wf = true := by decide
/-- A heap of the call's own, of 99 words. -/
def KH (w W : World) (p : Nat) (S : List Nat) (H : Em.Hp) : Prop := HRep W p S 99 H ∧ (∀ i ∈ S, w.heap.size ≤ i) ∧ Keep w W
theorem KH.keep {w W W' : World} {p : Nat} {S : List Nat} {H : Em.Hp} (h : KH w W p S H) (k : Keep W W') : KH w W' p S H := ⟨h.1.keep k, h.2.1, Keep.tr h.2.2 k⟩
theorem KH.alloc {w W : World} {p : Nat} {S : List Nat} {H : Em.Hp} (h : KH w W p S H) (tag : Int) (fs : List Int) (n : Int) (H' : Em.Hp) (v : Value) (hv : Is W v fs) (ht : (Lit.int .i64 tag).wf = true) (hfs : ∀ f ∈ fs, (Lit.int .i64 f).wf = true) (hl : fs.length ≤ 1000000) (ha : Em.alloc 99 H tag fs = some (n, H')) :
    Calls Try.prog 32 #[.pointer (some ⟨p, 0, none⟩), .int .i64 tag, v] W fun e w' => e = .returned (.tuple #[.int .i64 n, .bool true]) ∧ (∃ S', KH w w' p S' H') ∧ Frm (· ∈ S) W w' := by
  obtain ⟨hR, hS, k⟩ := h
  refine (heapAlloc W hR tag ht v fs hv hfs hl).mono ?_
  intro e w' h
  unfold AllocH at h
  rw [ha] at h
  obtain ⟨rfl, S', hR', F, hn⟩ := h
  refine ⟨rfl, ⟨S', hR', fun i hi => ?_, Frm.keep k F fun i hi => hS i hi⟩, F⟩
  rcases hn i hi with h | h
  · exact hS i h
  · exact Nat.le_trans (Below.size k) h
theorem KH.set {w W : World} {p : Nat} {S : List Nat} {H : Em.Hp} (h : KH w W p S H) (n k v : Int) (H' : Em.Hp) (hn : (Lit.int .i64 n).wf = true) (hv : (Lit.int .i64 v).wf = true) (ha : Em.put H n k v = some H') :
    Calls Try.prog 33 #[.pointer (some ⟨p, 0, none⟩), .int .i64 n, .int .i64 k, .int .i64 v] W fun e w' => e = .returned (.bool true) ∧ KH w w' p S H' ∧ Frm (· ∈ S) W w' := by
  obtain ⟨hR, hS, k9⟩ := h
  refine (heapSet W hR n hn k v hv).mono ?_
  intro e w' h
  unfold SetH at h
  rw [ha] at h
  obtain ⟨rfl, hR', F⟩ := h
  exact ⟨rfl, ⟨hR', hS, Frm.keep k9 F fun i hi => hS i hi⟩, F⟩
/-- A block that is new stays, whatever changes in the blocks S, all of them older. -/
theorem new_stays {S : List Nat} {Wx W W9 W' : World} {o : Obj} (hl : ∀ k ∈ S, k < Wx.heap.size) (kx : Keep Wx W) (k9 : Keep (W.alloc o) W9) (f : Frm (· ∈ S) W9 W') : W'.heap[W.heap.size]? = some o := by
  refine f.heap (fun h => ?_) ((k9.frm fun _ => False).heap (fun h => h) (heap_alloc_new W o))
  have := hl _ h
  have := Below.size kx
  omega
/-- Types in a row, a type: whatever changes in the blocks S. -/
def SlS (S : List Nat) (d : Nat) (W : World) (v : Value) (ts : List Ty) : Prop := ∃ A c, v = .slice A ts.length c ∧ ∀ W', Frm (· ∈ S) W W' → Sl 3 (TyK d) W' (.slice A ts.length c) ts
def TyS (S : List Nat) (d : Nat) (W : World) (v : Value) (t : Ty) : Prop := ∃ A c, v = .agg #[.string (str t.op), .int .i64 t.n, .slice A t.kids.length c] ∧ ∀ W', Frm (· ∈ S) W W' → TyK d W' [.string (str t.op), .int .i64 t.n, .slice A t.kids.length c] t
theorem tyk_leafS (d : Nat) (W : World) (o : List UInt8) : TyK (d + 1) W [.string (str o), .int .i64 0, .slice none 0 0] (.mk o 0 []) := ⟨_, rfl, (by decide : (Lit.int .i64 0).wf = true), Sl.nil W⟩
theorem TyS.mk {S : List Nat} {d : Nat} {W : World} {o : List UInt8} {A : Option Addr} {c : Nat} {ts : List Ty} (h : ∀ W', Frm (· ∈ S) W W' → Sl 3 (TyK d) W' (.slice A ts.length c) ts) : TyS S (d + 1) W (.agg #[.string (str o), .int .i64 0, .slice A ts.length c]) (.mk o 0 ts) := ⟨A, c, rfl, fun W' f => ⟨_, rfl, (by decide : (Lit.int .i64 0).wf = true), h W' f⟩⟩
theorem slS_one {S : List Nat} {d : Nat} {Wx W W9 : World} {a0 a1 a2 : Value} {ty : TypeId} {x : Ty} (hl : ∀ k ∈ S, k < Wx.heap.size) (kx : Keep Wx W) (k9 : Keep (W.alloc (.cells #[a0, a1, a2] ty)) W9) (hx : ∀ W', Frm (· ∈ S) W W' → TyK d W' [a0, a1, a2] x) : SlS S d W9 (.slice (some ⟨W.heap.size, 0, none⟩) 1 1) [x] :=
  ⟨_, _, rfl, fun W' f => sl_one3 (new_stays hl kx k9 f) (hx W' (((Keep.tr ((Keep.rf W).al _) k9).frm _).tr f))⟩
theorem slS_two {S : List Nat} {d : Nat} {Wx W W9 : World} {a0 a1 a2 b0 b1 b2 : Value} {ty : TypeId} {x y : Ty} (hl : ∀ k ∈ S, k < Wx.heap.size) (kx : Keep Wx W) (k9 : Keep (W.alloc (.cells #[a0, a1, a2, b0, b1, b2] ty)) W9) (hx : ∀ W', Frm (· ∈ S) W W' → TyK d W' [a0, a1, a2] x) (hy : ∀ W', Frm (· ∈ S) W W' → TyK d W' [b0, b1, b2] y) : SlS S d W9 (.slice (some ⟨W.heap.size, 0, none⟩) 2 2) [x, y] :=
  ⟨_, _, rfl, fun W' f => sl_two3 (new_stays hl kx k9 f) (hx W' (((Keep.tr ((Keep.rf W).al _) k9).frm _).tr f)) (hy W' (((Keep.tr ((Keep.rf W).al _) k9).frm _).tr f))⟩
/-- A row of structs in a block. -/
theorem sl_cellsK {α : Type} {K : World → List Value → α → Prop} {w : World} {t : TypeId} {sz g m : Nat} {cs : Array Value} (ys : List (α × List Value)) (xs : List α) (hx : xs = ys.map (·.1)) (h : w.heap[g]? = some (.cells cs t)) (hcs : cs = ((ys.map (·.2)).flatten).toArray) (hm : m = xs.length) (hz : ∀ y ∈ ys, y.2.length = sz) (hb : m ≤ 1000000)
    (hK : ∀ y ∈ ys, K w y.2 y.1) : Sl sz K w (.slice (some ⟨g, 0, none⟩) m m) xs := by
  subst hm hcs hx
  refine ⟨_, _, rfl, Nat.le_refl _, by omega, fun _ => ⟨_, rfl, fun j hj => ?_⟩⟩
  rw [List.length_map] at hj
  refine ⟨ys[j].2, hz _ (List.getElem_mem _), fun i u hu => ?_, ?_⟩
  · have hi : i < sz := by
      have := (List.getElem?_eq_some_iff.1 hu).1
      rwa [hz _ (List.getElem_mem _)] at this
    rw [add_pl, top_cells h]
    rw [List.getElem?_toArray, flat_get sz _ (fun c hc => by
      obtain ⟨y, hy, rfl⟩ := List.mem_map.1 hc
      exact hz y hy) j i (by simpa using hj) hi, List.getElem_map]
    exact hu
  · rw [List.getElem_map]
    exact hK _ (List.getElem_mem _)
abbrev aggK (o : List UInt8) (v : Value) : List Value := [.string (str o), .int .i64 0, v]
theorem slS_five {S : List Nat} {Wx W W9 : World} {ty : TypeId} {v0 v1 v2 v3 v4 : Value} (hl : ∀ k ∈ S, k < Wx.heap.size) (kx : Keep Wx W) (k9 : Keep (W.alloc (.cells #[.string (str [112, 97, 105, 114]), .int .i64 0, v0, .string (str [112, 97, 105, 114]), .int .i64 0, v1, .string (str [112, 97, 105, 114]), .int .i64 0, v2, .string (str [112, 97, 105, 114]), .int .i64 0, v3, .string (str [112, 97, 105, 114]), .int .i64 0, v4] ty)) W9)
    (h0 : ∀ W', Frm (· ∈ S) W W' → TyK 3 W' (aggK [112, 97, 105, 114] v0) (.mk Em.wPair 0 [tySk, tySk]))
    (h1 : ∀ W', Frm (· ∈ S) W W' → TyK 3 W' (aggK [112, 97, 105, 114] v1) (.mk Em.wPair 0 [.mk Em.wRef 0 [tyIk], .mk Em.wRef 0 [tyIk]]))
    (h2 : ∀ W', Frm (· ∈ S) W W' → TyK 3 W' (aggK [112, 97, 105, 114] v2) (.mk Em.wPair 0 [.mk Em.wList 0 [tyIk], .mk Em.wList 0 [tyIk]]))
    (h3 : ∀ W', Frm (· ∈ S) W W' → TyK 3 W' (aggK [112, 97, 105, 114] v3) (.mk Em.wPair 0 [.mk Em.wBool 0 [], .mk Em.wUnit 0 []]))
    (h4 : ∀ W', Frm (· ∈ S) W W' → TyK 3 W' (aggK [112, 97, 105, 114] v4) (.mk Em.wPair 0 [.mk Em.wList 0 [tyCk], tyCk])) :
    SlS S 3 W9 (.slice (some ⟨W.heap.size, 0, none⟩) 5 5) pkT := by
  refine ⟨_, _, rfl, fun W' f => ?_⟩
  have f' := ((Keep.tr ((Keep.rf W).al _) k9).frm (· ∈ S)).tr f
  refine sl_cellsK [(.mk Em.wPair 0 [tySk, tySk], aggK Em.wPair v0), (.mk Em.wPair 0 [.mk Em.wRef 0 [tyIk], .mk Em.wRef 0 [tyIk]], aggK Em.wPair v1), (.mk Em.wPair 0 [.mk Em.wList 0 [tyIk], .mk Em.wList 0 [tyIk]], aggK Em.wPair v2), (.mk Em.wPair 0 [.mk Em.wBool 0 [], .mk Em.wUnit 0 []], aggK Em.wPair v3), (.mk Em.wPair 0 [.mk Em.wList 0 [tyCk], tyCk], aggK Em.wPair v4)] pkT rfl (new_stays hl kx k9 f) rfl rfl (fun y hy => ?_) (by decide) fun y hy => ?_
  · simp only [List.mem_cons, List.not_mem_nil, or_false] at hy
    rcases hy with rfl | rfl | rfl | rfl | rfl <;> rfl
  · simp only [List.mem_cons, List.not_mem_nil, or_false] at hy
    rcases hy with rfl | rfl | rfl | rfl | rfl
    · exact h0 _ f'
    · exact h1 _ f'
    · exact h2 _ f'
    · exact h3 _ f'
    · exact h4 _ f'
/-- Rows of words in a row. -/
theorem rows5 {W : World} {g : Nat} {ty : TypeId} {v0 v1 v2 v3 v4 : Value} (h : W.heap[g]? = some (.cells #[v0, v1, v2, v3, v4] ty)) (h0 : Is W v0 [0, 0]) (h1 : Is W v1 [4, 4]) (h2 : Is W v2 [8, 8]) (h3 : Is W v3 [3, 1]) (h4 : Is W v4 [20, 14]) (i : Nat) (hi : i < pkF.length) : ∃ v, W.cell? ⟨g, i, none⟩ = some v ∧ Is W v pkF[i] := by
  have hi' : i < 5 := hi
  rcases (show i = 0 ∨ i = 1 ∨ i = 2 ∨ i = 3 ∨ i = 4 by omega) with rfl | rfl | rfl | rfl | rfl
  · exact ⟨v0, top_cells h 0, h0⟩
  · exact ⟨v1, top_cells h 1, h1⟩
  · exact ⟨v2, top_cells h 2, h2⟩
  · exact ⟨v3, top_cells h 3, h3⟩
  · exact ⟨v4, top_cells h 4, h4⟩
end Go.Proofs.Ytoehaijmkmdggaa
