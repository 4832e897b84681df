/- Walks: one Net that is the call's own; the law's own check. -/
import Derived.Test.YtjhndioapcneoaaNetS
import Derived.Test.YtjhndioapcneoaaLibS
import Derived.Lib.SlBytesConst
namespace Go.Proofs.Ytjhndioapcneoaa
open Go.RowKit
set_option linter.unusedVariables false
set_option maxRecDepth 100000
/-- A Net of the call's own, in W; w0 is where the call began. -/
def SP (w0 W : World) (p : Nat) (R : Em.Nt) : Prop := ∃ S, NetP W p S R ∧ (∀ k, S k → w0.heap.size ≤ k) ∧ Keep w0 W
theorem SP.k {w0 W : World} {p : Nat} {R : Em.Nt} (h : SP w0 W p R) : Keep w0 W := by
  obtain ⟨S, _, _, h⟩ := h
  exact h
theorem SP.keep {w0 W W' : World} {p : Nat} {R : Em.Nt} (h : SP w0 W p R) (k : Keep W W') : SP w0 W' p R := by
  obtain ⟨S, h1, h2, h3⟩ := h
  exact ⟨S, h1.keep k, h2, Keep.tr h3 k⟩
theorem SP.of {w0 W W' : World} {p : Nat} {S : Nat → Prop} {R' : Em.Nt} (h2 : ∀ k, S k → w0.heap.size ≤ k) (h3 : Keep w0 W) (a : AftP W p S R' W') : SP w0 W' p R' :=
  ⟨Grow S W W', a.1, fun k hk => by
    rcases hk with hk | hk
    · exact h2 k hk
    · exact Nat.le_trans h3.size hk.1, Frm.keep h3 a.2 h2⟩
theorem spNew (w0 W : World) (k : Keep w0 W) : Calls Try.prog 15 #[] W fun e w' => ∃ p, e = .returned (.pointer (some ⟨p, 0, none⟩)) ∧ SP w0 w' p (fun _ => []) := by
  refine (netNew W).mono ?_
  rintro e w' ⟨p, S, rfl, h1, h2, h3⟩
  exact ⟨p, rfl, S, h1, fun q hq => Nat.le_trans k.size (h2 q hq), Keep.tr k h3⟩
section
variable {w0 W : World} {p : Nat} {R : Em.Nt}
theorem spSend (h : SP w0 W p R) (way : Int) (v : Value) (m : List UInt8) (hv : Bs W v m) (hm : m.length ≤ 1000000) : Calls Try.prog 16 #[.pointer (some ⟨p, 0, none⟩), .int .i64 way, v] W fun e w' => e = .returned (.bool (R.room way)) ∧ SP w0 w' p (R.send way m) := by
  obtain ⟨S, h1, h2, h3⟩ := h
  exact (netSend W h1 way v m hv hm).mono fun e w' ⟨e1, a⟩ => ⟨e1, SP.of h2 h3 a⟩
theorem spTake (h : SP w0 W p R) (way i : Int) : Calls Try.prog 17 #[.pointer (some ⟨p, 0, none⟩), .int .i64 way, .int .i64 i] W fun e w' => ∃ A n c, e = .returned (.tuple #[.slice A n c, .bool (R.has way i)]) ∧ Bs w' (.slice A n c) (R.got way i) ∧ SP w0 w' p (R.take way i) := by
  obtain ⟨S, h1, h2, h3⟩ := h
  exact (netTake W h1 way i).mono fun e w' ⟨A, n, c, e1, e2, e3, a⟩ => ⟨A, n, c, e1, e2, SP.of h2 h3 a⟩
theorem spDrop (h : SP w0 W p R) (way i : Int) : Calls Try.prog 21 #[.pointer (some ⟨p, 0, none⟩), .int .i64 way, .int .i64 i] W fun e w' => e = .returned (.bool (R.has way i)) ∧ SP w0 w' p (R.take way i) := by
  obtain ⟨S, h1, h2, h3⟩ := h
  exact (netDrop W h1 way i).mono fun e w' ⟨e1, a⟩ => ⟨e1, SP.of h2 h3 a⟩
theorem spTwice (h : SP w0 W p R) (way i : Int) (hsm : ∀ j, ∀ m ∈ R j, m.1.length ≤ 1000000) : Calls Try.prog 19 #[.pointer (some ⟨p, 0, none⟩), .int .i64 way, .int .i64 i] W fun e w' => e = .returned (.bool (R.has way i && R.room way)) ∧ SP w0 w' p (R.twice way i) := by
  obtain ⟨S, h1, h2, h3⟩ := h
  exact (netTwice W h1 way i hsm).mono fun e w' ⟨e1, a⟩ => ⟨e1, SP.of h2 h3 a⟩
theorem spSpoil (h : SP w0 W p R) (way i a : Int) (ha : (Lit.int .i64 a).wf = true) (b : UInt8) (hsm : ∀ j, ∀ m ∈ R j, m.1.length ≤ 1000000) : Calls Try.prog 25 #[.pointer (some ⟨p, 0, none⟩), .int .i64 way, .int .i64 i, .int .i64 a, .int .u8 (b.toNat : Int)] W fun e w' => e = .returned (.bool (R.spoils way i)) ∧ SP w0 w' p (R.spoil way i a b) := by
  obtain ⟨S, h1, h2, h3⟩ := h
  exact (netSpoil W h1 way i a ha b hsm).mono fun e w' ⟨e1, a⟩ => ⟨e1, SP.of h2 h3 a⟩
theorem spLen (h : SP w0 W p R) (way : Int) : Calls Try.prog 20 #[.pointer (some ⟨p, 0, none⟩), .int .i64 way] W fun e w' => e = .returned (.int .i64 (R.len way : Int)) ∧ W = w' := by
  obtain ⟨S, h1, h2, h3⟩ := h
  exact netLen W h1 way
end
set_option maxHeartbeats 2000000 in
theorem netKnown (w : World) : Calls Try.prog 18 #[] w fun e w' => e = .returned (.bool true) ∧ Keep w w' := by
  have hcv := fun W C n c => Lib.run_convert_bytes_const (P := Try.prog) W 25 5 C n c Try.underlying25 Try.underlying5
  go_enter Try.func18, Try.ntmps18
  go_wp2_with fail
  refine (spNew w _ (by repeat (first | exact Keep.rf _ | assumption | apply Keep.al | apply Keep.dr | apply Keep.dn))).mono ?_
  rintro e w1 ⟨p, rfl, s1⟩
  go_wp2_with fail
  refine (spSend (s1.keep (by repeat (first | exact Keep.rf _ | assumption | apply Keep.al | apply Keep.dr | apply Keep.dn))) 0 _ [97] (Bs.lit (k := 1) (m := 1) [97] rfl rfl rfl (by simp) (by simp)) (by simp)).mono ?_
  rintro e w2 ⟨rfl, s2⟩
  simp only [show Em.Nt.room (fun _ => []) 0 = true from rfl]
  go_wp2_with fail
  refine (spSend (s2.keep (by repeat (first | exact Keep.rf _ | assumption | apply Keep.al | apply Keep.dr | apply Keep.dn))) 0 _ [98] (Bs.lit (k := 1) (m := 1) [98] rfl rfl rfl (by simp) (by simp)) (by simp)).mono ?_
  rintro e w3 ⟨rfl, s3⟩
  simp only [show Em.Nt.room (Em.Nt.send (fun _ => []) 0 [97]) 0 = true from rfl]
  go_wp2_with fail
  refine (spTake s3 0 0).mono ?_
  rintro e w4 ⟨A, n, c, rfl, hb, s4⟩
  rw [show Em.Nt.got (Em.Nt.send (Em.Nt.send (fun _ => []) 0 [97]) 0 [98]) 0 0 = [97] from rfl] at hb
  simp only [show Em.Nt.has (Em.Nt.send (Em.Nt.send (fun _ => []) 0 [97]) 0 [98]) 0 0 = true from rfl]
  have hc := run_conv_bs (P := Try.prog) hb 25 5 9 Try.underlying25 Try.underlying5 Try.underlying9
  have hstr : (str [97]).toList = [97] := str_list _
  go_wp2_with fail
  refine (spLen s4 0).mono ?_
  rintro e w' ⟨rfl, rfl⟩
  simp only [show Em.Nt.len (Em.Nt.take (Em.Nt.send (Em.Nt.send (fun _ => []) 0 [97]) 0 [98]) 0 0) 0 = 1 from rfl]
  go_wp2_with fail
  refine (spLen s4 1).mono ?_
  rintro e w' ⟨rfl, rfl⟩
  simp only [show Em.Nt.len (Em.Nt.take (Em.Nt.send (Em.Nt.send (fun _ => []) 0 [97]) 0 [98]) 0 0) 1 = 0 from rfl]
  go_wp2_with fail
  go_ret
  exact ⟨rfl, s4.k⟩
/-! ### plain -/
theorem up_up {α : Type} (f : Nat → α) (j : Nat) (x y : α) : up (up f j x) j y = up f j y := by
  funext i
  unfold up
  split <;> rfl
def Small (R : Em.Nt) : Prop := ∀ j, ∀ m ∈ R j, m.1.length ≤ 1000000
theorem Small.put {R : Em.Nt} (h : Small R) (w : Int) {l : List Em.Msg} (hl : ∀ m ∈ l, m.1.length ≤ 1000000) : Small (R.put w l) := by
  intro j m hm
  by_cases e : j = w.toNat
  · subst e
    rw [Em.Nt.put, up_at] at hm
    exact hl m hm
  · rw [Em.Nt.put, up_ne _ _ _ e] at hm
    exact h j m hm
theorem Small.send {R : Em.Nt} (h : Small R) (w : Int) (b : List UInt8) (hb : b.length ≤ 1000000) : Small (R.send w b) := by
  unfold Em.Nt.send
  split
  · refine h.put w fun m hm => ?_
    rcases List.mem_append.1 hm with hm | hm
    · exact h _ m hm
    · rw [List.mem_singleton.1 hm]
      exact hb
  · exact h
theorem Small.take {R : Em.Nt} (h : Small R) (w i : Int) : Small (R.take w i) := by
  unfold Em.Nt.take
  split
  · exact h.put w fun m hm => h _ m (List.mem_of_mem_eraseIdx hm)
  · exact h
theorem Small.at {R : Em.Nt} (h : Small R) (w i : Int) : (R.at w i).1.length ≤ 1000000 := by
  unfold Em.Nt.at
  rw [List.getD_eq_getElem?_getD]
  cases e : (R.row w)[i.toNat]? with
  | none => simp
  | some m => exact h _ m (List.mem_of_getElem? e)
theorem Small.twice {R : Em.Nt} (h : Small R) (w i : Int) : Small (R.twice w i) := by
  unfold Em.Nt.twice
  split
  · refine h.put w fun m hm => ?_
    rcases List.mem_append.1 hm with hm | hm
    · exact h _ m hm
    · rw [List.mem_singleton.1 hm]
      exact h.at w i
  · exact h
theorem Small.spoil {R : Em.Nt} (h : Small R) (w i a : Int) (b : UInt8) : Small (R.spoil w i a b) := by
  unfold Em.Nt.spoil
  split
  · refine h.put w fun m hm => ?_
    rcases List.mem_or_eq_of_mem_set hm with hm | rfl
    · exact h _ m hm
    · simp only [Em.turn, List.length_set]
      exact h.at w i
  · exact h
theorem small_nil : Small (fun _ => []) := fun j m hm => by simp at hm
def msgK (k : Nat) : Em.Msg := ([UInt8.ofNat k], false)
/-- The messages l are on their way. -/
def RO (w : Int) (l : List Nat) : Em.Nt := Em.Nt.put (fun _ => []) w (l.map msgK)
theorem RO_row (w : Int) (l : List Nat) : (RO w l).row w = l.map msgK := by
  unfold RO Em.Nt.put Em.Nt.row
  rw [up_at]
theorem RO_put (w : Int) (l l' : List Nat) : (RO w l).put w (l'.map msgK) = RO w l' := up_up _ _ _ _
theorem RO_room (w : Int) (hw : w = 0 ∨ w = 1) (l : List Nat) : (RO w l).room w = decide (l.length < 64) := by
  unfold Em.Nt.room
  rw [RO_row, List.length_map, decide_eq_decide]
  exact ⟨fun h => h.2, fun h => ⟨hw, h⟩⟩
theorem RO_send (w : Int) (hw : w = 0 ∨ w = 1) (l : List Nat) (k : Nat) (h : l.length < 64) : (RO w l).send w [UInt8.ofNat k] = RO w (l ++ [k]) := by
  unfold Em.Nt.send
  rw [RO_room w hw, decide_eq_true h, if_pos rfl, RO_row, ← RO_put w l (l ++ [k]), List.map_append]
  rfl
theorem RO_has (w : Int) (hw : w = 0 ∨ w = 1) (l : List Nat) (i : Nat) : (RO w l).has w i = decide (i < l.length) := by
  unfold Em.Nt.has
  rw [RO_row, List.length_map, decide_eq_decide]
  exact ⟨fun h => Int.ofNat_lt.1 h.2.2, fun h => ⟨hw, Int.natCast_nonneg i, Int.ofNat_lt.2 h⟩⟩
theorem RO_take (w : Int) (hw : w = 0 ∨ w = 1) (l : List Nat) (i : Nat) (h : i < l.length) : (RO w l).take w i = RO w (l.eraseIdx i) := by
  unfold Em.Nt.take
  rw [RO_has w hw, decide_eq_true h, if_pos rfl, RO_row, ← RO_put w l (l.eraseIdx i), Int.toNat_natCast]
  congr 1
  apply List.ext_getElem?
  intro q
  simp only [List.getElem?_map, List.getElem?_eraseIdx]
  split <;> rfl
theorem RO_got (w : Int) (hw : w = 0 ∨ w = 1) (l : List Nat) (i : Nat) (h : i < l.length) : (RO w l).got w i = [UInt8.ofNat l[i]] := by
  unfold Em.Nt.got
  rw [RO_has w hw, decide_eq_true h, if_pos rfl, Em.Nt.at, RO_row, Int.toNat_natCast, List.getD_eq_getElem?_getD, List.getElem?_map, List.getElem?_eq_getElem h]
  rfl
theorem RO_nil (w : Int) : RO w [] = fun _ => [] := by
  funext j
  unfold RO Em.Nt.put up
  split <;> rfl
theorem u8k (k : Nat) (h : k < 256) : Value.int .u8 (k : Int) = bv (UInt8.ofNat k) := by
  unfold bv
  rw [UInt8.toNat_ofNat', Nat.mod_eq_of_lt h]
theorem erase_range (s m j : Nat) (h : j < m) : (List.range' s m).eraseIdx j = (List.range' s m).filter (· != s + j) := by
  induction m generalizing s j with
  | zero => omega
  | succ m ih =>
    rw [List.range'_succ]
    cases j with
    | zero =>
      rw [List.eraseIdx_zero, List.tail_cons, List.filter_cons_of_neg (by simp), eq_comm, List.filter_eq_self]
      intro x hx
      have := (List.mem_range'_1.1 hx).1
      simp
      omega
    | succ j =>
      rw [List.eraseIdx_cons_succ, List.filter_cons_of_pos (by simp), ih (s + 1) j (by omega), show s + 1 + j = s + (j + 1) by omega]
/-- One byte, as it is read. -/
theorem Bs.one {w : World} {A : Option Addr} {n c : Nat} {x : UInt8} (h : Bs w (.slice A n c) [x]) : ∃ ad, A = some ad ∧ n = 1 ∧ w.cell? (ad.add 0) = some (bv x) ∧ w.cell? ad = some (bv x) := by
  obtain ⟨A', c', e, h1, h2, h3⟩ := h
  injection e with e1 e2 e3
  subst e1 e2 e3
  obtain ⟨ad, rfl, hc⟩ := h3 (by simp)
  have := hc 0 (by simp)
  exact ⟨ad, rfl, rfl, this, by simpa [Addr.add] using this⟩
end Go.Proofs.Ytjhndioapcneoaa
