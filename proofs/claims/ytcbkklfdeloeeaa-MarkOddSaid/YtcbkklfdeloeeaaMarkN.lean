/- Walks: the number and the kids of the type that comes next (package mark). -/
import Derived.Test.YtcbkklfdeloeeaaMarkL
import Derived.Test.YtcbkklfdeloeeaaLibSl
import Derived.Laws.ResultCell
namespace Go.Proofs.Ytcbkklfdeloeeaa
open Go.RowKit
open Em (Ty)
set_option linter.unusedVariables false
set_option maxRecDepth 100000
section
variable {P : Program}
/-- A slice of bytes, from there on, which lay there long before. -/
theorem slFrom0 {w w0 : World} {ops : Array Oper} {rest : List Oper} {o : Oper} {a : Act} {Q : Exit → Act → World → Prop} (hgd : o.guard = none) (x lo : Operand) (t e : Nat) (ho : o.op = .slice t x (some lo) none none)
    (ht : P.underlying t = some (.slice e)) (hs : (P.info? e).map (fun i => i.size) = some 1) (v : Value) (L : List UInt8) (hx : a.eval x = v) (hb : Bs w0 v L) (kk : IntKind) (i : Int) (hlo : a.eval lo = .int kk i) (k : Nat) (hi : i = (k : Int)) (m : Nat) (hm : L.length = k + m)
    (K : ∀ A' c', Bs w0 (.slice A' m c') (L.drop k) → m ≤ c' → c' ≤ 9223372036854775807 → wpList P ops Q rest (a.put o.dst (.slice A' m c')) w) : wpList P ops Q (o :: rest) a w := by
  have hb0 := hb
  obtain ⟨A, c, rfl, g1, g2, g3⟩ := hb
  subst hi
  refine wpList_sl hgd x (some lo) none t e 1 ho ht hs A L.length c hx k L.length (.inr ⟨kk, by simp [hlo]⟩) (.inl ⟨rfl, rfl⟩) (by omega) g1 ?_
  have hb1 := hb0.sub k L.length (by omega) (Nat.le_refl _)
  rw [List.take_length] at hb1
  rw [show L.length - k = m from by omega] at hb1 ⊢
  exact K _ _ hb1 (by omega) (by omega)
end
/-- A struct and one more are what a function gives. -/
theorem results_cell2 {P : Program} {fn : Func} {p u : Tmp} {ty : TypeId} (h : fn.results = #[.cell p ty, .tmp u]) (tmps : Array Value) (w : World) (g : Nat) (t : TypeId) (cs : Array Value) (fr : Nat × Nat) (d : TypeDesc)
    (hp : tmps.getD p undef = .pointer (some ⟨g, 0, none⟩)) (hg : w.heap[g]? = some (.cells cs t fr))
    (hu : P.underlying ty = some d) (hd : (match d with | .struct _ | .array _ _ => true | _ => false) = true) (hi : (P.info? ty).map (·.size) = some cs.size) :
    (results fn tmps).run P w = .ok (.tuple #[.agg cs, tmps.getD u undef]) w := by
  have hp' : tmps[p]?.getD undef = .pointer (some ⟨g, 0, none⟩) := by simpa using hp
  simp [results_cell_tmp h, hp', asAddr, run_loadVar_row w g t ty cs fr d hg hu hd hi, Result.andThen]
theorem sizeB8 : (Try.prog.info? 5).map (fun i => i.size) = some 1 := by kernel_rfl
theorem markKids (o : List UInt8) (w : World) : Calls Try.prog 119 #[.string (str o)] w fun e w' => e = .returned (.int .i64 (Em.kidN o)) ∧ w = w' := by
  have hO := opB o
  rcases opCases o with rfl | rfl | rfl | rfl | rfl | rfl | rfl | rfl | rfl | rfl | ⟨h0, h1, h2, h3, h4, h5, h6, h7, h8, h9⟩
  all_goals
    go_enter Try.func119, Try.ntmps119
    go_wp2
    go_ret
    exact ⟨ret_int (by first | (simp [Em.kidN, Em.wInt, Em.wBool, Em.wUnit, Em.wString, Em.wCell, Em.wVar, Em.wList, Em.wRef, Em.wPair, Em.wFun, *]; done) | rfl), rfl⟩
/-- What number gives. -/
def NumR (w0 w : World) (p : Nat) (L : Int) (l : List UInt8) (e : Ending) (w' : World) : Prop := match Em.rdN l with
  | none => e = .returned (.tuple #[.int .i64 0, .bool false]) ∧ Keep w w'
  | some (n, r) => e = .returned (.tuple #[.int .i64 (n : Int), .bool true]) ∧ ∃ A c, Bs w0 (.slice A r.length c) r ∧ w'.heap[p]? = some (.cells #[.slice A r.length c, .int .i64 L] 111) ∧ Frm (· = p) w w'
set_option maxHeartbeats 2000000 in
theorem markNumber (w0 w : World) (p : Nat) (v : Value) (L : Int) (l : List UInt8) (hk : Keep w0 w) (hb : w.heap[p]? = some (.cells #[v, .int .i64 L] 111)) (hs : Bs w0 v l) : Calls Try.prog 118 #[.pointer (some ⟨p, 0, none⟩)] w (NumR w0 w p L l) := by
  have hs0 := hs
  obtain ⟨A, c, rfl, q1, q2, _⟩ := hs
  have hG := varGet _ l w (hs0.keep hk)
  have c0 := top_cells hb 0
  have f0 := top_free hb 0
  simp only [List.getElem?_toArray, List.getElem?_cons_succ, List.getElem?_cons_zero] at c0
  have HS := hide hs0
  have HB := hide hb
  cases hg : Em.getN l with
  | none =>
    have hT : getT l = .tuple #[.int .u64 0, .int .i64 0, .bool false] := by rw [getT, hg]
    have hR : Em.rdN l = none := by rw [Em.rdN, hg]
    rw [hT] at hG
    have HR := hide hR
    have HG := hide hG
    clear hs0 hb hG hT hR hg
    unfold NumR
    rw [HR.out]
    go_enter Try.func118, Try.ntmps118
    go_wp2_with fail
    refine HG.out.mono ?_
    rintro e w' ⟨rfl, rfl⟩
    go_wp2_with fail
    go_ret2
    exact ⟨rfl, Keep.rf _⟩
  | some vn =>
    obtain ⟨x, n⟩ := vn
    have hgs := Em.get_some hg
    have hT : getT l = .tuple #[.int .u64 (x : Int), .int .i64 (n : Int), .bool true] := by rw [getT, hg]
    rw [hT] at hG
    have HG := hide hG
    have h64 := hide hgs.1
    have hnl := hgs.2.2.2
    by_cases hx : 2000 < x
    · have hR : Em.rdN l = none := by rw [Em.rdN, hg]; simp [hx]
      have HR := hide hR
      clear hs0 hb hG hT hR hg hgs
      unfold NumR
      rw [HR.out]
      go_enter Try.func118, Try.ntmps118
      go_wp2_with fail
      refine HG.out.mono ?_
      rintro e w' ⟨rfl, rfl⟩
      go_wp2_with fail
      go_ret2
      exact ⟨rfl, Keep.rf _⟩
    · have hR : Em.rdN l = some (x, l.drop n) := by rw [Em.rdN, hg]; simp [hx]
      have HR := hide hR
      have hlen := hide (show l.length = n + (l.length - n) from by omega)
      have hdl : (l.drop n).length = l.length - n := List.length_drop
      have HDL := hide hdl
      clear hs0 hb hG hT hR hg hgs hdl
      unfold NumR
      rw [HR.out]
      go_enter Try.func118, Try.ntmps118
      go_wp2_with fail
      refine HG.out.mono ?_
      rintro e w' ⟨rfl, rfl⟩
      go_wp2_with (first
        | (refine slFrom0 rfl (.tmp 26) (.tmp 27) _ _ rfl Try.underlying29 sizeB8 _ _ rfl HS.out _ _ rfl n rfl _ hlen.out ?_; intro A1 c1 hd hd1 hd2)
        | fail)
      go_ret2
      exact ⟨rfl, A1, c1, by simp only [HDL.out]; exact hd, by simp only [HDL.out]; exact heap_setT (j := 0) HB.out _, Frm.st (S := (· = p)) (p := ⟨p, 0, none⟩) (Frm.rf _ w) (.inl rfl) _⟩
end Go.Proofs.Ytcbkklfdeloeeaa
