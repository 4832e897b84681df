/- A program that came in; walks: is it long, its mark (code). -/
import Derived.Test.YtcbkklfdeloeeaaCodeT
import Derived.Test.YtcbkklfdeloeeaaRowLib2
namespace Go.Proofs.Ytcbkklfdeloeeaa
open Go.ChangeShapes Go.WideShapes Go.ChangeAt Go.RowKit
open Em (Prg)
set_option linter.unusedVariables false
set_option maxRecDepth 100000
theorem opn_instr : Opn Try.prog 91 KIns := by
  intro H enc W fuel cs d ps hf hw
  obtain ⟨n, rfl, hl, hg⟩ := trod_fields Try.underlying91 hf hw
  have hl2 : cs.length = 2 := hl.trans (by kernel_rfl)
  obtain ⟨d0, p0, t0, w0⟩ := hg 0 _ rfl
  obtain ⟨d1, p1, t1, w1⟩ := hg 1 _ rfl
  obtain ⟨x0, e0, f0⟩ := opn_int Try.underlying3 H enc W n _ d0 p0 t0 w0
  obtain ⟨x1, e1, f1⟩ := opn_int Try.underlying2 H enc W n _ d1 p1 t1 w1
  match cs, hl2 with
  | [c0, c1], _ =>
    have h0 : [c0] = [_] := e0
    have h1 : [c1] = [_] := e1
    simp only [List.cons.injEq, and_true] at h0 h1
    subst h0 h1
    exact ⟨(x0, x1), rfl, f0, f1⟩
theorem opn_fun : Opn Try.prog 89 KFun :=
  Opn.imp (opn_slice opn_instr Try.underlying89 (sz := 2) (by kernel_rfl) rfl) fun w cs l ⟨v, h1, h2, h3⟩ => ⟨l, v, h1, h2⟩
theorem opn_ks : Opn Try.prog 9 KS :=
  Opn.imp (opn_str Try.underlying9) fun w cs s ⟨h1, _⟩ => ⟨s.data.toList, by rw [KS, h1, str_of]⟩
theorem opn_prog : Opn Try.prog 36 PrgK := by
  intro H enc W fuel cs d ps hf hw
  obtain ⟨n, rfl, hl, hg⟩ := trod_fields Try.underlying36 hf hw
  have hl3 : cs.length = 3 := hl.trans (by kernel_rfl)
  obtain ⟨d0, p0, t0, w0⟩ := hg 0 _ rfl
  obtain ⟨d1, p1, t1, w1⟩ := hg 1 _ rfl
  obtain ⟨d2, p2, t2, w2⟩ := hg 2 _ rfl
  obtain ⟨x0, e0, f0⟩ := opn_int Try.underlying3 H enc W n _ d0 p0 t0 w0
  obtain ⟨x1, v1, e1, f1, _⟩ := opn_slice opn_fun Try.underlying33 (sz := 1) (by kernel_rfl) rfl H enc W n _ d1 p1 t1 w1
  obtain ⟨x2, v2, e2, f2, _⟩ := opn_slice opn_ks Try.underlying34 (sz := 1) (by kernel_rfl) rfl H enc W n _ d2 p2 t2 w2
  match cs, hl3 with
  | [c0, c1, c2], _ =>
    have h0 : [c0] = [_] := e0
    have h1 : [c1] = [_] := e1
    have h2 : [c2] = [_] := e2
    simp only [List.cons.injEq, and_true] at h0 h1 h2
    subst h0 h1 h2
    exact ⟨⟨x0, x1, x2⟩, _, _, rfl, f0, f1, f2⟩
theorem PrgK.inn {w : World} {cs : List Value} {p : Prg} (h : PrgK w cs p) : PrgIn p := by
  obtain ⟨vf, vs, _, _, ⟨A, c, _, _, _, hr⟩, _⟩ := h
  intro f hf x hx
  obtain ⟨i, hi, rfl⟩ := List.getElem_of_mem hf
  obtain ⟨ad, _, hc⟩ := hr (by omega)
  obtain ⟨cs, _, _, v, _, ⟨A', c', _, _, _, hr'⟩⟩ := hc i hi
  obtain ⟨j, hj, rfl⟩ := List.getElem_of_mem hx
  obtain ⟨ad', _, hc'⟩ := hr' (by omega)
  obtain ⟨cs', _, _, _, _, hw⟩ := hc' j hj
  exact in_i64 hw
/-- A value that is a program. -/
def PrgV (w : World) (v : Value) (p : Prg) : Prop := ∃ cs, v = .agg cs.toArray ∧ PrgK w cs p
section
variable {H : Type} {enc : TypeId × Value → H} {W : World} {base : Nat}
theorem open_prog {v : Value} {d : DataW H} {p : List MemPlace}
    (hv : Value.okWide Try.prog W .any base 36 v) (h : DataW.Trod enc Try.prog W 0 (fun _ => true) true 36 v d p) (hz : ∀ n ∈ d.weights Try.prog 36, n ≤ reachBytes) :
    ∃ t : Prg, PrgV W v t ∧ True := by
  obtain ⟨c, rfl, hc⟩ := okWide_struct Try.underlying36 hv
  obtain ⟨fuel, hf⟩ := h
  obtain ⟨x, hx⟩ := opn_prog H enc W fuel _ d p hf hz
  exact ⟨x, ⟨c.toList, by simp, hx⟩, trivial⟩
end
/-- Some answer. -/
def IsBool (e : Ending) : Prop := ∃ b, e = .returned (.bool b)
set_option maxHeartbeats 8000000 in
theorem lawLong13 (w : World) (cs : List Value) (p : Prg) (h : PrgK w cs p) : Calls Try.prog 28 #[.agg cs.toArray] w fun e w' => IsBool e ∧ Keep w w' := by
  obtain ⟨vf, vs, rfl, hwf, hf, hs⟩ := h
  obtain ⟨fA, fc, rfl, hfl, hfm, hfr⟩ := hf
  obtain ⟨sA, sc, rfl, hsl, hsm, hsr⟩ := hs
  obtain ⟨dp, fs, ss⟩ := p
  simp only at *
  have hb := heap_alloc_new w (.cells #[.int .i64 dp, .slice fA fs.length fc, .slice sA ss.length sc] 36)
  have k0 : Keep w (w.alloc (.cells #[.int .i64 dp, .slice fA fs.length fc, .slice sA ss.length sc] 36)) := (by repeat (first | exact Keep.rf _ | assumption | apply Keep.al | apply Keep.dr | apply Keep.dn))
  have t1 := top_cells hb 1
  have t2 := top_cells hb 2
  simp only [List.getElem?_toArray, List.getElem?_cons_succ, List.getElem?_cons_zero] at t1 t2
  clear hb
  go_enter Try.func28, Try.ntmps28
  go_upto_block 0 with fail
  generalize World.alloc w _ = W1 at *
  go_cut [3, 4] (fun n _ W => (∃ m, n = .int .i64 m) ∧ Keep W1 W)
  case first =>
    go_wp2_with fail
    go_loopw [3, 4] (fun n i W => ∃ (m : Int) (j : Nat), n = .int .i64 m ∧ i = .int .i64 j ∧ j ≤ 30 ∧ j ≤ fs.length ∧ Keep W1 W) (fun _ i _ => 30 - (intOf i).toNat)
    case atStart => exact ⟨0, 0, rfl, rfl, by omega, by omega, Keep.rf _⟩
    case round =>
      obtain ⟨m, j, rfl, rfl, hj, hjf, hk⟩ := hrel
      have k0w := Keep.tr k0 hk
      replace t1 := Keep.cell hk t1
      by_cases hgo : j < fs.length ∧ j < 30
      · have g1 : decide ((j : Int) < (fs.length : Int)) = true := decide_eq_true (by omega)
        have g2 : decide ((j : Int) < 30) = true := decide_eq_true (by omega)
        obtain ⟨ad, rfl, hcell⟩ := hfr (by omega)
        obtain ⟨cs, hcs, hcl, u, rfl, hu⟩ := hcell j hgo.1
        have c0 := Keep.cell k0w (hcl 0 _ rfl)
        rw [Nat.add_zero, Nat.mul_one] at c0
        obtain ⟨uA, uc, rfl, _⟩ := hu
        clear hcell hcl hfr
        go_wp2_with fail
        go_roundw
        case rel => exact ⟨_, j + 1, rfl, by go_num, by omega, by omega, hk⟩
        case measure => simp [intOf]; omega
      · by_cases hlt : j < fs.length
        · have g1 : decide ((j : Int) < (fs.length : Int)) = true := decide_eq_true (by omega)
          have g2 : decide ((j : Int) < 30) = false := decide_eq_false (by omega)
          have hj30 : ¬ j < 30 := by omega
          go_wp2_with fail
          go_meet
          exact ⟨⟨m, rfl⟩, hk⟩
        · have g1 : decide ((j : Int) < (fs.length : Int)) = false := decide_eq_false (by omega)
          go_wp2_with fail
          go_meet
          exact ⟨⟨m, rfl⟩, hk⟩
  case rest =>
    obtain ⟨⟨m, rfl⟩, hk⟩ := hcut
    rename World => W2
    have k02 := Keep.tr k0 hk
    replace t1 := Keep.cell hk t1
    replace t2 := Keep.cell hk t2
    go_upto_block 2 with fail
    go_cut [3, 5] (fun n _ W => (∃ m, n = .int .i64 m) ∧ Keep W2 W)
    case first =>
      go_wp2_with fail
      go_loopw [3, 5] (fun n i W => ∃ (m : Int) (j : Nat), n = .int .i64 m ∧ i = .int .i64 j ∧ j ≤ 30 ∧ j ≤ ss.length ∧ Keep W2 W) (fun _ i _ => 30 - (intOf i).toNat)
      case atStart => exact ⟨m, 0, rfl, rfl, by omega, by omega, Keep.rf _⟩
      case round =>
        obtain ⟨m, j, rfl, rfl, hj, hjf, hk2⟩ := hrel
        have k0w := Keep.tr k02 hk2
        replace t2 := Keep.cell hk2 t2
        by_cases hgo : j < ss.length ∧ j < 30
        · have g1 : decide ((j : Int) < (ss.length : Int)) = true := decide_eq_true (by omega)
          have g2 : decide ((j : Int) < 30) = true := decide_eq_true (by omega)
          obtain ⟨ad, rfl, hcell⟩ := hsr (by omega)
          have hj1 := hgo.1
          obtain ⟨cs1, hcs, hcl, hkt⟩ := hcell j hj1
          have hkt : cs1 = [.string (str ss[j])] := hkt
          subst hkt
          have c0 := Keep.cell k0w (hcl 0 _ rfl)
          rw [Nat.add_zero, Nat.mul_one] at c0
          generalize ss[j] = sj at *
          clear hcell hcl hsr
          go_wp2_with fail
          go_roundw
          case rel => exact ⟨_, j + 1, rfl, by go_num, by omega, by omega, hk2⟩
          case measure => simp [intOf]; omega
        · by_cases hlt : j < ss.length
          · have g1 : decide ((j : Int) < (ss.length : Int)) = true := decide_eq_true (by omega)
            have g2 : decide ((j : Int) < 30) = false := decide_eq_false (by omega)
            have hj30 : ¬ j < 30 := by omega
            go_wp2_with fail
            go_meet
            exact ⟨⟨m, rfl⟩, hk2⟩
          · have g1 : decide ((j : Int) < (ss.length : Int)) = false := decide_eq_false (by omega)
            go_wp2_with fail
            go_meet
            exact ⟨⟨m, rfl⟩, hk2⟩
    case rest =>
      obtain ⟨⟨m, rfl⟩, hk2⟩ := hcut
      rename World => W3
      replace t1 := Keep.cell hk2 t1
      replace t2 := Keep.cell hk2 t2
      by_cases h1 : m > 600
      · go_wp2_with fail
        go_ret
        exact ⟨⟨_, rfl⟩, Keep.tr k02 hk2⟩
      · by_cases h2 : fs.length > 30
        · go_wp2_with fail
          go_ret
          exact ⟨⟨_, rfl⟩, Keep.tr k02 hk2⟩
        · go_wp2_with fail
          go_ret
          exact ⟨⟨_, rfl⟩, Keep.tr k02 hk2⟩
theorem codeMark (w : World) (cs : List Value) (p : Prg) (h : PrgK w cs p) : Calls Try.prog 31 #[.agg cs.toArray] w fun e w' => e = .returned (.int .u64 (Em.mark (Em.bytesP p) : Int)) ∧ Keep w w' := by
  have HB := hide fun W (k : Keep w W) => codeBytes W cs p (h.keep k) h.inn
  obtain ⟨vf, vs, rfl, hwf, ⟨fA, fc, rfl, _⟩, ⟨sA, sc, rfl, _⟩⟩ := h
  generalize Em.bytesP p = bt at *
  go_enter Try.func31, Try.ntmps31
  go_wp2_with fail
  refine (HB.out _ (by repeat (first | exact Keep.rf _ | assumption | apply Keep.al | apply Keep.dr | apply Keep.dn))).mono ?_
  rintro e w1 ⟨v, rfl, ho, k1⟩
  obtain ⟨A, c, rfl⟩ := own_slice (show w1.ownsRow _ _ _ _ _ _ from ho)
  have hb := ho.bs
  clear ho
  go_wp2_with fail
  refine (sumMark _ [bt] _ (Rws.one hb _ rfl)).mono ?_
  rintro e w2 ⟨rfl, rfl⟩
  simp only [List.flatten_cons, List.flatten_nil, List.append_nil]
  go_wp2_with fail
  go_ret
  exact ⟨rfl, Keep.tr (show Keep w w1 from Keep.tr (by repeat (first | exact Keep.rf _ | assumption | apply Keep.al | apply Keep.dr | apply Keep.dn)) k1) (by repeat (first | exact Keep.rf _ | assumption | apply Keep.al | apply Keep.dr | apply Keep.dn))⟩
end Go.Proofs.Ytcbkklfdeloeeaa
