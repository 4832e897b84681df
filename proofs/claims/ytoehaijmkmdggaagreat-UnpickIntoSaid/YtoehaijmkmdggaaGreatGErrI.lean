/- errors.Is, over the errors that package unpick makes: an api.Errno, within others or not. errors.Is itself. -/
import Derived.Test.YtoehaijmkmdggaaGreatGLibK
import Derived.LaidEql
import Derived.Stop.Asserts
set_option linter.unusedSimpArgs false
set_option linter.unusedVariables false
namespace Go.Proofs.YtoehaijmkmdggaaGreat
open Go.RowKit Go.Extern.Stop Go.Stop Go.Extern
set_option linter.unusedVariables false
set_option maxRecDepth 100000
theorem errTypeOf (v : Value) (w : World) : (Extern.ReflectliteType.typeOf #[.iface 37 v]).run Tryz.prog w = .ok (.iface 135 (.agg #[.pointer (some ⟨Tryz.prog.globals.size, 37, none⟩)])) w := by kernel_rfl
theorem errMethodComparable (v : Value) (w : World) : (Go.method 287 135 v "Comparable").run Tryz.prog w = .ok (111, v) w := by kernel_rfl
theorem errMethodUnwrap (v : Value) (w : World) : (Go.method 287 130 v "Unwrap").run Tryz.prog w = .ok (107, v) w := by kernel_rfl
theorem errNoIsE (v : Value) (xT : TypeId) (w : World) : (Instr.typeAssert (.iface 37 v) xT 137 true).run Tryz.prog w = .ok (.tuple #[.nilIface, .bool false]) w := run_typeAssert_lacksB Tryz.underlying137 (by kernel_rfl) (by kernel_rfl) v xT w
theorem errNoUnwrapE (v : Value) (xT : TypeId) (w : World) : (Instr.typeAssert (.iface 37 v) xT 140 true).run Tryz.prog w = .ok (.tuple #[.nilIface, .bool false]) w := run_typeAssert_lacksB Tryz.underlying140 (by kernel_rfl) (by kernel_rfl) v xT w
theorem errNoUnwrapsE (v : Value) (xT : TypeId) (w : World) : (Instr.typeAssert (.iface 37 v) xT 142 true).run Tryz.prog w = .ok (.tuple #[.nilIface, .bool false]) w := run_typeAssert_lacksB Tryz.underlying142 (by kernel_rfl) (by kernel_rfl) v xT w
theorem errNoIsW (v : Value) (xT : TypeId) (w : World) : (Instr.typeAssert (.iface 130 v) xT 137 true).run Tryz.prog w = .ok (.tuple #[.nilIface, .bool false]) w := run_typeAssert_lacksB Tryz.underlying137 (by kernel_rfl) (by kernel_rfl) v xT w
theorem errHasUnwrapW (v : Value) (xT : TypeId) (w : World) : (Instr.typeAssert (.iface 130 v) xT 140 true).run Tryz.prog w = .ok (.tuple #[.iface 130 v, .bool true]) w := run_typeAssert_hasB Tryz.underlying140 (by kernel_rfl) v xT w
theorem errEq (w : World) (a b : Int) : (binOp .eql 78 (.iface 37 (.int .i64 a)) (.iface 37 (.int .i64 b))).run Tryz.prog w = .ok (.bool (a == b)) w := by
  obtain ⟨i, hi, hcmp⟩ := Option.map_eq_some_iff.1 (show (Tryz.prog.info? 37).map (·.comparable) = some true by kernel_rfl)
  have h : ∀ d : Nat, (Op.equalIn (d + 2) 78 (.iface 37 (.int .i64 a)) (.iface 37 (.int .i64 b))).run Tryz.prog w = .ok (a == b) w := fun d => by
    simp [Op.equalIn, run_underlying Tryz.underlying78, run_underlying Tryz.underlying37, typeInfo, hi, hcmp]
  simp only [binOp]
  simp [Op.equal, Op.maxDepth, h 9998]
theorem errEqNil (w : World) (t : TypeId) (v : Value) : (binOp .eql 78 (.iface t v) .nilIface).run Tryz.prog w = .ok (.bool false) w := by
  have h : ∀ d : Nat, (Op.equalIn (d + 1) 78 (.iface t v) .nilIface).run Tryz.prog w = .ok false w := fun d => by simp [Op.equalIn, run_underlying Tryz.underlying78]
  simp only [binOp]
  simp [Op.equal, Op.maxDepth, h 9999]
theorem errEqNN (w : World) : (binOp .eql 78 .nilIface .nilIface).run Tryz.prog w = .ok (.bool true) w := by
  have h : ∀ d : Nat, (Op.equalIn (d + 1) 78 .nilIface .nilIface).run Tryz.prog w = .ok true w := fun d => by simp [Op.equalIn, run_underlying Tryz.underlying78]
  simp only [binOp]
  simp [Op.equal, Op.maxDepth, h 9999]
theorem errNeNil (w : World) (t : TypeId) (v : Value) : (binOp .neq 78 (.iface t v) .nilIface).run Tryz.prog w = .ok (.bool true) w := by
  have h : ∀ d : Nat, (Op.equalIn (d + 1) 78 (.iface t v) .nilIface).run Tryz.prog w = .ok false w := fun d => by simp [Op.equalIn, run_underlying Tryz.underlying78]
  simp only [binOp]
  simp [Op.equal, Op.maxDepth, h 9999]
theorem errNeNN (w : World) : (binOp .neq 78 .nilIface .nilIface).run Tryz.prog w = .ok (.bool false) w := by
  have h : ∀ d : Nat, (Op.equalIn (d + 1) 78 .nilIface .nilIface).run Tryz.prog w = .ok true w := fun d => by simp [Op.equalIn, run_underlying Tryz.underlying78]
  simp only [binOp]
  simp [Op.equal, Op.maxDepth, h 9999]
theorem errEqW (w : World) (v u : Value) : (binOp .eql 78 (.iface 130 v) (.iface 37 u)).run Tryz.prog w = .ok (.bool false) w := run_eql_iface_types (P := Tryz.prog) _ _ _ _ Tryz.underlying78 (by decide) w
/-- An error of number c, so deep within others. -/
def ErrD : Nat → World → Value → Int → Prop
  | 0, _, v, c => v = .iface 37 (.int .i64 c)
  | d + 1, w, v, c => ∃ b v', v = .iface 130 (.pointer (some ⟨b, 0, none⟩)) ∧ w.cell? ⟨b, 1, none⟩ = some v' ∧ ErrD d w v' c
theorem ErrD.keep {w w' : World} (k : Keep w w') : ∀ {d : Nat} {v : Value} {c : Int}, ErrD d w v c → ErrD d w' v c
  | 0, v, c, h => h
  | d + 1, v, c, h => by
    obtain ⟨b, v', h1, h2, h3⟩ := h
    exact ⟨b, v', h1, Keep.cell k h2, ErrD.keep k h3⟩
/-- How deep an error is within others, so far at most. -/
def errDep : Nat → World → Value → Nat
  | n + 1, W, .iface t (.pointer (some a)) => if t = 130 then (match W.cell? ⟨a.block, 1, none⟩ with
    | some v => errDep n W v + 1
    | none => 0) else 0
  | _, _, _ => 0
theorem errDep_of {W : World} {c : Int} : ∀ {n k : Nat} {v : Value}, ErrD k W v c → k ≤ n → errDep n W v = k
  | n, 0, v, h, _ => by
    have h : v = _ := h
    subst h
    cases n <;> rfl
  | 0, k + 1, v, h, hk => by omega
  | n + 1, k + 1, v, h, hk => by
    obtain ⟨b, v', rfl, h2, h3⟩ := h
    unfold errDep
    rw [if_pos rfl]
    simp only [h2]
    rw [errDep_of h3 (by omega)]
theorem ErrD.ifc {W : World} {c : Int} {k : Nat} {v : Value} (h : ErrD k W v c) : ∃ t x, v = .iface t x := by
  cases k with
  | zero => exact ⟨_, _, h⟩
  | succ k =>
    obtain ⟨b, v', h1, _⟩ := h
    exact ⟨_, _, h1⟩
theorem withinUnwrap (w : World) (b : Nat) (v : Value) (h : w.cell? ⟨b, 1, none⟩ = some v) : Calls Tryz.prog 107 #[.pointer (some ⟨b, 0, none⟩)] w fun e w' => e = .returned v ∧ w = w' := by
  go_enter Tryz.func107, Tryz.ntmps107
  go_wp2_with fail
  go_ret
  exact ⟨rfl, rfl⟩
set_option maxHeartbeats 8000000 in
theorem errors_is (d : Nat) (w : World) (v : Value) (c e : Int) (h : ErrD d w v c) : Calls Tryz.prog 52 #[v, .iface 37 (.int .i64 e), .bool true] w fun r w' => r = .returned (.bool (c == e)) ∧ Keep w w' := by
  have nE := errNoIsE
  have uE := errNoUnwrapE
  have vE := errNoUnwrapsE
  have nW := errNoIsW
  have uW := errHasUnwrapW
  have mU := errMethodUnwrap
  have q1 := errEq
  have q2 := errEqNil
  have q3 := errEqW
  have HD := hide h
  clear h
  go_enter Tryz.func52, Tryz.ntmps52
  go_wp2_with fail
  go_loopw [0] (fun v W => ∃ k : Nat, k ≤ d ∧ ErrD k W v c ∧ Keep w W) (fun v W => errDep d W v)
  case atStart => exact ⟨d, Nat.le_refl _, HD.out, Keep.rf _⟩
  case round =>
    obtain ⟨k, hkd, hk, kw⟩ := hrel
    cases k with
    | zero =>
      have hk : u0 = _ := hk
      subst hk
      cases hce : (c == e) with
      | true =>
        have HCE := hide hce
        go_wp2_with fail
        go_ret
        rw [HCE.out]
        exact ⟨rfl, kw⟩
      | false =>
        have HCE := hide hce
        go_wp2_with fail
        go_ret
        rw [HCE.out]
        exact ⟨rfl, kw⟩
    | succ k =>
      have HDP := hide (errDep_of hk hkd)
      obtain ⟨b, v', rfl, hb, hk⟩ := hk
      have HDP2 := hide (errDep_of hk (Nat.le_of_succ_le hkd))
      obtain ⟨t', x', rfl⟩ := hk.ifc
      have HK := hide hk
      have HB := hide hb
      clear hk hb
      go_wp2_with fail
      refine (withinUnwrap wr b _ HB.out).mono ?_
      rintro e9 w9 ⟨rfl, rfl⟩
      go_wp2_with fail
      go_roundw
      case rel => exact ⟨k, Nat.le_of_succ_le hkd, HK.out, kw⟩
      case measure => rw [HDP.out, HDP2.out]; exact Nat.lt_succ_self _
end Go.Proofs.YtoehaijmkmdggaaGreat
namespace Go.Proofs.YtoehaijmkmdggaaGreat
open Go.RowKit Go.Extern.Stop Go.Stop Go.Extern
set_option linter.unusedVariables false
set_option maxRecDepth 100000
set_option maxHeartbeats 4000000 in
theorem errorsIsNil (w : World) (e : Int) : Calls Tryz.prog 24 #[.nilIface, .iface 37 (.int .i64 e)] w fun r w' => r = .returned (.bool false) ∧ w' = w := by
  have hn := run_eql_iface_nil_left (P := Tryz.prog) (w := w) 37 (.int .i64 e) Tryz.underlying78
  have q1 := errEqNN w
  have q2 := errEqNil w
  go_enter Tryz.func24, Tryz.ntmps24
  go_wp2_with fail
  go_ret
  exact ⟨rfl, rfl⟩
theorem errComparableP (w : World) : ((Extern.ReflectliteType.method fun t => do Go.Extern.Rtype.noPackHeld "Comparable" t; (fun a => Value.bool a.comparable) <$> typeInfo t) #[.agg #[.pointer (some ⟨Tryz.prog.globals.size, 37, none⟩)]]).run Tryz.prog w = .ok (.bool true) w := by kernel_rfl
set_option maxHeartbeats 4000000 in
theorem errorsIs (d : Nat) (w : World) (v : Value) (c e : Int) (h : ErrD d w v c) : Calls Tryz.prog 24 #[v, .iface 37 (.int .i64 e)] w fun r w' => r = .returned (.bool (c == e)) ∧ Keep w w' := by
  obtain ⟨t', x', rfl⟩ := h.ifc
  have h8 := @run_callFunc_extern Tryz.prog 51 _ Extern.ReflectliteType.typeOf Tryz.func51 (by kernel_rfl) (by kernel_rfl) (by kernel_rfl) (by kernel_rfl)
  have h32 := @run_callFunc_extern Tryz.prog 111 _ (Extern.ReflectliteType.method fun t => do Go.Extern.Rtype.noPackHeld "Comparable" t; pure (.bool (← typeInfo t).comparable)) Tryz.func111 (by kernel_rfl) (by kernel_rfl) (by kernel_rfl) (by kernel_rfl)
  have hgs : Tryz.prog.globals.size = 0 := by kernel_rfl
  have tT := errTypeOf
  have cT := errComparableP w
  rw [hgs] at cT
  simp only [hgs] at tT
  have mR := errMethodComparable
  have q2 := errEqNil
  have HI := hide (errors_is d w _ c e h)
  clear h
  go_enter Tryz.func24, Tryz.ntmps24
  go_wp2_with fail
  refine HI.out.mono ?_
  rintro r w' ⟨rfl, k⟩
  go_wp2_with fail
  go_ret
  exact ⟨rfl, k⟩
end Go.Proofs.YtoehaijmkmdggaaGreat
