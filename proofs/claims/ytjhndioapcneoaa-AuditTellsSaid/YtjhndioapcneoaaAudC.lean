/- The laws AuditRises: walk; calls and replies that came in. -/
import Derived.Test.YtjhndioapcneoaaAudL
import Derived.Test.YtjhndioapcneoaaOpen2
namespace Go.Proofs.Ytjhndioapcneoaa
open Go.RowKit Go.Maps
set_option linter.unusedVariables false
set_option maxRecDepth 100000
theorem opn_call : Opn Try.prog 57 KC := by
  intro H enc W fuel cs d ps hf hw
  obtain ⟨n, rfl, hl, hg⟩ := trod_fields Try.underlying57 hf hw
  have hl2 : cs.length = 2 := hl.trans callCells
  obtain ⟨d0, p0, t0, w0⟩ := hg 0 _ rfl
  obtain ⟨d1, p1, t1, w1⟩ := hg 1 _ rfl
  obtain ⟨x0, e0, f0⟩ := opn_int Try.underlying3 H enc W n _ d0 p0 t0 w0
  obtain ⟨x1, e1, f1⟩ := opn_int Try.underlying3 H enc W n _ d1 p1 t1 w1
  match cs, hl2 with
  | [c0, c1], _ =>
    have h0 : [c0] = [_] := e0
    have h1 : [c1] = [_] := e1
    simp only [List.cons.injEq, and_true] at h0 h1
    subst h0 h1
    exact ⟨(x0, x1), rfl, f0, f1⟩
theorem opn_reply : Opn Try.prog 60 KR := by
  intro H enc W fuel cs d ps hf hw
  obtain ⟨n, rfl, hl, hg⟩ := trod_fields Try.underlying60 hf hw
  have hl4 : cs.length = 4 := hl.trans (by kernel_rfl)
  obtain ⟨d0, p0, t0, w0⟩ := hg 0 _ rfl
  obtain ⟨d1, p1, t1, w1⟩ := hg 1 _ rfl
  obtain ⟨d2, p2, t2, w2⟩ := hg 2 _ rfl
  obtain ⟨x0, e0, f0, f0'⟩ := opn_call H enc W n _ d0 p0 t0 w0
  obtain ⟨x1, e1, f1⟩ := opn_int Try.underlying58 H enc W n _ d1 p1 t1 w1
  obtain ⟨x2, v2, e2, ⟨A, c, f2, _⟩, _⟩ := opn_bs Try.underlying25 Try.underlying5 (by kernel_rfl) (by kernel_rfl) H enc W n _ d2 p2 t2 w2
  match cs, hl4 with
  | [c0, c1, c2, c3], _ =>
    have h0 : [c0, c1] = _ := e0
    have h1 : [c2] = [_] := e1
    have h2 : [c3] = [_] := e2
    simp only [List.cons.injEq, and_true] at h0 h1 h2
    obtain ⟨g0, g1⟩ := h0
    subst g0 g1 h1 h2 f2
    exact ⟨(x0, x1), A, _, c, rfl, f0, f0'⟩
section
variable {H : Type} {enc : TypeId × Value → H} {W : World} {base : Nat}
theorem open_calls {t : TypeId} {v : Value} {d : DataW H} {p : List MemPlace} (ht : Try.prog.underlying t = some (.slice 57))
    (hv : Value.okWide Try.prog W .any base t v) (h : DataW.Trod enc Try.prog W 0 (fun _ => true) true t v d p) (hz : ∀ n ∈ d.weights Try.prog t, n ≤ reachBytes) : ∃ l, Sl 2 KC W v l ∧ True :=
  open_sl (K' := fun w v l => Sl 2 KC w v l ∧ True) (Opn.imp (opn_slice opn_call ht (sz := 2) (by kernel_rfl) rfl) fun w cs l ⟨v, h1, h2, h3⟩ => ⟨l, v, h1, h2, trivial⟩) ht hv h hz
theorem open_replies {t : TypeId} {v : Value} {d : DataW H} {p : List MemPlace} (ht : Try.prog.underlying t = some (.slice 60))
    (hv : Value.okWide Try.prog W .any base t v) (h : DataW.Trod enc Try.prog W 0 (fun _ => true) true t v d p) (hz : ∀ n ∈ d.weights Try.prog t, n ≤ reachBytes) : ∃ l, Sl 4 KR W v l ∧ True :=
  open_sl (K' := fun w v l => Sl 4 KR w v l ∧ True) (Opn.imp (opn_slice opn_reply ht (sz := 4) (by kernel_rfl) rfl) fun w cs l ⟨v, h1, h2, h3⟩ => ⟨l, v, h1, h2, trivial⟩) ht hv h hz
end
set_option maxHeartbeats 1000000 in
theorem AuditRises_walk (w : World) (v : Value) (l : List (Int × Int)) (h : Sl 2 KC w v l) (_ : True) : Calls Try.prog 13 #[v] w fun e w' => e = .returned (.bool true) ∧ Keep w w' := by
  have H1 := hide fun W (k : Keep w W) => audOnce W v l (h.keep k fun _ _ h => h)
  have H3 := hide fun W (k : Keep w W) => audRises W v l (h.keep k fun _ _ h => h)
  obtain ⟨A, c, rfl, _⟩ := h
  have hi : Em.rises l = true → decide l.Nodup = true := fun h => decide_eq_true (Em.rises_nodup l h)
  generalize decide l.Nodup = x1 at *
  generalize Em.rises l = x2 at *
  by_cases hb : 50 < l.length
  · go_enter Try.func13, Try.ntmps13
    go_wp2
    go_ret
    exact ⟨rfl, (by repeat (first | exact Keep.rf _ | assumption | apply Keep.al | apply Keep.dr | apply Keep.dn))⟩
  · have hx : x2 = false ∨ (x2 = true ∧ x1 = true) := by
      cases x2
      · exact .inl rfl
      · exact .inr ⟨rfl, hi rfl⟩
    clear hi
    rcases hx with rfl | ⟨rfl, rfl⟩
    · go_enter Try.func13, Try.ntmps13
      go_wp2_with fail
      refine (H3.out _ (by repeat (first | exact Keep.rf _ | assumption | apply Keep.al | apply Keep.dr | apply Keep.dn))).mono ?_
      rintro e w1 ⟨rfl, k1⟩
      go_wp2_with fail
      refine (audRises _ _ [] (Sl.nil _)).mono ?_
      rintro e w3 ⟨rfl, k3⟩
      simp only [show Em.rises [] = true from rfl]
      have k3 := Keep.tr k1 k3
      go_wp2_with fail
      refine (audKnowns _).mono ?_
      rintro e w7 ⟨rfl, k7⟩
      have k7 := Keep.tr k3 k7
      go_wp2_with fail
      go_ret
      exact ⟨rfl, k7⟩
    · go_enter Try.func13, Try.ntmps13
      go_wp2_with fail
      refine (H3.out _ (by repeat (first | exact Keep.rf _ | assumption | apply Keep.al | apply Keep.dr | apply Keep.dn))).mono ?_
      rintro e w1 ⟨rfl, k1⟩
      go_wp2_with fail
      refine (H1.out _ k1).mono ?_
      rintro e w2 ⟨rfl, k2⟩
      have k2 := Keep.tr k1 k2
      go_wp2_with fail
      refine (audRises _ _ [] (Sl.nil _)).mono ?_
      rintro e w3 ⟨rfl, k3⟩
      simp only [show Em.rises [] = true from rfl]
      have k3 := Keep.tr k2 k3
      go_wp2_with fail
      refine (audKnowns _).mono ?_
      rintro e w7 ⟨rfl, k7⟩
      have k7 := Keep.tr k3 k7
      go_wp2_with fail
      go_ret
      exact ⟨rfl, k7⟩
end Go.Proofs.Ytjhndioapcneoaa
