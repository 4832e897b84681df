/- Plain: what is built is drawn as it was; walk: is a graph too long? -/
import Derived.Test.YtilhglnfjaablaaBldR
import Derived.Test.YtilhglnfjaablaaShapeL
namespace Go.Proofs.Ytilhglnfjaablaa
open Go.RowKit
set_option linter.unusedVariables false
set_option maxRecDepth 100000
namespace Em
theorem kids_seen {bs : List Blk} {c : Bool × Int → Nat → Option Nat} (hc : ∀ x n m, c x n = some m → n ≤ bs.length → n ≤ m ∧ m ≤ bs.length ∧ ∀ j, n ≤ j → j < m → x = (false, (j : Int)) ∨ ∃ b ∈ bs, (false, (j : Int)) ∈ b.kids) :
    ∀ (ks : List (Bool × Int)) (n m : Nat), kidsC c ks n = some m → n ≤ bs.length → ∀ j, n ≤ j → j < m → (false, (j : Int)) ∈ ks ∨ ∃ b ∈ bs, (false, (j : Int)) ∈ b.kids := by
  intro ks
  induction ks with
  | nil =>
    intro n m h hn j h1 h2
    cases h
    omega
  | cons a t ih =>
    intro n m h hn j h1 h2
    rw [kidsC] at h
    cases ha : c a n with
    | none => rw [ha] at h; cases h
    | some k =>
      rw [ha] at h
      obtain ⟨g1, g2, g3⟩ := hc a n k ha hn
      by_cases hj : j < k
      · rcases g3 j h1 hj with e | e
        · exact .inl (by rw [← e]; exact List.mem_cons_self)
        · exact .inr e
      · rcases ih k m h g2 j (by omega) h2 with e | e
        · exact .inl (List.mem_cons_of_mem _ e)
        · exact .inr e
theorem ref_seen (bs : List Blk) (f : Nat) : ∀ x n m, chkP bs f x n = some m → n ≤ bs.length → ∀ j, n ≤ j → j < m → x = (false, (j : Int)) ∨ ∃ b ∈ bs, (false, (j : Int)) ∈ b.kids := by
  induction f with
  | zero => intro x n m h; cases h
  | succ f ih =>
    intro x n m h hn j h1 h2
    rw [chkP] at h
    split at h
    · split at h
      · cases h; omega
      · cases h
    · next c =>
      split at h
      · split at h
        · cases h; omega
        · cases h
      · next c2 =>
        cases hb : bs[n]? with
        | none => rw [hb] at h; cases h
        | some b =>
          rw [hb] at h
          simp only at h
          have hlt : n < bs.length := (List.getElem?_eq_some_iff.1 hb).1
          split at h
          · by_cases e : j = n
            · subst e
              left
              obtain ⟨x1, x2⟩ := x
              simp only [ne_eq, Decidable.not_not] at c2
              simp only [Bool.not_eq_true] at c
              rw [c, c2]
            · rcases kids_seen (bs := bs) (c := chkP bs f) (fun x n m e1 e2 => ⟨(chkP_all bs f x n m e1 e2).1, (chkP_all bs f x n m e1 e2).2.1, ih x n m e1 e2⟩) b.kids (n + 1) m h (by omega) j (by omega) h2 with e | e
              · exact .inr ⟨b, List.mem_of_getElem? hb, e⟩
              · exact .inr e
          · cases h
theorem wordG_at {ws : List Int} {j : Nat} (hj : j < ws.length) : wordG ws (false, (j : Int)) = ws[j] := by
  simp [wordG, List.getD_eq_getElem?_getD, hj]
/-- What is built is drawn as it was. -/
theorem of_build {H : Hp} {g : Gr} (hg : isG g = true) (hl : g.blocks.length ≤ 2000) :
    ofH (H ++ g.blocks.map (full (addrs (used H) g.blocks))) (wordG (addrs (used H) g.blocks) g.root) = (g, 0) := by
  have hch : chkP g.blocks (g.blocks.length + 1) g.root 0 = some g.blocks.length := by simpa [isG] using hg
  generalize hws : addrs (used H) g.blocks = ws
  have hlen : ws.length = g.blocks.length := by rw [← hws, addrs_len]
  generalize hH : H ++ g.blocks.map (full ws) = H'
  have hU : ∀ x ∈ ws, x ∈ univ H' (wordG ws g.root) := by
    intro x hx
    obtain ⟨j, hj, rfl⟩ := List.mem_iff_getElem.1 hx
    rcases ref_seen g.blocks _ g.root 0 _ hch (Nat.zero_le _) j (Nat.zero_le _) (by omega) with e | ⟨b, hb, hk⟩
    · rw [e, wordG_at hj]
      exact List.mem_cons_self
    · refine List.mem_cons_of_mem _ (List.mem_flatMap.2 ⟨full ws b, ?_, ?_⟩)
      · rw [← hH]
        exact List.mem_append_right _ (List.mem_map_of_mem hb)
      · rw [← wordG_at hj]
        exact List.mem_append_right _ (List.mem_map_of_mem hk)
  have hd := draw_put (H := H) (bs := g.blocks) (ws := ws) (U := univ H' (wordG ws g.root)) hws.symm hU _ ((univ H' (wordG ws g.root)).length + 1) g.root 0 _ [] hch (Nat.zero_le _) (uns_nil _) rfl
  rw [hH] at hd
  unfold ofH
  rw [show (⟨[], [], false⟩ : Dw) = ⟨ws.take 0, [], false⟩ from rfl, hd]
  have hs : seg g.blocks 0 g.blocks.length = g.blocks := by simp [seg]
  rw [hs]
  unfold ofD
  rw [if_neg (by simp), List.nil_append, if_neg (by simp only; omega)]
theorem need_small {bs : List Blk} (h : ∀ b ∈ bs, b.str.length ≤ 100 ∧ b.kids.length ≤ 10) : needN bs ≤ 111 * bs.length := by
  induction bs with
  | nil => simp [needN]
  | cons b t ih =>
    have h1 := h b List.mem_cons_self
    have h2 := ih fun c hc => h c (List.mem_cons_of_mem _ hc)
    simp only [needN, List.length_cons]
    omega
/-- A graph that is looked at. -/
def smallG (g : Gr) : Prop := g.blocks.length ≤ 80 ∧ ∀ b ∈ g.blocks, b.str.length ≤ 100 ∧ b.kids.length ≤ 10
theorem smallG.need {g : Gr} (h : smallG g) : needN g.blocks ≤ 100000 := by
  have := need_small h.2
  have := h.1
  omega
end Em
def LongA (g : Em.Gr) (e : Ending) : Prop := ∃ b, e = .returned (.bool b) ∧ (b = false → Em.smallG g)
set_option maxHeartbeats 8000000 in
theorem lawLong18s (g : Em.Gr) (w : World) (v : Value) (hg : GrV w v g) : Calls Try.prog 23 #[v] w fun e w' => LongA g e ∧ Keep w w' := by
  obtain ⟨u, rfl, _, ⟨A, c, rfl, hlc, hcm, hr⟩⟩ := hg
  obtain ⟨rg, xs⟩ := g
  simp only at hr hlc ⊢
  have ha := heap_alloc_new w (.cells #[.bool rg.1, .int .i64 rg.2, .slice A xs.length c] 34)
  have a2 := top_cells ha 2
  simp only [List.getElem?_toArray, List.getElem?_cons_succ, List.getElem?_cons_zero] at a2
  have k0 : Keep w (w.alloc (.cells #[.bool rg.1, .int .i64 rg.2, .slice A xs.length c] 34)) := (by repeat (first | exact Keep.rf _ | assumption | apply Keep.al | apply Keep.dr | apply Keep.dn))
  clear ha
  go_enter Try.func23, Try.ntmps23
  go_wp2_with fail
  generalize World.alloc w _ = W1 at *
  go_loopw [3] (fun i W => ∃ (j : Nat), j ≤ xs.length ∧ j ≤ 100 ∧ i = .int .i64 (j : Int) ∧ (∀ b ∈ xs.take j, b.str.length ≤ 100 ∧ b.kids.length ≤ 10) ∧ Keep W1 W) (fun i _ => 200 - (intOf i).toNat)
  case atStart => exact ⟨0, by omega, by omega, rfl, by simp, Keep.rf _⟩
  case round =>
    obtain ⟨j, hj, hj2, rfl, hsm, hk⟩ := hrel
    replace a2 := Keep.cell hk a2
    have kw := Keep.tr k0 hk
    have HSM := hide hsm
    clear hsm
    by_cases hlt : j < xs.length
    · have hlti : (j : Int) < (xs.length : Int) := by omega
      by_cases hl1 : j < 100
      · have hl1i : (j : Int) < 100 := by omega
        obtain ⟨ad, rfl, hcell⟩ := hr (by omega)
        obtain ⟨cs, hcs, hcl, hkt⟩ := hcell j hlt
        have htk := hide (List.take_succ_eq_append_getElem hlt)
        generalize xs[j] = x at *
        obtain ⟨kv, rfl, _, ⟨kA, kc, rfl, _⟩⟩ := hkt
        have c1 := cell_off (Keep.cell kw (hcl 1 _ rfl))
        have c2 := cell_off (Keep.cell kw (hcl 2 _ rfl))
        have HR := hide hr
        clear hcell hcl hr hcs
        obtain ⟨xt, xstr, xk⟩ := x
        simp only at *
        have hsz := str_size xstr
        by_cases h2 : 100 < xstr.length
        · have h2i : (xstr.length : Int) > 100 := by omega
          go_wp2_with fail
          go_ret
          exact ⟨⟨true, rfl, fun h => (by cases h)⟩, kw⟩
        · have h2i : ¬ ((xstr.length : Int) > 100) := by omega
          by_cases h3 : 10 < xk.length
          · have h3i : (xk.length : Int) > 10 := by omega
            go_wp2_with fail
            go_ret
            exact ⟨⟨true, rfl, fun h => (by cases h)⟩, kw⟩
          · have h3i : ¬ ((xk.length : Int) > 10) := by omega
            have HNX := hide (show ∀ b ∈ xs.take (j + 1), b.str.length ≤ 100 ∧ b.kids.length ≤ 10 from by
              rw [htk.out]
              intro b hb
              rcases List.mem_append.1 hb with hb | hb
              · exact HSM.out b hb
              · rw [List.mem_singleton.1 hb]
                exact ⟨by simp only; omega, by simp only; omega⟩)
            go_wp2_with fail
            go_roundw
            case rel => exact ⟨j + 1, by omega, by omega, by go_num, HNX.out, hk⟩
            case measure => simp [intOf]; omega
      · have hl1i : ¬ (j : Int) < 100 := by omega
        have hb80 : (xs.length : Int) > 80 := by omega
        go_wp2_with fail
        go_ret
        exact ⟨⟨true, rfl, fun h => (by cases h)⟩, kw⟩
    · have hlti : ¬ (j : Int) < (xs.length : Int) := by omega
      go_wp2_with fail
      go_ret
      refine ⟨⟨decide ((xs.length : Int) > 80), rfl, fun h => ?_⟩, kw⟩
      have h := of_decide_eq_false h
      have hx := HSM.out
      rw [List.take_of_length_le (by omega)] at hx
      exact ⟨by simp only; omega, hx⟩
end Go.Proofs.Ytilhglnfjaablaa
