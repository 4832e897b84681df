/- Words for the walks: bytes as they lie in memory, slices that are read. No program is named here. -/
import Derived.WalkKit
import GoSem.Claim
import Derived.Deep.QuietTactic
import Derived.BigQuiet
import Derived.Deep.LoopGhost
import Derived.Deep.AppendLies
import Derived.Maps.AppendAt
import Derived.Lib.SlBytesConst
namespace Go.Proofs.Ytilhglnfjaablaa
open Go.RowKit

/-- A fact that the walk does not look into. -/
theorem hide {p : Prop} (h : p) : Hid p := h
/-- A byte as a value. -/
def bv (b : UInt8) : Value := .int .u8 (b.toNat : Int)
/-- What was there is as it was. -/
abbrev Keep (w w' : World) : Prop := Below w.heap.size w w'
theorem Keep.tr {a b c : World} (h : Keep a b) (k : Keep b c) : Keep a c :=
  h.trans (k.mono h.size)
/-- A slice that reads as bytes. -/
def Bs (w : World) (v : Value) (l : List UInt8) : Prop :=
  ∃ A c, v = .slice A l.length c ∧ l.length ≤ c ∧ c ≤ 9223372036854775807 ∧ (0 < l.length → ∃ ad, A = some ad ∧ ∀ (j : Nat) (h : j < l.length), w.cell? (ad.add j) = some (bv l[j]))
/-- A slice that reads as rows of bytes. -/
def Rws (w : World) (v : Value) (ls : List (List UInt8)) : Prop :=
  ∃ A c, v = .slice A ls.length c ∧ ls.length ≤ c ∧ c ≤ 9223372036854775807 ∧ (0 < ls.length → ∃ ad, A = some ad ∧ ∀ (j : Nat) (h : j < ls.length), ∃ u, w.cell? (ad.add j) = some u ∧ Bs w u ls[j])
theorem u8_back (n : Int) (h : (Lit.int .u8 n).wf = true) : n = ((UInt8.ofNat n.toNat).toNat : Int) := by
  have hw : 0 ≤ n ∧ n < 256 := by
    simp [Lit.wf, IntKind.min, IntKind.max, IntKind.bits, IntKind.signed] at h
    omega
  simp [UInt8.toNat_ofNat']
  omega
theorem in_i64 {n : Int} (h : (Lit.int .i64 n).wf = true) : -9223372036854775808 ≤ n ∧ n ≤ 9223372036854775807 := by
  simp [Lit.wf, IntKind.min, IntKind.max, IntKind.bits, IntKind.signed] at h
  omega
theorem in_u64 {n : Int} (h : (Lit.int .u64 n).wf = true) : 0 ≤ n ∧ n ≤ 18446744073709551615 := by
  simp [Lit.wf, IntKind.min, IntKind.max, IntKind.bits, IntKind.signed] at h
  omega
theorem in_u8 {n : Int} (h : (Lit.int .u8 n).wf = true) : ∃ b : UInt8, n = (b.toNat : Int) := ⟨_, u8_back n h⟩
theorem Keep.rf (w : World) : Keep w w := Below.refl _ _
theorem Keep.al {a w : World} (h : Keep a w) (o : Obj) : Keep a (w.alloc o) := h.alloc h.size o
theorem Keep.dn {a w : World} (h : Keep a w) (n : Nat) : Keep a (w.drewN n) := ⟨h.os, h.tape, h.output, h.size, h.block⟩
theorem Keep.dr {a w : World} (h : Keep a w) : Keep a w.drew := h.drew
theorem Keep.st {a w : World} (h : Keep a w) {p : Addr} (hp : a.heap.size ≤ p.block) (u : Value) : Keep a (w.setCell p u) := h.setCell hp u
theorem Keep.cell {w w' : World} (h : Keep w w') {a : Addr} {u : Value} (hc : w.cell? a = some u) : w'.cell? a = some u :=
  (Below.cell h (World.block_lt_of_cell? w a hc)).trans hc
theorem Bs.keep {w w' : World} {v : Value} {l : List UInt8} (h : Bs w v l) (k : Keep w w') : Bs w' v l := by
  obtain ⟨A, c, e, h1, h2, h3⟩ := h
  exact ⟨A, c, e, h1, h2, fun hp => (h3 hp).imp fun ad ⟨ea, hc⟩ => ⟨ea, fun j hj => k.cell (hc j hj)⟩⟩
theorem Bs.len {w : World} {v : Value} {l : List UInt8} (h : Bs w v l) : l.length ≤ 9223372036854775807 := by
  obtain ⟨A, c, e, h1, h2, h3⟩ := h; omega
theorem Bs.nil (w : World) : Bs w (.slice none 0 0) [] := ⟨none, 0, rfl, by simp, by omega, fun h => by simp at h⟩
theorem Bs.of_cells {w : World} {ad : Addr} {l : List UInt8} {c : Nat} (h1 : l.length ≤ c) (h2 : c ≤ 9223372036854775807) (h : ∀ (j : Nat) (h : j < l.length), w.cell? (ad.add j) = some (bv l[j])) : Bs w (.slice (some ad) l.length c) l :=
  ⟨some ad, c, rfl, h1, h2, fun _ => ⟨ad, rfl, h⟩⟩
theorem Bs.of_own {w : World} {base : Nat} {e : TypeId} {v : Value} {l : List UInt8} (h : w.ownsRow base e 1 v l.length (l.map bv)) : Bs w v l := by
  have hc := h
  obtain ⟨hl, hr⟩ := h
  rcases hr with ⟨rfl, h0⟩ | ⟨g, cap, cur, rfl, hg, hh, h1, h2, h3, h4⟩
  · obtain rfl : l = [] := List.eq_nil_of_length_eq_zero h0
    exact Bs.nil w
  · refine Bs.of_cells h1 (by simpa [maxLen] using h2) fun j hj => ?_
    exact hc.cells (g := g) rfl j (bv l[j]) (by simp [hj])
/-- What a new row of cells holds. -/
theorem cell_new (w : World) (cs : Array Value) (t : TypeId) (j : Nat) {fr : Nat × Nat} : (w.alloc (.cells cs t fr)).cell? ((⟨w.heap.size, 0, none⟩ : Addr).add j) = cs[j]? := by
  have : (⟨w.heap.size, 0, none⟩ : Addr).add j = ⟨w.heap.size, j, none⟩ := by unfold Addr.add; split <;> simp_all
  rw [this]
  exact cell_of_row _ _ _ _ _ _ (heap_alloc_new w _)
theorem Bs.lit {w : World} {t : TypeId} {fr : Nat × Nat} {cs : Array Value} {n m k : Nat} (l : List UInt8) (hcs : cs = (l.map bv).toArray) (hn : w.heap.size = n) (hm : m = l.length) (h1 : m ≤ k) (h2 : k ≤ 9223372036854775807) : Bs (w.alloc (.cells cs t fr)) (.slice (some ⟨n, 0, none⟩) m k) l := by
  subst hcs hn hm
  exact Bs.of_cells h1 h2 fun j hj => by rw [cell_new]; simp [hj]
theorem Rws.keep {w w' : World} {v : Value} {ls : List (List UInt8)} (h : Rws w v ls) (k : Keep w w') : Rws w' v ls := by
  obtain ⟨A, c, e, h1, h2, h3⟩ := h
  exact ⟨A, c, e, h1, h2, fun hp => (h3 hp).imp fun ad ⟨ea, hc⟩ => ⟨ea, fun j hj => (hc j hj).imp fun u ⟨hu, hb⟩ => ⟨k.cell hu, hb.keep k⟩⟩⟩
theorem Rws.nil (w : World) : Rws w (.slice none 0 0) [] := ⟨none, 0, rfl, by simp, by omega, fun h => by simp at h⟩
theorem Rws.one {w : World} {v : Value} {l : List UInt8} (h : Bs w v l) (t : TypeId) {n : Nat} (hn : w.heap.size = n) : Rws (w.alloc (.cells #[v] t)) (.slice (some ⟨n, 0, none⟩) 1 1) [l] := by
  subst hn
  exact ⟨some ⟨w.heap.size, 0, none⟩, 1, rfl, by simp, by omega, fun _ => ⟨_, rfl, fun j hj => by
    have : j = 0 := by simpa using hj
    subst this
    exact ⟨v, by rw [cell_new]; rfl, h.keep ((Keep.rf w).al _)⟩⟩⟩
theorem Rws.two {w : World} {v v' : Value} {l l' : List UInt8} (h : Bs w v l) (h' : Bs w v' l') (t : TypeId) {n : Nat} (hn : w.heap.size = n) : Rws (w.alloc (.cells #[v, v'] t)) (.slice (some ⟨n, 0, none⟩) 2 2) [l, l'] := by
  subst hn
  exact ⟨some ⟨w.heap.size, 0, none⟩, 2, rfl, by simp, by omega, fun _ => ⟨_, rfl, fun j hj => by
    have : j = 0 ∨ j = 1 := by simp at hj; omega
    rcases this with rfl | rfl
    · exact ⟨v, by rw [cell_new]; rfl, h.keep ((Keep.rf w).al _)⟩
    · exact ⟨v', by rw [cell_new]; rfl, h'.keep ((Keep.rf w).al _)⟩⟩⟩
theorem ret_int {k : IntKind} {a b : Int} (h : a = b) : Ending.returned (.int k a) = .returned (.int k b) := by rw [h]
theorem take_snoc {α : Type} (l : List α) (k : Nat) (h : k < l.length) : l.take (k + 1) = l.take k ++ [l[k]] := by
  rw [List.take_succ_eq_append_getElem h]
end Go.Proofs.Ytilhglnfjaablaa
