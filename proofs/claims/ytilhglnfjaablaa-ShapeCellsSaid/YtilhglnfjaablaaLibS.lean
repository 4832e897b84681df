/- Words for the walks: bytes as a string. No program is named here. -/
import Derived.Test.YtilhglnfjaablaaLibA
import Derived.Laws.BytesArg
namespace Go.Proofs.Ytilhglnfjaablaa
open Go.RowKit
/-- Bytes as a string's own. -/
def str (l : List UInt8) : ByteArray := ⟨l.toArray⟩
theorem str_inj {a b : List UInt8} : str a = str b ↔ a = b := by
  constructor
  · intro h
    have := congrArg (fun s : ByteArray => s.data.toList) h
    simpa [str] using this
  · intro h
    rw [h]
theorem str_size (l : List UInt8) : (str l).size = l.length := by simp [str, ByteArray.size]
theorem str_of (s : ByteArray) : str s.data.toList = s := by simp [str]
theorem str_beq (a b : List UInt8) : (str a == str b) = decide (a = b) := by
  rw [Bool.eq_iff_iff, decide_eq_true_eq]
  constructor
  · intro h
    have : (a.toArray == b.toArray) = true := h
    simpa using this
  · intro h
    subst h
    show (a.toArray == a.toArray) = true
    simp
theorem str_list (a : List UInt8) : (str a).toList = a := by rw [ByteArray.toList_eq]; simp [str]
theorem str_lbeq (a b : List UInt8) : ((str a).toList == (str b).toList) = decide (a = b) := by
  rw [str_list, str_list, Bool.eq_iff_iff]
  simp
theorem str_bne (a b : List UInt8) : (str a != str b) = !decide (a = b) := by
  rw [bne, str_beq]
theorem strOfNums_bytes (l : List UInt8) : strOfNums (l.map fun b => (b.toNat : Int)) = str l := by
  unfold strOfNums str
  congr 2
  rw [List.map_map]
  conv => rhs; rw [← List.map_id l]
  apply List.map_congr_left
  intro b _
  simp
theorem run_conv_bs {P : Program} {w : World} {v : Value} {l : List UInt8} (h : Bs w v l) (src e dst : TypeId) (hs : P.underlying src = some (.slice e)) (he : P.underlying e = some (.int .u8)) (hd : P.underlying dst = some .string) :
    (convert src dst v).run P w = .ok (.string (str l)) w := by
  obtain ⟨A, c, rfl, h1, h2, h3⟩ := h
  rcases A with _ | ad
  · have h0 : l = [] := by
      rcases Nat.eq_zero_or_pos l.length with h0 | h0
      · exact List.eq_nil_of_length_eq_zero h0
      · obtain ⟨_, e, _⟩ := h3 h0
        cases e
    subst h0
    exact run_convert_bytes_nil w src e hs he 0 c dst hd
  · have hl : (loadCells ad l.length).run P w = .ok ((l.map fun b => (b.toNat : Int)).map (Value.int .u8)).toArray w := by
      have := run_loadCells_list (P := P) w ad ((l.map fun b => (b.toNat : Int)).map (Value.int .u8)) (fun j v hj => by
        obtain ⟨hjl, he⟩ := List.getElem?_eq_some_iff.1 hj
        simp only [List.length_map] at hjl
        obtain ⟨ad', e, hc⟩ := h3 (by omega)
        cases e
        rw [hc j hjl, ← he]
        simp [bv])
      simpa using this
    rw [run_convert_bytes_string w src dst e _ l.length c hs he hd, run_bytesToString w _ l.length c _ hl, foldl_push_bytes, ← strOfNums_bytes]
    simp [strOfNums, ByteArray.empty, ByteArray.emptyWithCapacity]
    rfl
end Go.Proofs.Ytilhglnfjaablaa
