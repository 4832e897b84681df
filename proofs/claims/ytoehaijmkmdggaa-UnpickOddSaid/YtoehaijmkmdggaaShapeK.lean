/- Walks: the laws' own check (shape); the law ShapePut. -/
import Derived.Test.YtoehaijmkmdggaaShapeO
namespace Go.Proofs.Ytoehaijmkmdggaa
open Go.RowKit
set_option linter.unusedVariables false
set_option maxRecDepth 100000
theorem intW_3 : intW 3 = 7 := by unfold intW; rw [IntKind.wrap_i64]; rfl
theorem wordsOf_all (s : List UInt8) : (wordsOf s).all Em.isB = true := by
  rw [List.all_eq_true]
  intro f hf
  obtain ⟨b, _, rfl⟩ := List.mem_map.1 hf
  have hb := b.toNat_lt
  have h1 := intW_odd (b.toNat : Int)
  have h2 := intW_back (b.toNat : Int) (by omega) (by omega)
  unfold Em.isB
  rw [h2, h1]
  rw [decide_eq_true (by omega), decide_eq_true (by omega)]
  rfl
theorem wordsOf_bytes (s : List UInt8) : (wordsOf s).map Em.byteOf = s := by
  unfold wordsOf
  rw [List.map_map]
  have : (Em.byteOf ∘ fun b : UInt8 => intW (b.toNat : Int)) = id := by
    funext b
    have hb := b.toNat_lt
    have h2 := intW_back (b.toNat : Int) (by omega) (by omega)
    simp only [Function.comp, Em.byteOf, h2, Int.toNat_natCast, id]
    exact UInt8.toNat.inj (by rw [UInt8.toNat_ofNat', Nat.mod_eq_of_lt hb])
  rw [this, List.map_id]
theorem textB_words (s : List UInt8) : Em.textB (wordsOf s) = some s := by
  unfold Em.textB
  rw [if_pos (wordsOf_all s), wordsOf_bytes]
end Go.Proofs.Ytoehaijmkmdggaa
