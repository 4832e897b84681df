/- Words for the walks: a string as bytes. No program is named here. -/
import Derived.Test.YtilhglnfjaablaaLibS
import Derived.Lib.ConvBytes
import Derived.Laws.AppendOwn
import Derived.Lib.SlBytesConst
namespace Go.Proofs.Ytilhglnfjaablaa
open Go.RowKit
section
variable {P : Program}
theorem run_conv_const (w : World) (m : Nat) (hm : w.heap.size = m) (t e : TypeId) (C : Array Value) (n c : Nat) (ht : P.underlying t = some (.slice e)) (he : P.underlying e = some (.int .u8)) :
    (convert t t (.slice (some ⟨m, 0, none⟩) n c)).run P (w.alloc (.cells C e)) = .ok (.slice (some ⟨m, 0, none⟩) n c) (w.alloc (.cells C e (C.size, C.size + 1))) := by
  subst hm
  exact Lib.run_convert_bytes_const w t e C n c ht he
theorem bytesWorld_keep (w : World) (e : TypeId) (s : ByteArray) : Keep w (Lib.bytesWorld w e s) := by
  refine ⟨?_, ?_, ?_, ?_, fun i hi => Lib.bytesWorld_at_old w e s i hi⟩
  · simp [Lib.bytesWorld, World.freeze, World.alloc, World.drew, -World.alloc_eq, -World.drew_eq]
  · simp [Lib.bytesWorld, World.freeze, World.alloc, World.drew, -World.alloc_eq, -World.drew_eq]
  · simp [Lib.bytesWorld, World.freeze, World.alloc, World.drew, -World.alloc_eq, -World.drew_eq]
  · rw [Lib.bytesWorld_size]; omega
theorem bytesWorld_bs (w : World) (e : TypeId) (l : List UInt8) (hl : l.length ≤ 9223372036854775807) : Bs (Lib.bytesWorld w e (str l)) (.slice (some ⟨w.heap.size, 0, none⟩) l.length (grownCap w (str l).size 0 e)) l := by
  refine Bs.of_cells (by have := grownCap_ge w (str l).size 0 e; rw [str_size] at this; rw [str_size]; exact this) (by
    have := grownCap_le_maxLen w (str l).size 0 e (by rw [str_size]; simpa [maxLen] using hl)
    simpa [maxLen] using this) fun j hj => ?_
  rw [add_pl, Lib.bytesWorld_cell w e (str l) j (by rw [str_size]; exact hj)]
  simp [bv, str, List.getElem?_eq_getElem hj]
theorem wp_convS {w : World} {o : Oper} {a : Act} {K : Act → World → Prop} {Q : Exit → Act → World → Prop} (src dst e : TypeId) (x : Operand) (ho : o.op = .convert src dst x) (hs : P.underlying src = some .string) (hd : P.underlying dst = some (.slice e)) (he : P.underlying e = some (.int .u8))
    (l : List UInt8) (hv : a.eval x = .string (str l)) (hl : l.length ≤ 9223372036854775807)
    (h : ∀ A c W', Bs W' (.slice A l.length c) l → Keep w W' → K (a.put o.dst (.slice A l.length c)) W') : o.wp P a w K Q := by
  have hr := Lib.run_convert_string_bytes (P := P) w src dst e (str l) hs hd he
  unfold Oper.wp execOp
  simp only [ho, hv, Sem.run_bind, hr, Result.andThen_ok, Sem.run_pure]
  rw [str_size]
  have hb := bytesWorld_bs w e l hl
  rw [str_size] at hb
  exact h _ _ _ hb (bytesWorld_keep w e _)
theorem wpList_convS {w : World} {ops : Array Oper} {rest : List Oper} {o : Oper} {a : Act} {Q : Exit → Act → World → Prop} (hgd : o.guard = none) (src dst e : TypeId) (x : Operand) (ho : o.op = .convert src dst x) (hs : P.underlying src = some .string) (hd : P.underlying dst = some (.slice e)) (he : P.underlying e = some (.int .u8))
    (l : List UInt8) (hv : a.eval x = .string (str l)) (hl : l.length ≤ 9223372036854775807)
    (h : ∀ A c W', Bs W' (.slice A l.length c) l → Keep w W' → wpList P ops Q rest (a.put o.dst (.slice A l.length c)) W') : wpList P ops Q (o :: rest) a w :=
  wpList_plain hgd fun _ hK => wp_convS src dst e x ho hs hd he l hv hl fun A c W' h1 h2 => hK _ _ (h A c W' h1 h2)
end
end Go.Proofs.Ytilhglnfjaablaa
