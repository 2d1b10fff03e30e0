/-
  rec.Take: what it takes, and its walk. Printed by gentake.py.
-/
import Derived.Test.YtcfdbdmefdffdaaRecD
import Derived.Test.YtcfdbdmefdffdaaReadB
import Derived.Test.YtcfdbdmefdffdaaValE
set_option linter.unusedVariables false
set_option linter.unusedSimpArgs false
namespace Go.Proofs.Ytcfdbdmefdffdaa
open Go Go.RowKit Go.Proofs.Base
open Go.Sort (grow)

/-- while a record is taken: the reader, the result's block, the record's block -/
structure TakeAt (w W : World) (g b2 b5 : Nat) (s : ByteArray) (e : Nat) (cs : Array Value) : Prop where
  rdr : Rdr W g s e
  res : W.heap[b2]? = some (.cells #[.int .i64 0, .int .i64 0, .int .u64 0, .int .i64 0, .int .u64 0, .int .u64 0, .int .u64 0, .int .i64 0, .int .i64 0, .string ⟨#[]⟩, .string ⟨#[]⟩, .string ⟨#[]⟩, .slice none 0 0] 25 (0, 0))
  rcd : W.heap[b5]? = some (.cells cs 25 (0, 0))
  low : Below w.heap.size w W
  n2 : w.heap.size ≤ b2
  ng : b2 < g
  n5 : g < b5
theorem TakeAt.call {w W W' : World} {g b2 b5 : Nat} {s s' : ByteArray} {e e' : Nat} {cs : Array Value} (h : TakeAt w W g b2 b5 s e cs) (hq : Rdr W' g s' e') (hm : Mut (fun b => b = g) W W') : TakeAt w W' g b2 b5 s' e' cs :=
  ⟨hq, hm.blk h.res (by have := h.ng; omega), hm.blk h.rcd (by have := h.n5; omega), ⟨hm.os.trans h.low.os, hm.tape.trans h.low.tape, hm.output.trans h.low.output, Nat.le_trans h.low.size hm.size, fun k hk => (hm.block k (Nat.lt_of_lt_of_le hk h.low.size) (by have := h.ng; have := h.n2; omega)).trans (h.low.block k hk)⟩, h.n2, h.ng, h.n5⟩
theorem TakeAt.set {w W : World} {g b2 b5 : Nat} {s : ByteArray} {e : Nat} {cs : Array Value} (h : TakeAt w W g b2 b5 s e cs) (j : Nat) (v : Value) : TakeAt w (W.setCell ⟨b5, j, none⟩ v) g b2 b5 s e (cs.setIfInBounds j v) := by
  have h2 := h.n2; have hg := h.ng; have h5 := h.n5
  refine ⟨?_, ?_, set_blk h.rcd v, h.low.setCell (show w.heap.size ≤ b5 by omega) v, h2, hg, h5⟩
  · unfold Rdr
    rw [Below.heap_setCell _ _ _ _ (show g ≠ b5 by omega)]
    exact h.rdr
  · rw [Below.heap_setCell _ _ _ _ (show b2 ≠ b5 by omega)]
    exact h.res
theorem TakeAt.below {w W W' : World} {g b2 b5 : Nat} {s : ByteArray} {e : Nat} {cs : Array Value} (h : TakeAt w W g b2 b5 s e cs) (hb : Below W.heap.size W W') : TakeAt w W' g b2 b5 s e cs :=
  ⟨block_below hb h.rdr, block_below hb h.res, block_below hb h.rcd, below2 h.low hb, h.n2, h.ng, h.n5⟩
theorem set_blk13 {w : World} {b : Nat} {x0 x1 x2 x3 x4 x5 x6 x7 x8 x9 x10 x11 x12 : Value} {t : TypeId} {f : Nat × Nat} (h : w.heap[b]? = some (.cells #[x0, x1, x2, x3, x4, x5, x6, x7, x8, x9, x10, x11, x12] t f)) (y0 y1 y2 y3 y4 y5 y6 y7 y8 y9 y10 y11 y12 : Value) :
    (((((((((((((w.setCell ⟨b, 0, none⟩ y0).setCell ⟨b, 1, none⟩ y1).setCell ⟨b, 2, none⟩ y2).setCell ⟨b, 3, none⟩ y3).setCell ⟨b, 4, none⟩ y4).setCell ⟨b, 5, none⟩ y5).setCell ⟨b, 6, none⟩ y6).setCell ⟨b, 7, none⟩ y7).setCell ⟨b, 8, none⟩ y8).setCell ⟨b, 9, none⟩ y9).setCell ⟨b, 10, none⟩ y10).setCell ⟨b, 11, none⟩ y11).setCell ⟨b, 12, none⟩ y12).heap[b]? = some (.cells #[y0, y1, y2, y3, y4, y5, y6, y7, y8, y9, y10, y11, y12] t f) := by
  have h0 : (w.setCell ⟨b, 0, none⟩ y0).heap[b]? = some (.cells #[y0, x1, x2, x3, x4, x5, x6, x7, x8, x9, x10, x11, x12] t f) := set_blk h y0
  have h1 : ((w.setCell ⟨b, 0, none⟩ y0).setCell ⟨b, 1, none⟩ y1).heap[b]? = some (.cells #[y0, y1, x2, x3, x4, x5, x6, x7, x8, x9, x10, x11, x12] t f) := set_blk h0 y1
  have h2 : (((w.setCell ⟨b, 0, none⟩ y0).setCell ⟨b, 1, none⟩ y1).setCell ⟨b, 2, none⟩ y2).heap[b]? = some (.cells #[y0, y1, y2, x3, x4, x5, x6, x7, x8, x9, x10, x11, x12] t f) := set_blk h1 y2
  have h3 : ((((w.setCell ⟨b, 0, none⟩ y0).setCell ⟨b, 1, none⟩ y1).setCell ⟨b, 2, none⟩ y2).setCell ⟨b, 3, none⟩ y3).heap[b]? = some (.cells #[y0, y1, y2, y3, x4, x5, x6, x7, x8, x9, x10, x11, x12] t f) := set_blk h2 y3
  have h4 : (((((w.setCell ⟨b, 0, none⟩ y0).setCell ⟨b, 1, none⟩ y1).setCell ⟨b, 2, none⟩ y2).setCell ⟨b, 3, none⟩ y3).setCell ⟨b, 4, none⟩ y4).heap[b]? = some (.cells #[y0, y1, y2, y3, y4, x5, x6, x7, x8, x9, x10, x11, x12] t f) := set_blk h3 y4
  have h5 : ((((((w.setCell ⟨b, 0, none⟩ y0).setCell ⟨b, 1, none⟩ y1).setCell ⟨b, 2, none⟩ y2).setCell ⟨b, 3, none⟩ y3).setCell ⟨b, 4, none⟩ y4).setCell ⟨b, 5, none⟩ y5).heap[b]? = some (.cells #[y0, y1, y2, y3, y4, y5, x6, x7, x8, x9, x10, x11, x12] t f) := set_blk h4 y5
  have h6 : (((((((w.setCell ⟨b, 0, none⟩ y0).setCell ⟨b, 1, none⟩ y1).setCell ⟨b, 2, none⟩ y2).setCell ⟨b, 3, none⟩ y3).setCell ⟨b, 4, none⟩ y4).setCell ⟨b, 5, none⟩ y5).setCell ⟨b, 6, none⟩ y6).heap[b]? = some (.cells #[y0, y1, y2, y3, y4, y5, y6, x7, x8, x9, x10, x11, x12] t f) := set_blk h5 y6
  have h7 : ((((((((w.setCell ⟨b, 0, none⟩ y0).setCell ⟨b, 1, none⟩ y1).setCell ⟨b, 2, none⟩ y2).setCell ⟨b, 3, none⟩ y3).setCell ⟨b, 4, none⟩ y4).setCell ⟨b, 5, none⟩ y5).setCell ⟨b, 6, none⟩ y6).setCell ⟨b, 7, none⟩ y7).heap[b]? = some (.cells #[y0, y1, y2, y3, y4, y5, y6, y7, x8, x9, x10, x11, x12] t f) := set_blk h6 y7
  have h8 : (((((((((w.setCell ⟨b, 0, none⟩ y0).setCell ⟨b, 1, none⟩ y1).setCell ⟨b, 2, none⟩ y2).setCell ⟨b, 3, none⟩ y3).setCell ⟨b, 4, none⟩ y4).setCell ⟨b, 5, none⟩ y5).setCell ⟨b, 6, none⟩ y6).setCell ⟨b, 7, none⟩ y7).setCell ⟨b, 8, none⟩ y8).heap[b]? = some (.cells #[y0, y1, y2, y3, y4, y5, y6, y7, y8, x9, x10, x11, x12] t f) := set_blk h7 y8
  have h9 : ((((((((((w.setCell ⟨b, 0, none⟩ y0).setCell ⟨b, 1, none⟩ y1).setCell ⟨b, 2, none⟩ y2).setCell ⟨b, 3, none⟩ y3).setCell ⟨b, 4, none⟩ y4).setCell ⟨b, 5, none⟩ y5).setCell ⟨b, 6, none⟩ y6).setCell ⟨b, 7, none⟩ y7).setCell ⟨b, 8, none⟩ y8).setCell ⟨b, 9, none⟩ y9).heap[b]? = some (.cells #[y0, y1, y2, y3, y4, y5, y6, y7, y8, y9, x10, x11, x12] t f) := set_blk h8 y9
  have h10 : (((((((((((w.setCell ⟨b, 0, none⟩ y0).setCell ⟨b, 1, none⟩ y1).setCell ⟨b, 2, none⟩ y2).setCell ⟨b, 3, none⟩ y3).setCell ⟨b, 4, none⟩ y4).setCell ⟨b, 5, none⟩ y5).setCell ⟨b, 6, none⟩ y6).setCell ⟨b, 7, none⟩ y7).setCell ⟨b, 8, none⟩ y8).setCell ⟨b, 9, none⟩ y9).setCell ⟨b, 10, none⟩ y10).heap[b]? = some (.cells #[y0, y1, y2, y3, y4, y5, y6, y7, y8, y9, y10, x11, x12] t f) := set_blk h9 y10
  have h11 : ((((((((((((w.setCell ⟨b, 0, none⟩ y0).setCell ⟨b, 1, none⟩ y1).setCell ⟨b, 2, none⟩ y2).setCell ⟨b, 3, none⟩ y3).setCell ⟨b, 4, none⟩ y4).setCell ⟨b, 5, none⟩ y5).setCell ⟨b, 6, none⟩ y6).setCell ⟨b, 7, none⟩ y7).setCell ⟨b, 8, none⟩ y8).setCell ⟨b, 9, none⟩ y9).setCell ⟨b, 10, none⟩ y10).setCell ⟨b, 11, none⟩ y11).heap[b]? = some (.cells #[y0, y1, y2, y3, y4, y5, y6, y7, y8, y9, y10, y11, x12] t f) := set_blk h10 y11
  have h12 : (((((((((((((w.setCell ⟨b, 0, none⟩ y0).setCell ⟨b, 1, none⟩ y1).setCell ⟨b, 2, none⟩ y2).setCell ⟨b, 3, none⟩ y3).setCell ⟨b, 4, none⟩ y4).setCell ⟨b, 5, none⟩ y5).setCell ⟨b, 6, none⟩ y6).setCell ⟨b, 7, none⟩ y7).setCell ⟨b, 8, none⟩ y8).setCell ⟨b, 9, none⟩ y9).setCell ⟨b, 10, none⟩ y10).setCell ⟨b, 11, none⟩ y11).setCell ⟨b, 12, none⟩ y12).heap[b]? = some (.cells #[y0, y1, y2, y3, y4, y5, y6, y7, y8, y9, y10, y11, y12] t f) := set_blk h11 y12
  exact h12
end Go.Proofs.Ytcfdbdmefdffdaa
