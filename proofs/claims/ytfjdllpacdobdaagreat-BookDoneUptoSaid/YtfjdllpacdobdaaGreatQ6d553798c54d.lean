/-
  Merged from Fe_stuck, Fe_more, FdTim, FoG, Fgp, Fe_gone, Fe_left.
-/
import Derived.Test.YtfjdllpacdobdaaGreatQ67e13da56d40
import Derived.Test.YtfjdllpacdobdaaGreatQ5e0e1d795d88
import Derived.Test.YtfjdllpacdobdaaGreatQ454fd6378163
import Derived.Maps.OwnOps
import Derived.Maps.OwnSet
import Derived.Maps.Views
import Derived.Laws.EntriesVeiled
/-
  The events that make a token stuck, or not. Printed by gfold2.py.
-/
set_option linter.unusedVariables false
set_option linter.unusedSimpArgs false
namespace Go.Proofs.YtfjdllpacdobdaaGreat
open Go Go.RowKit Go.Proofs.Base
open Go.Sort (grow)
end Go.Proofs.YtfjdllpacdobdaaGreat
/-
  fold.opened, varsOf, expired, matched. Printed by gfold2.py.
-/
set_option linter.unusedVariables false
set_option linter.unusedSimpArgs false
namespace Go.Proofs.YtfjdllpacdobdaaGreat
open Go Go.RowKit Go.Proofs.Base
open Go.Sort (grow)
end Go.Proofs.YtfjdllpacdobdaaGreat
/-
  slices.DeleteFunc, fold.without of Timer. Printed by gfold.py.
-/
set_option linter.unusedVariables false
set_option linter.unusedSimpArgs false
namespace Go.Proofs.YtfjdllpacdobdaaGreat
open Go Go.RowKit Go.Proofs.Base
open Go.Sort (grow)
end Go.Proofs.YtfjdllpacdobdaaGreat
/-
  The map of keys that are taken away.
-/
set_option linter.unusedVariables false
set_option linter.unusedSimpArgs false
namespace Go.Proofs.Base
open Go Go.RowKit Go.Maps
def deadStep (p : ETok → Bool) (D : DataW Unit) (x : ETok) : DataW Unit := if p x then D.put (.int .u64 x.key) (.lit (.bool true)) else D
def deadD (p : ETok → Bool) (l : List ETok) : DataW Unit := l.foldl (deadStep p) (.map [])
end Go.Proofs.Base
namespace Go.Proofs.YtfjdllpacdobdaaGreat
open Go Go.RowKit Go.Proofs.Base
abbrev Dead (w : World) (b n : Nat) (D : DataW Unit) : Prop := w.ownsMap Tryz.prog 22 (plainElem Tryz.prog 4) b n D
theorem dead_below {w w' : World} {b n : Nat} {D : DataW Unit} (h : Dead w b n D) (hb : Below w.heap.size w w') : Dead w' b n D := h.kept (row := none) (grown_of_below hb none) (by simp)
end Go.Proofs.YtfjdllpacdobdaaGreat
/-
  What goes with tokens. Printed by gfold2.py.
-/
set_option linter.unusedVariables false
set_option linter.unusedSimpArgs false
namespace Go.Proofs.YtfjdllpacdobdaaGreat
open Go Go.RowKit Go.Proofs.Base
open Go.Sort (grow)
end Go.Proofs.YtfjdllpacdobdaaGreat
/-
  fold.gone. Printed by gfold2.py.
-/
set_option linter.unusedVariables false
set_option linter.unusedSimpArgs false
namespace Go.Proofs.YtfjdllpacdobdaaGreat
open Go Go.RowKit Go.Proofs.Base
open Go.Sort (grow)
structure GStage (w : World) (ga : Nat) (lba : Array Value) (p : ETok → Bool) (l : List ETok) (B n : Nat) (W : World) : Prop where
  below : Below w.heap.size w W
  also : W.heap[w.heap.size + 1]? = some (.cells #[.func (.func ga) #[] lba] 55 (0, 0))
  mbox : W.heap[w.heap.size + 1 + 1 + 1 + 1]? = some (.cells #[.map (some (w.heap.size + 1 + 1 + 1))] 188 (0, 0))
  dead : Dead W (w.heap.size + 1 + 1 + 1) n (deadD p l)
  res : W.heap[w.heap.size + 1 + 1]? = some (.cells #[.int .u64 0, .int .u64 0, .int .u64 0, .slice none 0 0, .slice none 0 0, .slice none 0 0, .slice none 0 0, .slice none 0 0, .slice none 0 0, .slice none 0 0, .slice none 0 0, .slice none 0 0] 33 (0, 0))
  tbox : W.heap[B]? = some (.cells #[.func (.func 140) #[] #[.pointer (some ⟨w.heap.size + 1 + 1 + 1 + 1, 0, none⟩), .pointer (some ⟨w.heap.size + 1, 0, none⟩)]] 55 (0, 0))
  far : w.heap.size + 4 < B
theorem GStage.next {w : World} {ga : Nat} {lba : Array Value} {p : ETok → Bool} {l : List ETok} {B n : Nat} {W W' : World} (h : GStage w ga lba p l B n W) (hb : Below W.heap.size W W') : GStage w ga lba p l B n W' :=
  ⟨below2 h.below hb, block_below hb h.also, block_below hb h.mbox, dead_below h.dead hb, block_below hb h.res, block_below hb h.tbox, h.far⟩
theorem GStage.set {w : World} {ga : Nat} {lba : Array Value} {p : ETok → Bool} {l : List ETok} {B n : Nat} {W : World} (h : GStage w ga lba p l B n W) (o : Nat) (u : Value) : GStage w ga lba p l B n (W.setCell ⟨w.heap.size, o, none⟩ u) :=
  ⟨h.below.setCell (p := ⟨w.heap.size, o, none⟩) (Nat.le_refl _) u, blk_set_other h.also (by omega), blk_set_other h.mbox (by omega),
    h.dead.kept (row := some w.heap.size) (⟨rfl, rfl, rfl, by simp [World.setCell], fun b hb hn => Below.heap_setCell W ⟨w.heap.size, o, none⟩ u b (fun e => hn (by show some b = some w.heap.size; rw [show b = w.heap.size from e]))⟩) (by simp; omega), blk_set_other h.res (by omega), blk_set_other h.tbox (by have := h.far; omega), h.far⟩
end Go.Proofs.YtfjdllpacdobdaaGreat
/-
  fold.left, fold.ended. Printed by gfold2.py.
-/
set_option linter.unusedVariables false
set_option linter.unusedSimpArgs false
namespace Go.Proofs.YtfjdllpacdobdaaGreat
open Go Go.RowKit Go.Proofs.Base
open Go.Sort (grow)
end Go.Proofs.YtfjdllpacdobdaaGreat
