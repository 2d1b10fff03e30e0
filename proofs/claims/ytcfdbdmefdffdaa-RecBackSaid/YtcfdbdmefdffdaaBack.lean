/-
  The walk of the law RecBack, all ways.
-/
import Derived.Test.YtcfdbdmefdffdaaBackB
import Derived.Test.YtcfdbdmefdffdaaBackC
import Derived.Test.YtcfdbdmefdffdaaBackD
set_option linter.unusedVariables false
set_option linter.unusedSimpArgs false
namespace Go.Proofs.Ytcfdbdmefdffdaa
open Go Go.RowKit Go.Proofs.Base

theorem law_RecBack (r : GRec) (vv : Value) (S : Nat → Prop) (i : Int) (w : World) (h1 : Row w S 4 r.vars.length vv (varCells r.vars)) (hw : r.wf) :
    Calls Try.prog 7 #[.agg #[.int .i64 r.cls, .int .i64 r.kind, .int .u64 r.frm, .int .i64 r.time, .int .u64 r.key, .int .u64 r.key2, .int .u64 r.key3, .int .i64 r.n, .int .i64 r.m, .string r.a, .string r.b, .string r.c, vv], .int .i64 i] w fun e w' => e = .returned (.bool true) ∧ Below w.heap.size w w' := by
  obtain ⟨A1, c1, rfl, _, _⟩ := h1.open_
  cases hm : recMay r with
  | false => exact recBack_0 r A1 c1 S i w h1 hw hm
  | true =>
    by_cases hi : i < 0
    · exact recBack_1 r A1 c1 S i w h1 hw hm hi
    · by_cases hj : ((recText r).size : Int) ≤ i
      · exact recBack_2 r A1 c1 S i w h1 hw hm hi hj
      · exact recBack_3 r A1 c1 S i w h1 hw hm hi hj
end Go.Proofs.Ytcfdbdmefdffdaa
