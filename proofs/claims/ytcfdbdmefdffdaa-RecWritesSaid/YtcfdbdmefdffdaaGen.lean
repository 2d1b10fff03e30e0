/-
  Merged from SameC1, SameC2, SameC3, SameC4, SameC5, SameC, RecD, RecE, Ref01, Gen.
-/
import Derived.Test.YtcfdbdmefdffdaaSameC0
/-
  The walk of the reference's Same of records, ways [3, 4, 5]. Printed by gensamec.py.
-/
set_option linter.unusedVariables false
set_option linter.unusedSimpArgs false
namespace Go.Proofs.Ytcfdbdmefdffdaa
open Go Go.RowKit Go.Proofs.Base
open Go.Sort (grow)
set_option maxRecDepth 100000 in
set_option maxHeartbeats 8000000 in
theorem ref12_Same_4 (r s : GRec) (A1 A2 : Option Addr) (c1 c2 : Nat) (S : Nat → Prop) (w : World) (h1 : Row w S 4 r.vars.length (.slice A1 r.vars.length c1) (varCells r.vars)) (h2 : Row w S 4 s.vars.length (.slice A2 s.vars.length c2) (varCells s.vars)) (ht : (true = true) ↔ r.vars = s.vars) (g0 : (r.cls == s.cls) = true) (g1 : (r.kind == s.kind) = true) (g2 : (r.frm == s.frm) = true) (g3 : (r.time == s.time) = false) :
    Calls Try.prog 14 #[.agg #[.int .i64 r.cls, .int .i64 r.kind, .int .u64 r.frm, .int .i64 r.time, .int .u64 r.key, .int .u64 r.key2, .int .u64 r.key3, .int .i64 r.n, .int .i64 r.m, .string r.a, .string r.b, .string r.c, .slice A1 r.vars.length c1], .agg #[.int .i64 s.cls, .int .i64 s.kind, .int .u64 s.frm, .int .i64 s.time, .int .u64 s.key, .int .u64 s.key2, .int .u64 s.key3, .int .i64 s.n, .int .i64 s.m, .string s.a, .string s.b, .string s.c, .slice A2 s.vars.length c2]] w fun e w' => e = .returned (.bool false) ∧ Below w.heap.size w w' := by
  have hb : Below w.heap.size w ((w.alloc (.cells #[.int .i64 r.cls, .int .i64 r.kind, .int .u64 r.frm, .int .i64 r.time, .int .u64 r.key, .int .u64 r.key2, .int .u64 r.key3, .int .i64 r.n, .int .i64 r.m, .string r.a, .string r.b, .string r.c, .slice A1 r.vars.length c1] 25)).alloc (.cells #[.int .i64 s.cls, .int .i64 s.kind, .int .u64 s.frm, .int .i64 s.time, .int .u64 s.key, .int .u64 s.key2, .int .u64 s.key3, .int .i64 s.n, .int .i64 s.m, .string s.a, .string s.b, .string s.c, .slice A2 s.vars.length c2] 25)) := ((Below.refl _ _).alloc (Nat.le_refl _) _).alloc (by simp) _
  have b1 : ((w.alloc (.cells #[.int .i64 r.cls, .int .i64 r.kind, .int .u64 r.frm, .int .i64 r.time, .int .u64 r.key, .int .u64 r.key2, .int .u64 r.key3, .int .i64 r.n, .int .i64 r.m, .string r.a, .string r.b, .string r.c, .slice A1 r.vars.length c1] 25)).alloc (.cells #[.int .i64 s.cls, .int .i64 s.kind, .int .u64 s.frm, .int .i64 s.time, .int .u64 s.key, .int .u64 s.key2, .int .u64 s.key3, .int .i64 s.n, .int .i64 s.m, .string s.a, .string s.b, .string s.c, .slice A2 s.vars.length c2] 25)).heap[w.heap.size]? = some (.cells #[.int .i64 r.cls, .int .i64 r.kind, .int .u64 r.frm, .int .i64 r.time, .int .u64 r.key, .int .u64 r.key2, .int .u64 r.key3, .int .i64 r.n, .int .i64 r.m, .string r.a, .string r.b, .string r.c, .slice A1 r.vars.length c1] 25 (0, 0)) := blk_old _ (blk_new _ _ rfl)
  have b2 : ((w.alloc (.cells #[.int .i64 r.cls, .int .i64 r.kind, .int .u64 r.frm, .int .i64 r.time, .int .u64 r.key, .int .u64 r.key2, .int .u64 r.key3, .int .i64 r.n, .int .i64 r.m, .string r.a, .string r.b, .string r.c, .slice A1 r.vars.length c1] 25)).alloc (.cells #[.int .i64 s.cls, .int .i64 s.kind, .int .u64 s.frm, .int .i64 s.time, .int .u64 s.key, .int .u64 s.key2, .int .u64 s.key3, .int .i64 s.n, .int .i64 s.m, .string s.a, .string s.b, .string s.c, .slice A2 s.vars.length c2] 25)).heap[w.heap.size + 1]? = some (.cells #[.int .i64 s.cls, .int .i64 s.kind, .int .u64 s.frm, .int .i64 s.time, .int .u64 s.key, .int .u64 s.key2, .int .u64 s.key3, .int .i64 s.n, .int .i64 s.m, .string s.a, .string s.b, .string s.c, .slice A2 s.vars.length c2] 25 (0, 0)) := blk_new _ _ (by simp)
  have H1 := Lib.hid (h1.below hb)
  have H2 := Lib.hid (h2.below hb)
  have HB := Lib.hid hb
  have HB1 := Lib.hid b1
  have HB2 := Lib.hid b2
  have HTV := Lib.hid ht
  clear hb b1 b2 h1 h2 ht
  go_enter Try.func14, Try.ntmps14
  go_wp2_with (go_at_call 24; refine (ref9_Same S r.vars s.vars _ _ _ _ true _ rfl rfl H1.out H2.out HTV.out).mono ?_; rintro e w1 ⟨rfl, hb1⟩; have B1 := block_below hb1 HB1.out; have B2 := block_below hb1 HB2.out; have p0 := (cell_of_blk B1 0).trans (rfl : _ = some (Value.int .i64 r.cls)); have p1 := (cell_of_blk B1 1).trans (rfl : _ = some (Value.int .i64 r.kind)); have p2 := (cell_of_blk B1 2).trans (rfl : _ = some (Value.int .u64 r.frm)); have p3 := (cell_of_blk B1 3).trans (rfl : _ = some (Value.int .i64 r.time)); have q0 := (cell_of_blk B2 0).trans (rfl : _ = some (Value.int .i64 s.cls)); have q1 := (cell_of_blk B2 1).trans (rfl : _ = some (Value.int .i64 s.kind)); have q2 := (cell_of_blk B2 2).trans (rfl : _ = some (Value.int .u64 s.frm)); have q3 := (cell_of_blk B2 3).trans (rfl : _ = some (Value.int .i64 s.time)); have HB9 := Lib.hid (below2 HB.out hb1); clear B1 B2 hb1 HB1 HB2 HB H1 H2 HTV)
  go_ret
  exact ⟨rfl, HB9.out⟩
set_option maxRecDepth 100000 in
set_option maxHeartbeats 8000000 in
theorem ref12_Same_5 (r s : GRec) (A1 A2 : Option Addr) (c1 c2 : Nat) (S : Nat → Prop) (w : World) (h1 : Row w S 4 r.vars.length (.slice A1 r.vars.length c1) (varCells r.vars)) (h2 : Row w S 4 s.vars.length (.slice A2 s.vars.length c2) (varCells s.vars)) (ht : (true = true) ↔ r.vars = s.vars) (g0 : (r.cls == s.cls) = true) (g1 : (r.kind == s.kind) = true) (g2 : (r.frm == s.frm) = true) (g3 : (r.time == s.time) = true) (g4 : (r.key == s.key) = false) :
    Calls Try.prog 14 #[.agg #[.int .i64 r.cls, .int .i64 r.kind, .int .u64 r.frm, .int .i64 r.time, .int .u64 r.key, .int .u64 r.key2, .int .u64 r.key3, .int .i64 r.n, .int .i64 r.m, .string r.a, .string r.b, .string r.c, .slice A1 r.vars.length c1], .agg #[.int .i64 s.cls, .int .i64 s.kind, .int .u64 s.frm, .int .i64 s.time, .int .u64 s.key, .int .u64 s.key2, .int .u64 s.key3, .int .i64 s.n, .int .i64 s.m, .string s.a, .string s.b, .string s.c, .slice A2 s.vars.length c2]] w fun e w' => e = .returned (.bool false) ∧ Below w.heap.size w w' := by
  have hb : Below w.heap.size w ((w.alloc (.cells #[.int .i64 r.cls, .int .i64 r.kind, .int .u64 r.frm, .int .i64 r.time, .int .u64 r.key, .int .u64 r.key2, .int .u64 r.key3, .int .i64 r.n, .int .i64 r.m, .string r.a, .string r.b, .string r.c, .slice A1 r.vars.length c1] 25)).alloc (.cells #[.int .i64 s.cls, .int .i64 s.kind, .int .u64 s.frm, .int .i64 s.time, .int .u64 s.key, .int .u64 s.key2, .int .u64 s.key3, .int .i64 s.n, .int .i64 s.m, .string s.a, .string s.b, .string s.c, .slice A2 s.vars.length c2] 25)) := ((Below.refl _ _).alloc (Nat.le_refl _) _).alloc (by simp) _
  have b1 : ((w.alloc (.cells #[.int .i64 r.cls, .int .i64 r.kind, .int .u64 r.frm, .int .i64 r.time, .int .u64 r.key, .int .u64 r.key2, .int .u64 r.key3, .int .i64 r.n, .int .i64 r.m, .string r.a, .string r.b, .string r.c, .slice A1 r.vars.length c1] 25)).alloc (.cells #[.int .i64 s.cls, .int .i64 s.kind, .int .u64 s.frm, .int .i64 s.time, .int .u64 s.key, .int .u64 s.key2, .int .u64 s.key3, .int .i64 s.n, .int .i64 s.m, .string s.a, .string s.b, .string s.c, .slice A2 s.vars.length c2] 25)).heap[w.heap.size]? = some (.cells #[.int .i64 r.cls, .int .i64 r.kind, .int .u64 r.frm, .int .i64 r.time, .int .u64 r.key, .int .u64 r.key2, .int .u64 r.key3, .int .i64 r.n, .int .i64 r.m, .string r.a, .string r.b, .string r.c, .slice A1 r.vars.length c1] 25 (0, 0)) := blk_old _ (blk_new _ _ rfl)
  have b2 : ((w.alloc (.cells #[.int .i64 r.cls, .int .i64 r.kind, .int .u64 r.frm, .int .i64 r.time, .int .u64 r.key, .int .u64 r.key2, .int .u64 r.key3, .int .i64 r.n, .int .i64 r.m, .string r.a, .string r.b, .string r.c, .slice A1 r.vars.length c1] 25)).alloc (.cells #[.int .i64 s.cls, .int .i64 s.kind, .int .u64 s.frm, .int .i64 s.time, .int .u64 s.key, .int .u64 s.key2, .int .u64 s.key3, .int .i64 s.n, .int .i64 s.m, .string s.a, .string s.b, .string s.c, .slice A2 s.vars.length c2] 25)).heap[w.heap.size + 1]? = some (.cells #[.int .i64 s.cls, .int .i64 s.kind, .int .u64 s.frm, .int .i64 s.time, .int .u64 s.key, .int .u64 s.key2, .int .u64 s.key3, .int .i64 s.n, .int .i64 s.m, .string s.a, .string s.b, .string s.c, .slice A2 s.vars.length c2] 25 (0, 0)) := blk_new _ _ (by simp)
  have H1 := Lib.hid (h1.below hb)
  have H2 := Lib.hid (h2.below hb)
  have HB := Lib.hid hb
  have HB1 := Lib.hid b1
  have HB2 := Lib.hid b2
  have HTV := Lib.hid ht
  clear hb b1 b2 h1 h2 ht
  go_enter Try.func14, Try.ntmps14
  go_wp2_with (go_at_call 24; refine (ref9_Same S r.vars s.vars _ _ _ _ true _ rfl rfl H1.out H2.out HTV.out).mono ?_; rintro e w1 ⟨rfl, hb1⟩; have B1 := block_below hb1 HB1.out; have B2 := block_below hb1 HB2.out; have p0 := (cell_of_blk B1 0).trans (rfl : _ = some (Value.int .i64 r.cls)); have p1 := (cell_of_blk B1 1).trans (rfl : _ = some (Value.int .i64 r.kind)); have p2 := (cell_of_blk B1 2).trans (rfl : _ = some (Value.int .u64 r.frm)); have p3 := (cell_of_blk B1 3).trans (rfl : _ = some (Value.int .i64 r.time)); have p4 := (cell_of_blk B1 4).trans (rfl : _ = some (Value.int .u64 r.key)); have q0 := (cell_of_blk B2 0).trans (rfl : _ = some (Value.int .i64 s.cls)); have q1 := (cell_of_blk B2 1).trans (rfl : _ = some (Value.int .i64 s.kind)); have q2 := (cell_of_blk B2 2).trans (rfl : _ = some (Value.int .u64 s.frm)); have q3 := (cell_of_blk B2 3).trans (rfl : _ = some (Value.int .i64 s.time)); have q4 := (cell_of_blk B2 4).trans (rfl : _ = some (Value.int .u64 s.key)); have HB9 := Lib.hid (below2 HB.out hb1); clear B1 B2 hb1 HB1 HB2 HB H1 H2 HTV)
  go_ret
  exact ⟨rfl, HB9.out⟩
set_option maxRecDepth 100000 in
set_option maxHeartbeats 8000000 in
theorem ref12_Same_6 (r s : GRec) (A1 A2 : Option Addr) (c1 c2 : Nat) (S : Nat → Prop) (w : World) (h1 : Row w S 4 r.vars.length (.slice A1 r.vars.length c1) (varCells r.vars)) (h2 : Row w S 4 s.vars.length (.slice A2 s.vars.length c2) (varCells s.vars)) (ht : (true = true) ↔ r.vars = s.vars) (g0 : (r.cls == s.cls) = true) (g1 : (r.kind == s.kind) = true) (g2 : (r.frm == s.frm) = true) (g3 : (r.time == s.time) = true) (g4 : (r.key == s.key) = true) (g5 : (r.key2 == s.key2) = false) :
    Calls Try.prog 14 #[.agg #[.int .i64 r.cls, .int .i64 r.kind, .int .u64 r.frm, .int .i64 r.time, .int .u64 r.key, .int .u64 r.key2, .int .u64 r.key3, .int .i64 r.n, .int .i64 r.m, .string r.a, .string r.b, .string r.c, .slice A1 r.vars.length c1], .agg #[.int .i64 s.cls, .int .i64 s.kind, .int .u64 s.frm, .int .i64 s.time, .int .u64 s.key, .int .u64 s.key2, .int .u64 s.key3, .int .i64 s.n, .int .i64 s.m, .string s.a, .string s.b, .string s.c, .slice A2 s.vars.length c2]] w fun e w' => e = .returned (.bool false) ∧ Below w.heap.size w w' := by
  have hb : Below w.heap.size w ((w.alloc (.cells #[.int .i64 r.cls, .int .i64 r.kind, .int .u64 r.frm, .int .i64 r.time, .int .u64 r.key, .int .u64 r.key2, .int .u64 r.key3, .int .i64 r.n, .int .i64 r.m, .string r.a, .string r.b, .string r.c, .slice A1 r.vars.length c1] 25)).alloc (.cells #[.int .i64 s.cls, .int .i64 s.kind, .int .u64 s.frm, .int .i64 s.time, .int .u64 s.key, .int .u64 s.key2, .int .u64 s.key3, .int .i64 s.n, .int .i64 s.m, .string s.a, .string s.b, .string s.c, .slice A2 s.vars.length c2] 25)) := ((Below.refl _ _).alloc (Nat.le_refl _) _).alloc (by simp) _
  have b1 : ((w.alloc (.cells #[.int .i64 r.cls, .int .i64 r.kind, .int .u64 r.frm, .int .i64 r.time, .int .u64 r.key, .int .u64 r.key2, .int .u64 r.key3, .int .i64 r.n, .int .i64 r.m, .string r.a, .string r.b, .string r.c, .slice A1 r.vars.length c1] 25)).alloc (.cells #[.int .i64 s.cls, .int .i64 s.kind, .int .u64 s.frm, .int .i64 s.time, .int .u64 s.key, .int .u64 s.key2, .int .u64 s.key3, .int .i64 s.n, .int .i64 s.m, .string s.a, .string s.b, .string s.c, .slice A2 s.vars.length c2] 25)).heap[w.heap.size]? = some (.cells #[.int .i64 r.cls, .int .i64 r.kind, .int .u64 r.frm, .int .i64 r.time, .int .u64 r.key, .int .u64 r.key2, .int .u64 r.key3, .int .i64 r.n, .int .i64 r.m, .string r.a, .string r.b, .string r.c, .slice A1 r.vars.length c1] 25 (0, 0)) := blk_old _ (blk_new _ _ rfl)
  have b2 : ((w.alloc (.cells #[.int .i64 r.cls, .int .i64 r.kind, .int .u64 r.frm, .int .i64 r.time, .int .u64 r.key, .int .u64 r.key2, .int .u64 r.key3, .int .i64 r.n, .int .i64 r.m, .string r.a, .string r.b, .string r.c, .slice A1 r.vars.length c1] 25)).alloc (.cells #[.int .i64 s.cls, .int .i64 s.kind, .int .u64 s.frm, .int .i64 s.time, .int .u64 s.key, .int .u64 s.key2, .int .u64 s.key3, .int .i64 s.n, .int .i64 s.m, .string s.a, .string s.b, .string s.c, .slice A2 s.vars.length c2] 25)).heap[w.heap.size + 1]? = some (.cells #[.int .i64 s.cls, .int .i64 s.kind, .int .u64 s.frm, .int .i64 s.time, .int .u64 s.key, .int .u64 s.key2, .int .u64 s.key3, .int .i64 s.n, .int .i64 s.m, .string s.a, .string s.b, .string s.c, .slice A2 s.vars.length c2] 25 (0, 0)) := blk_new _ _ (by simp)
  have H1 := Lib.hid (h1.below hb)
  have H2 := Lib.hid (h2.below hb)
  have HB := Lib.hid hb
  have HB1 := Lib.hid b1
  have HB2 := Lib.hid b2
  have HTV := Lib.hid ht
  clear hb b1 b2 h1 h2 ht
  go_enter Try.func14, Try.ntmps14
  go_wp2_with (go_at_call 24; refine (ref9_Same S r.vars s.vars _ _ _ _ true _ rfl rfl H1.out H2.out HTV.out).mono ?_; rintro e w1 ⟨rfl, hb1⟩; have B1 := block_below hb1 HB1.out; have B2 := block_below hb1 HB2.out; have p0 := (cell_of_blk B1 0).trans (rfl : _ = some (Value.int .i64 r.cls)); have p1 := (cell_of_blk B1 1).trans (rfl : _ = some (Value.int .i64 r.kind)); have p2 := (cell_of_blk B1 2).trans (rfl : _ = some (Value.int .u64 r.frm)); have p3 := (cell_of_blk B1 3).trans (rfl : _ = some (Value.int .i64 r.time)); have p4 := (cell_of_blk B1 4).trans (rfl : _ = some (Value.int .u64 r.key)); have p5 := (cell_of_blk B1 5).trans (rfl : _ = some (Value.int .u64 r.key2)); have q0 := (cell_of_blk B2 0).trans (rfl : _ = some (Value.int .i64 s.cls)); have q1 := (cell_of_blk B2 1).trans (rfl : _ = some (Value.int .i64 s.kind)); have q2 := (cell_of_blk B2 2).trans (rfl : _ = some (Value.int .u64 s.frm)); have q3 := (cell_of_blk B2 3).trans (rfl : _ = some (Value.int .i64 s.time)); have q4 := (cell_of_blk B2 4).trans (rfl : _ = some (Value.int .u64 s.key)); have q5 := (cell_of_blk B2 5).trans (rfl : _ = some (Value.int .u64 s.key2)); have HB9 := Lib.hid (below2 HB.out hb1); clear B1 B2 hb1 HB1 HB2 HB H1 H2 HTV)
  go_ret
  exact ⟨rfl, HB9.out⟩
end Go.Proofs.Ytcfdbdmefdffdaa
/-
  The walk of the reference's Same of records, ways [6, 7]. Printed by gensamec.py.
-/
set_option linter.unusedVariables false
set_option linter.unusedSimpArgs false
namespace Go.Proofs.Ytcfdbdmefdffdaa
open Go Go.RowKit Go.Proofs.Base
open Go.Sort (grow)
set_option maxRecDepth 100000 in
set_option maxHeartbeats 8000000 in
theorem ref12_Same_7 (r s : GRec) (A1 A2 : Option Addr) (c1 c2 : Nat) (S : Nat → Prop) (w : World) (h1 : Row w S 4 r.vars.length (.slice A1 r.vars.length c1) (varCells r.vars)) (h2 : Row w S 4 s.vars.length (.slice A2 s.vars.length c2) (varCells s.vars)) (ht : (true = true) ↔ r.vars = s.vars) (g0 : (r.cls == s.cls) = true) (g1 : (r.kind == s.kind) = true) (g2 : (r.frm == s.frm) = true) (g3 : (r.time == s.time) = true) (g4 : (r.key == s.key) = true) (g5 : (r.key2 == s.key2) = true) (g6 : (r.key3 == s.key3) = false) :
    Calls Try.prog 14 #[.agg #[.int .i64 r.cls, .int .i64 r.kind, .int .u64 r.frm, .int .i64 r.time, .int .u64 r.key, .int .u64 r.key2, .int .u64 r.key3, .int .i64 r.n, .int .i64 r.m, .string r.a, .string r.b, .string r.c, .slice A1 r.vars.length c1], .agg #[.int .i64 s.cls, .int .i64 s.kind, .int .u64 s.frm, .int .i64 s.time, .int .u64 s.key, .int .u64 s.key2, .int .u64 s.key3, .int .i64 s.n, .int .i64 s.m, .string s.a, .string s.b, .string s.c, .slice A2 s.vars.length c2]] w fun e w' => e = .returned (.bool false) ∧ Below w.heap.size w w' := by
  have hb : Below w.heap.size w ((w.alloc (.cells #[.int .i64 r.cls, .int .i64 r.kind, .int .u64 r.frm, .int .i64 r.time, .int .u64 r.key, .int .u64 r.key2, .int .u64 r.key3, .int .i64 r.n, .int .i64 r.m, .string r.a, .string r.b, .string r.c, .slice A1 r.vars.length c1] 25)).alloc (.cells #[.int .i64 s.cls, .int .i64 s.kind, .int .u64 s.frm, .int .i64 s.time, .int .u64 s.key, .int .u64 s.key2, .int .u64 s.key3, .int .i64 s.n, .int .i64 s.m, .string s.a, .string s.b, .string s.c, .slice A2 s.vars.length c2] 25)) := ((Below.refl _ _).alloc (Nat.le_refl _) _).alloc (by simp) _
  have b1 : ((w.alloc (.cells #[.int .i64 r.cls, .int .i64 r.kind, .int .u64 r.frm, .int .i64 r.time, .int .u64 r.key, .int .u64 r.key2, .int .u64 r.key3, .int .i64 r.n, .int .i64 r.m, .string r.a, .string r.b, .string r.c, .slice A1 r.vars.length c1] 25)).alloc (.cells #[.int .i64 s.cls, .int .i64 s.kind, .int .u64 s.frm, .int .i64 s.time, .int .u64 s.key, .int .u64 s.key2, .int .u64 s.key3, .int .i64 s.n, .int .i64 s.m, .string s.a, .string s.b, .string s.c, .slice A2 s.vars.length c2] 25)).heap[w.heap.size]? = some (.cells #[.int .i64 r.cls, .int .i64 r.kind, .int .u64 r.frm, .int .i64 r.time, .int .u64 r.key, .int .u64 r.key2, .int .u64 r.key3, .int .i64 r.n, .int .i64 r.m, .string r.a, .string r.b, .string r.c, .slice A1 r.vars.length c1] 25 (0, 0)) := blk_old _ (blk_new _ _ rfl)
  have b2 : ((w.alloc (.cells #[.int .i64 r.cls, .int .i64 r.kind, .int .u64 r.frm, .int .i64 r.time, .int .u64 r.key, .int .u64 r.key2, .int .u64 r.key3, .int .i64 r.n, .int .i64 r.m, .string r.a, .string r.b, .string r.c, .slice A1 r.vars.length c1] 25)).alloc (.cells #[.int .i64 s.cls, .int .i64 s.kind, .int .u64 s.frm, .int .i64 s.time, .int .u64 s.key, .int .u64 s.key2, .int .u64 s.key3, .int .i64 s.n, .int .i64 s.m, .string s.a, .string s.b, .string s.c, .slice A2 s.vars.length c2] 25)).heap[w.heap.size + 1]? = some (.cells #[.int .i64 s.cls, .int .i64 s.kind, .int .u64 s.frm, .int .i64 s.time, .int .u64 s.key, .int .u64 s.key2, .int .u64 s.key3, .int .i64 s.n, .int .i64 s.m, .string s.a, .string s.b, .string s.c, .slice A2 s.vars.length c2] 25 (0, 0)) := blk_new _ _ (by simp)
  have H1 := Lib.hid (h1.below hb)
  have H2 := Lib.hid (h2.below hb)
  have HB := Lib.hid hb
  have HB1 := Lib.hid b1
  have HB2 := Lib.hid b2
  have HTV := Lib.hid ht
  clear hb b1 b2 h1 h2 ht
  go_enter Try.func14, Try.ntmps14
  go_wp2_with (go_at_call 24; refine (ref9_Same S r.vars s.vars _ _ _ _ true _ rfl rfl H1.out H2.out HTV.out).mono ?_; rintro e w1 ⟨rfl, hb1⟩; have B1 := block_below hb1 HB1.out; have B2 := block_below hb1 HB2.out; have p0 := (cell_of_blk B1 0).trans (rfl : _ = some (Value.int .i64 r.cls)); have p1 := (cell_of_blk B1 1).trans (rfl : _ = some (Value.int .i64 r.kind)); have p2 := (cell_of_blk B1 2).trans (rfl : _ = some (Value.int .u64 r.frm)); have p3 := (cell_of_blk B1 3).trans (rfl : _ = some (Value.int .i64 r.time)); have p4 := (cell_of_blk B1 4).trans (rfl : _ = some (Value.int .u64 r.key)); have p5 := (cell_of_blk B1 5).trans (rfl : _ = some (Value.int .u64 r.key2)); have p6 := (cell_of_blk B1 6).trans (rfl : _ = some (Value.int .u64 r.key3)); have q0 := (cell_of_blk B2 0).trans (rfl : _ = some (Value.int .i64 s.cls)); have q1 := (cell_of_blk B2 1).trans (rfl : _ = some (Value.int .i64 s.kind)); have q2 := (cell_of_blk B2 2).trans (rfl : _ = some (Value.int .u64 s.frm)); have q3 := (cell_of_blk B2 3).trans (rfl : _ = some (Value.int .i64 s.time)); have q4 := (cell_of_blk B2 4).trans (rfl : _ = some (Value.int .u64 s.key)); have q5 := (cell_of_blk B2 5).trans (rfl : _ = some (Value.int .u64 s.key2)); have q6 := (cell_of_blk B2 6).trans (rfl : _ = some (Value.int .u64 s.key3)); have HB9 := Lib.hid (below2 HB.out hb1); clear B1 B2 hb1 HB1 HB2 HB H1 H2 HTV)
  go_ret
  exact ⟨rfl, HB9.out⟩
set_option maxRecDepth 100000 in
set_option maxHeartbeats 8000000 in
theorem ref12_Same_8 (r s : GRec) (A1 A2 : Option Addr) (c1 c2 : Nat) (S : Nat → Prop) (w : World) (h1 : Row w S 4 r.vars.length (.slice A1 r.vars.length c1) (varCells r.vars)) (h2 : Row w S 4 s.vars.length (.slice A2 s.vars.length c2) (varCells s.vars)) (ht : (true = true) ↔ r.vars = s.vars) (g0 : (r.cls == s.cls) = true) (g1 : (r.kind == s.kind) = true) (g2 : (r.frm == s.frm) = true) (g3 : (r.time == s.time) = true) (g4 : (r.key == s.key) = true) (g5 : (r.key2 == s.key2) = true) (g6 : (r.key3 == s.key3) = true) (g7 : (r.n == s.n) = false) :
    Calls Try.prog 14 #[.agg #[.int .i64 r.cls, .int .i64 r.kind, .int .u64 r.frm, .int .i64 r.time, .int .u64 r.key, .int .u64 r.key2, .int .u64 r.key3, .int .i64 r.n, .int .i64 r.m, .string r.a, .string r.b, .string r.c, .slice A1 r.vars.length c1], .agg #[.int .i64 s.cls, .int .i64 s.kind, .int .u64 s.frm, .int .i64 s.time, .int .u64 s.key, .int .u64 s.key2, .int .u64 s.key3, .int .i64 s.n, .int .i64 s.m, .string s.a, .string s.b, .string s.c, .slice A2 s.vars.length c2]] w fun e w' => e = .returned (.bool false) ∧ Below w.heap.size w w' := by
  have hb : Below w.heap.size w ((w.alloc (.cells #[.int .i64 r.cls, .int .i64 r.kind, .int .u64 r.frm, .int .i64 r.time, .int .u64 r.key, .int .u64 r.key2, .int .u64 r.key3, .int .i64 r.n, .int .i64 r.m, .string r.a, .string r.b, .string r.c, .slice A1 r.vars.length c1] 25)).alloc (.cells #[.int .i64 s.cls, .int .i64 s.kind, .int .u64 s.frm, .int .i64 s.time, .int .u64 s.key, .int .u64 s.key2, .int .u64 s.key3, .int .i64 s.n, .int .i64 s.m, .string s.a, .string s.b, .string s.c, .slice A2 s.vars.length c2] 25)) := ((Below.refl _ _).alloc (Nat.le_refl _) _).alloc (by simp) _
  have b1 : ((w.alloc (.cells #[.int .i64 r.cls, .int .i64 r.kind, .int .u64 r.frm, .int .i64 r.time, .int .u64 r.key, .int .u64 r.key2, .int .u64 r.key3, .int .i64 r.n, .int .i64 r.m, .string r.a, .string r.b, .string r.c, .slice A1 r.vars.length c1] 25)).alloc (.cells #[.int .i64 s.cls, .int .i64 s.kind, .int .u64 s.frm, .int .i64 s.time, .int .u64 s.key, .int .u64 s.key2, .int .u64 s.key3, .int .i64 s.n, .int .i64 s.m, .string s.a, .string s.b, .string s.c, .slice A2 s.vars.length c2] 25)).heap[w.heap.size]? = some (.cells #[.int .i64 r.cls, .int .i64 r.kind, .int .u64 r.frm, .int .i64 r.time, .int .u64 r.key, .int .u64 r.key2, .int .u64 r.key3, .int .i64 r.n, .int .i64 r.m, .string r.a, .string r.b, .string r.c, .slice A1 r.vars.length c1] 25 (0, 0)) := blk_old _ (blk_new _ _ rfl)
  have b2 : ((w.alloc (.cells #[.int .i64 r.cls, .int .i64 r.kind, .int .u64 r.frm, .int .i64 r.time, .int .u64 r.key, .int .u64 r.key2, .int .u64 r.key3, .int .i64 r.n, .int .i64 r.m, .string r.a, .string r.b, .string r.c, .slice A1 r.vars.length c1] 25)).alloc (.cells #[.int .i64 s.cls, .int .i64 s.kind, .int .u64 s.frm, .int .i64 s.time, .int .u64 s.key, .int .u64 s.key2, .int .u64 s.key3, .int .i64 s.n, .int .i64 s.m, .string s.a, .string s.b, .string s.c, .slice A2 s.vars.length c2] 25)).heap[w.heap.size + 1]? = some (.cells #[.int .i64 s.cls, .int .i64 s.kind, .int .u64 s.frm, .int .i64 s.time, .int .u64 s.key, .int .u64 s.key2, .int .u64 s.key3, .int .i64 s.n, .int .i64 s.m, .string s.a, .string s.b, .string s.c, .slice A2 s.vars.length c2] 25 (0, 0)) := blk_new _ _ (by simp)
  have H1 := Lib.hid (h1.below hb)
  have H2 := Lib.hid (h2.below hb)
  have HB := Lib.hid hb
  have HB1 := Lib.hid b1
  have HB2 := Lib.hid b2
  have HTV := Lib.hid ht
  clear hb b1 b2 h1 h2 ht
  go_enter Try.func14, Try.ntmps14
  go_wp2_with (go_at_call 24; refine (ref9_Same S r.vars s.vars _ _ _ _ true _ rfl rfl H1.out H2.out HTV.out).mono ?_; rintro e w1 ⟨rfl, hb1⟩; have B1 := block_below hb1 HB1.out; have B2 := block_below hb1 HB2.out; have p0 := (cell_of_blk B1 0).trans (rfl : _ = some (Value.int .i64 r.cls)); have p1 := (cell_of_blk B1 1).trans (rfl : _ = some (Value.int .i64 r.kind)); have p2 := (cell_of_blk B1 2).trans (rfl : _ = some (Value.int .u64 r.frm)); have p3 := (cell_of_blk B1 3).trans (rfl : _ = some (Value.int .i64 r.time)); have p4 := (cell_of_blk B1 4).trans (rfl : _ = some (Value.int .u64 r.key)); have p5 := (cell_of_blk B1 5).trans (rfl : _ = some (Value.int .u64 r.key2)); have p6 := (cell_of_blk B1 6).trans (rfl : _ = some (Value.int .u64 r.key3)); have p7 := (cell_of_blk B1 7).trans (rfl : _ = some (Value.int .i64 r.n)); have q0 := (cell_of_blk B2 0).trans (rfl : _ = some (Value.int .i64 s.cls)); have q1 := (cell_of_blk B2 1).trans (rfl : _ = some (Value.int .i64 s.kind)); have q2 := (cell_of_blk B2 2).trans (rfl : _ = some (Value.int .u64 s.frm)); have q3 := (cell_of_blk B2 3).trans (rfl : _ = some (Value.int .i64 s.time)); have q4 := (cell_of_blk B2 4).trans (rfl : _ = some (Value.int .u64 s.key)); have q5 := (cell_of_blk B2 5).trans (rfl : _ = some (Value.int .u64 s.key2)); have q6 := (cell_of_blk B2 6).trans (rfl : _ = some (Value.int .u64 s.key3)); have q7 := (cell_of_blk B2 7).trans (rfl : _ = some (Value.int .i64 s.n)); have HB9 := Lib.hid (below2 HB.out hb1); clear B1 B2 hb1 HB1 HB2 HB H1 H2 HTV)
  go_ret
  exact ⟨rfl, HB9.out⟩
end Go.Proofs.Ytcfdbdmefdffdaa
/-
  The walk of the reference's Same of records, ways [8, 9]. Printed by gensamec.py.
-/
set_option linter.unusedVariables false
set_option linter.unusedSimpArgs false
namespace Go.Proofs.Ytcfdbdmefdffdaa
open Go Go.RowKit Go.Proofs.Base
open Go.Sort (grow)
set_option maxRecDepth 100000 in
set_option maxHeartbeats 8000000 in
theorem ref12_Same_9 (r s : GRec) (A1 A2 : Option Addr) (c1 c2 : Nat) (S : Nat → Prop) (w : World) (h1 : Row w S 4 r.vars.length (.slice A1 r.vars.length c1) (varCells r.vars)) (h2 : Row w S 4 s.vars.length (.slice A2 s.vars.length c2) (varCells s.vars)) (ht : (true = true) ↔ r.vars = s.vars) (g0 : (r.cls == s.cls) = true) (g1 : (r.kind == s.kind) = true) (g2 : (r.frm == s.frm) = true) (g3 : (r.time == s.time) = true) (g4 : (r.key == s.key) = true) (g5 : (r.key2 == s.key2) = true) (g6 : (r.key3 == s.key3) = true) (g7 : (r.n == s.n) = true) (g8 : (r.m == s.m) = false) :
    Calls Try.prog 14 #[.agg #[.int .i64 r.cls, .int .i64 r.kind, .int .u64 r.frm, .int .i64 r.time, .int .u64 r.key, .int .u64 r.key2, .int .u64 r.key3, .int .i64 r.n, .int .i64 r.m, .string r.a, .string r.b, .string r.c, .slice A1 r.vars.length c1], .agg #[.int .i64 s.cls, .int .i64 s.kind, .int .u64 s.frm, .int .i64 s.time, .int .u64 s.key, .int .u64 s.key2, .int .u64 s.key3, .int .i64 s.n, .int .i64 s.m, .string s.a, .string s.b, .string s.c, .slice A2 s.vars.length c2]] w fun e w' => e = .returned (.bool false) ∧ Below w.heap.size w w' := by
  have hb : Below w.heap.size w ((w.alloc (.cells #[.int .i64 r.cls, .int .i64 r.kind, .int .u64 r.frm, .int .i64 r.time, .int .u64 r.key, .int .u64 r.key2, .int .u64 r.key3, .int .i64 r.n, .int .i64 r.m, .string r.a, .string r.b, .string r.c, .slice A1 r.vars.length c1] 25)).alloc (.cells #[.int .i64 s.cls, .int .i64 s.kind, .int .u64 s.frm, .int .i64 s.time, .int .u64 s.key, .int .u64 s.key2, .int .u64 s.key3, .int .i64 s.n, .int .i64 s.m, .string s.a, .string s.b, .string s.c, .slice A2 s.vars.length c2] 25)) := ((Below.refl _ _).alloc (Nat.le_refl _) _).alloc (by simp) _
  have b1 : ((w.alloc (.cells #[.int .i64 r.cls, .int .i64 r.kind, .int .u64 r.frm, .int .i64 r.time, .int .u64 r.key, .int .u64 r.key2, .int .u64 r.key3, .int .i64 r.n, .int .i64 r.m, .string r.a, .string r.b, .string r.c, .slice A1 r.vars.length c1] 25)).alloc (.cells #[.int .i64 s.cls, .int .i64 s.kind, .int .u64 s.frm, .int .i64 s.time, .int .u64 s.key, .int .u64 s.key2, .int .u64 s.key3, .int .i64 s.n, .int .i64 s.m, .string s.a, .string s.b, .string s.c, .slice A2 s.vars.length c2] 25)).heap[w.heap.size]? = some (.cells #[.int .i64 r.cls, .int .i64 r.kind, .int .u64 r.frm, .int .i64 r.time, .int .u64 r.key, .int .u64 r.key2, .int .u64 r.key3, .int .i64 r.n, .int .i64 r.m, .string r.a, .string r.b, .string r.c, .slice A1 r.vars.length c1] 25 (0, 0)) := blk_old _ (blk_new _ _ rfl)
  have b2 : ((w.alloc (.cells #[.int .i64 r.cls, .int .i64 r.kind, .int .u64 r.frm, .int .i64 r.time, .int .u64 r.key, .int .u64 r.key2, .int .u64 r.key3, .int .i64 r.n, .int .i64 r.m, .string r.a, .string r.b, .string r.c, .slice A1 r.vars.length c1] 25)).alloc (.cells #[.int .i64 s.cls, .int .i64 s.kind, .int .u64 s.frm, .int .i64 s.time, .int .u64 s.key, .int .u64 s.key2, .int .u64 s.key3, .int .i64 s.n, .int .i64 s.m, .string s.a, .string s.b, .string s.c, .slice A2 s.vars.length c2] 25)).heap[w.heap.size + 1]? = some (.cells #[.int .i64 s.cls, .int .i64 s.kind, .int .u64 s.frm, .int .i64 s.time, .int .u64 s.key, .int .u64 s.key2, .int .u64 s.key3, .int .i64 s.n, .int .i64 s.m, .string s.a, .string s.b, .string s.c, .slice A2 s.vars.length c2] 25 (0, 0)) := blk_new _ _ (by simp)
  have H1 := Lib.hid (h1.below hb)
  have H2 := Lib.hid (h2.below hb)
  have HB := Lib.hid hb
  have HB1 := Lib.hid b1
  have HB2 := Lib.hid b2
  have HTV := Lib.hid ht
  clear hb b1 b2 h1 h2 ht
  go_enter Try.func14, Try.ntmps14
  go_wp2_with (go_at_call 24; refine (ref9_Same S r.vars s.vars _ _ _ _ true _ rfl rfl H1.out H2.out HTV.out).mono ?_; rintro e w1 ⟨rfl, hb1⟩; have B1 := block_below hb1 HB1.out; have B2 := block_below hb1 HB2.out; have p0 := (cell_of_blk B1 0).trans (rfl : _ = some (Value.int .i64 r.cls)); have p1 := (cell_of_blk B1 1).trans (rfl : _ = some (Value.int .i64 r.kind)); have p2 := (cell_of_blk B1 2).trans (rfl : _ = some (Value.int .u64 r.frm)); have p3 := (cell_of_blk B1 3).trans (rfl : _ = some (Value.int .i64 r.time)); have p4 := (cell_of_blk B1 4).trans (rfl : _ = some (Value.int .u64 r.key)); have p5 := (cell_of_blk B1 5).trans (rfl : _ = some (Value.int .u64 r.key2)); have p6 := (cell_of_blk B1 6).trans (rfl : _ = some (Value.int .u64 r.key3)); have p7 := (cell_of_blk B1 7).trans (rfl : _ = some (Value.int .i64 r.n)); have p8 := (cell_of_blk B1 8).trans (rfl : _ = some (Value.int .i64 r.m)); have q0 := (cell_of_blk B2 0).trans (rfl : _ = some (Value.int .i64 s.cls)); have q1 := (cell_of_blk B2 1).trans (rfl : _ = some (Value.int .i64 s.kind)); have q2 := (cell_of_blk B2 2).trans (rfl : _ = some (Value.int .u64 s.frm)); have q3 := (cell_of_blk B2 3).trans (rfl : _ = some (Value.int .i64 s.time)); have q4 := (cell_of_blk B2 4).trans (rfl : _ = some (Value.int .u64 s.key)); have q5 := (cell_of_blk B2 5).trans (rfl : _ = some (Value.int .u64 s.key2)); have q6 := (cell_of_blk B2 6).trans (rfl : _ = some (Value.int .u64 s.key3)); have q7 := (cell_of_blk B2 7).trans (rfl : _ = some (Value.int .i64 s.n)); have q8 := (cell_of_blk B2 8).trans (rfl : _ = some (Value.int .i64 s.m)); have HB9 := Lib.hid (below2 HB.out hb1); clear B1 B2 hb1 HB1 HB2 HB H1 H2 HTV)
  go_ret
  exact ⟨rfl, HB9.out⟩
set_option maxRecDepth 100000 in
set_option maxHeartbeats 8000000 in
theorem ref12_Same_10 (r s : GRec) (A1 A2 : Option Addr) (c1 c2 : Nat) (S : Nat → Prop) (w : World) (h1 : Row w S 4 r.vars.length (.slice A1 r.vars.length c1) (varCells r.vars)) (h2 : Row w S 4 s.vars.length (.slice A2 s.vars.length c2) (varCells s.vars)) (ht : (true = true) ↔ r.vars = s.vars) (g0 : (r.cls == s.cls) = true) (g1 : (r.kind == s.kind) = true) (g2 : (r.frm == s.frm) = true) (g3 : (r.time == s.time) = true) (g4 : (r.key == s.key) = true) (g5 : (r.key2 == s.key2) = true) (g6 : (r.key3 == s.key3) = true) (g7 : (r.n == s.n) = true) (g8 : (r.m == s.m) = true) (g9 : (r.a.toList == s.a.toList) = false) :
    Calls Try.prog 14 #[.agg #[.int .i64 r.cls, .int .i64 r.kind, .int .u64 r.frm, .int .i64 r.time, .int .u64 r.key, .int .u64 r.key2, .int .u64 r.key3, .int .i64 r.n, .int .i64 r.m, .string r.a, .string r.b, .string r.c, .slice A1 r.vars.length c1], .agg #[.int .i64 s.cls, .int .i64 s.kind, .int .u64 s.frm, .int .i64 s.time, .int .u64 s.key, .int .u64 s.key2, .int .u64 s.key3, .int .i64 s.n, .int .i64 s.m, .string s.a, .string s.b, .string s.c, .slice A2 s.vars.length c2]] w fun e w' => e = .returned (.bool false) ∧ Below w.heap.size w w' := by
  have hb : Below w.heap.size w ((w.alloc (.cells #[.int .i64 r.cls, .int .i64 r.kind, .int .u64 r.frm, .int .i64 r.time, .int .u64 r.key, .int .u64 r.key2, .int .u64 r.key3, .int .i64 r.n, .int .i64 r.m, .string r.a, .string r.b, .string r.c, .slice A1 r.vars.length c1] 25)).alloc (.cells #[.int .i64 s.cls, .int .i64 s.kind, .int .u64 s.frm, .int .i64 s.time, .int .u64 s.key, .int .u64 s.key2, .int .u64 s.key3, .int .i64 s.n, .int .i64 s.m, .string s.a, .string s.b, .string s.c, .slice A2 s.vars.length c2] 25)) := ((Below.refl _ _).alloc (Nat.le_refl _) _).alloc (by simp) _
  have b1 : ((w.alloc (.cells #[.int .i64 r.cls, .int .i64 r.kind, .int .u64 r.frm, .int .i64 r.time, .int .u64 r.key, .int .u64 r.key2, .int .u64 r.key3, .int .i64 r.n, .int .i64 r.m, .string r.a, .string r.b, .string r.c, .slice A1 r.vars.length c1] 25)).alloc (.cells #[.int .i64 s.cls, .int .i64 s.kind, .int .u64 s.frm, .int .i64 s.time, .int .u64 s.key, .int .u64 s.key2, .int .u64 s.key3, .int .i64 s.n, .int .i64 s.m, .string s.a, .string s.b, .string s.c, .slice A2 s.vars.length c2] 25)).heap[w.heap.size]? = some (.cells #[.int .i64 r.cls, .int .i64 r.kind, .int .u64 r.frm, .int .i64 r.time, .int .u64 r.key, .int .u64 r.key2, .int .u64 r.key3, .int .i64 r.n, .int .i64 r.m, .string r.a, .string r.b, .string r.c, .slice A1 r.vars.length c1] 25 (0, 0)) := blk_old _ (blk_new _ _ rfl)
  have b2 : ((w.alloc (.cells #[.int .i64 r.cls, .int .i64 r.kind, .int .u64 r.frm, .int .i64 r.time, .int .u64 r.key, .int .u64 r.key2, .int .u64 r.key3, .int .i64 r.n, .int .i64 r.m, .string r.a, .string r.b, .string r.c, .slice A1 r.vars.length c1] 25)).alloc (.cells #[.int .i64 s.cls, .int .i64 s.kind, .int .u64 s.frm, .int .i64 s.time, .int .u64 s.key, .int .u64 s.key2, .int .u64 s.key3, .int .i64 s.n, .int .i64 s.m, .string s.a, .string s.b, .string s.c, .slice A2 s.vars.length c2] 25)).heap[w.heap.size + 1]? = some (.cells #[.int .i64 s.cls, .int .i64 s.kind, .int .u64 s.frm, .int .i64 s.time, .int .u64 s.key, .int .u64 s.key2, .int .u64 s.key3, .int .i64 s.n, .int .i64 s.m, .string s.a, .string s.b, .string s.c, .slice A2 s.vars.length c2] 25 (0, 0)) := blk_new _ _ (by simp)
  have H1 := Lib.hid (h1.below hb)
  have H2 := Lib.hid (h2.below hb)
  have HB := Lib.hid hb
  have HB1 := Lib.hid b1
  have HB2 := Lib.hid b2
  have HTV := Lib.hid ht
  clear hb b1 b2 h1 h2 ht
  go_enter Try.func14, Try.ntmps14
  go_wp2_with (go_at_call 24; refine (ref9_Same S r.vars s.vars _ _ _ _ true _ rfl rfl H1.out H2.out HTV.out).mono ?_; rintro e w1 ⟨rfl, hb1⟩; have B1 := block_below hb1 HB1.out; have B2 := block_below hb1 HB2.out; have p0 := (cell_of_blk B1 0).trans (rfl : _ = some (Value.int .i64 r.cls)); have p1 := (cell_of_blk B1 1).trans (rfl : _ = some (Value.int .i64 r.kind)); have p2 := (cell_of_blk B1 2).trans (rfl : _ = some (Value.int .u64 r.frm)); have p3 := (cell_of_blk B1 3).trans (rfl : _ = some (Value.int .i64 r.time)); have p4 := (cell_of_blk B1 4).trans (rfl : _ = some (Value.int .u64 r.key)); have p5 := (cell_of_blk B1 5).trans (rfl : _ = some (Value.int .u64 r.key2)); have p6 := (cell_of_blk B1 6).trans (rfl : _ = some (Value.int .u64 r.key3)); have p7 := (cell_of_blk B1 7).trans (rfl : _ = some (Value.int .i64 r.n)); have p8 := (cell_of_blk B1 8).trans (rfl : _ = some (Value.int .i64 r.m)); have p9 := (cell_of_blk B1 9).trans (rfl : _ = some (Value.string r.a)); have q0 := (cell_of_blk B2 0).trans (rfl : _ = some (Value.int .i64 s.cls)); have q1 := (cell_of_blk B2 1).trans (rfl : _ = some (Value.int .i64 s.kind)); have q2 := (cell_of_blk B2 2).trans (rfl : _ = some (Value.int .u64 s.frm)); have q3 := (cell_of_blk B2 3).trans (rfl : _ = some (Value.int .i64 s.time)); have q4 := (cell_of_blk B2 4).trans (rfl : _ = some (Value.int .u64 s.key)); have q5 := (cell_of_blk B2 5).trans (rfl : _ = some (Value.int .u64 s.key2)); have q6 := (cell_of_blk B2 6).trans (rfl : _ = some (Value.int .u64 s.key3)); have q7 := (cell_of_blk B2 7).trans (rfl : _ = some (Value.int .i64 s.n)); have q8 := (cell_of_blk B2 8).trans (rfl : _ = some (Value.int .i64 s.m)); have q9 := (cell_of_blk B2 9).trans (rfl : _ = some (Value.string s.a)); have HB9 := Lib.hid (below2 HB.out hb1); clear B1 B2 hb1 HB1 HB2 HB H1 H2 HTV)
  go_ret
  exact ⟨rfl, HB9.out⟩
end Go.Proofs.Ytcfdbdmefdffdaa
/-
  The walk of the reference's Same of records, ways [10, 11]. Printed by gensamec.py.
-/
set_option linter.unusedVariables false
set_option linter.unusedSimpArgs false
namespace Go.Proofs.Ytcfdbdmefdffdaa
open Go Go.RowKit Go.Proofs.Base
open Go.Sort (grow)
set_option maxRecDepth 100000 in
set_option maxHeartbeats 8000000 in
theorem ref12_Same_11 (r s : GRec) (A1 A2 : Option Addr) (c1 c2 : Nat) (S : Nat → Prop) (w : World) (h1 : Row w S 4 r.vars.length (.slice A1 r.vars.length c1) (varCells r.vars)) (h2 : Row w S 4 s.vars.length (.slice A2 s.vars.length c2) (varCells s.vars)) (ht : (true = true) ↔ r.vars = s.vars) (g0 : (r.cls == s.cls) = true) (g1 : (r.kind == s.kind) = true) (g2 : (r.frm == s.frm) = true) (g3 : (r.time == s.time) = true) (g4 : (r.key == s.key) = true) (g5 : (r.key2 == s.key2) = true) (g6 : (r.key3 == s.key3) = true) (g7 : (r.n == s.n) = true) (g8 : (r.m == s.m) = true) (g9 : (r.a.toList == s.a.toList) = true) (g10 : (r.b.toList == s.b.toList) = false) :
    Calls Try.prog 14 #[.agg #[.int .i64 r.cls, .int .i64 r.kind, .int .u64 r.frm, .int .i64 r.time, .int .u64 r.key, .int .u64 r.key2, .int .u64 r.key3, .int .i64 r.n, .int .i64 r.m, .string r.a, .string r.b, .string r.c, .slice A1 r.vars.length c1], .agg #[.int .i64 s.cls, .int .i64 s.kind, .int .u64 s.frm, .int .i64 s.time, .int .u64 s.key, .int .u64 s.key2, .int .u64 s.key3, .int .i64 s.n, .int .i64 s.m, .string s.a, .string s.b, .string s.c, .slice A2 s.vars.length c2]] w fun e w' => e = .returned (.bool false) ∧ Below w.heap.size w w' := by
  have hb : Below w.heap.size w ((w.alloc (.cells #[.int .i64 r.cls, .int .i64 r.kind, .int .u64 r.frm, .int .i64 r.time, .int .u64 r.key, .int .u64 r.key2, .int .u64 r.key3, .int .i64 r.n, .int .i64 r.m, .string r.a, .string r.b, .string r.c, .slice A1 r.vars.length c1] 25)).alloc (.cells #[.int .i64 s.cls, .int .i64 s.kind, .int .u64 s.frm, .int .i64 s.time, .int .u64 s.key, .int .u64 s.key2, .int .u64 s.key3, .int .i64 s.n, .int .i64 s.m, .string s.a, .string s.b, .string s.c, .slice A2 s.vars.length c2] 25)) := ((Below.refl _ _).alloc (Nat.le_refl _) _).alloc (by simp) _
  have b1 : ((w.alloc (.cells #[.int .i64 r.cls, .int .i64 r.kind, .int .u64 r.frm, .int .i64 r.time, .int .u64 r.key, .int .u64 r.key2, .int .u64 r.key3, .int .i64 r.n, .int .i64 r.m, .string r.a, .string r.b, .string r.c, .slice A1 r.vars.length c1] 25)).alloc (.cells #[.int .i64 s.cls, .int .i64 s.kind, .int .u64 s.frm, .int .i64 s.time, .int .u64 s.key, .int .u64 s.key2, .int .u64 s.key3, .int .i64 s.n, .int .i64 s.m, .string s.a, .string s.b, .string s.c, .slice A2 s.vars.length c2] 25)).heap[w.heap.size]? = some (.cells #[.int .i64 r.cls, .int .i64 r.kind, .int .u64 r.frm, .int .i64 r.time, .int .u64 r.key, .int .u64 r.key2, .int .u64 r.key3, .int .i64 r.n, .int .i64 r.m, .string r.a, .string r.b, .string r.c, .slice A1 r.vars.length c1] 25 (0, 0)) := blk_old _ (blk_new _ _ rfl)
  have b2 : ((w.alloc (.cells #[.int .i64 r.cls, .int .i64 r.kind, .int .u64 r.frm, .int .i64 r.time, .int .u64 r.key, .int .u64 r.key2, .int .u64 r.key3, .int .i64 r.n, .int .i64 r.m, .string r.a, .string r.b, .string r.c, .slice A1 r.vars.length c1] 25)).alloc (.cells #[.int .i64 s.cls, .int .i64 s.kind, .int .u64 s.frm, .int .i64 s.time, .int .u64 s.key, .int .u64 s.key2, .int .u64 s.key3, .int .i64 s.n, .int .i64 s.m, .string s.a, .string s.b, .string s.c, .slice A2 s.vars.length c2] 25)).heap[w.heap.size + 1]? = some (.cells #[.int .i64 s.cls, .int .i64 s.kind, .int .u64 s.frm, .int .i64 s.time, .int .u64 s.key, .int .u64 s.key2, .int .u64 s.key3, .int .i64 s.n, .int .i64 s.m, .string s.a, .string s.b, .string s.c, .slice A2 s.vars.length c2] 25 (0, 0)) := blk_new _ _ (by simp)
  have H1 := Lib.hid (h1.below hb)
  have H2 := Lib.hid (h2.below hb)
  have HB := Lib.hid hb
  have HB1 := Lib.hid b1
  have HB2 := Lib.hid b2
  have HTV := Lib.hid ht
  clear hb b1 b2 h1 h2 ht
  go_enter Try.func14, Try.ntmps14
  go_wp2_with (go_at_call 24; refine (ref9_Same S r.vars s.vars _ _ _ _ true _ rfl rfl H1.out H2.out HTV.out).mono ?_; rintro e w1 ⟨rfl, hb1⟩; have B1 := block_below hb1 HB1.out; have B2 := block_below hb1 HB2.out; have p0 := (cell_of_blk B1 0).trans (rfl : _ = some (Value.int .i64 r.cls)); have p1 := (cell_of_blk B1 1).trans (rfl : _ = some (Value.int .i64 r.kind)); have p2 := (cell_of_blk B1 2).trans (rfl : _ = some (Value.int .u64 r.frm)); have p3 := (cell_of_blk B1 3).trans (rfl : _ = some (Value.int .i64 r.time)); have p4 := (cell_of_blk B1 4).trans (rfl : _ = some (Value.int .u64 r.key)); have p5 := (cell_of_blk B1 5).trans (rfl : _ = some (Value.int .u64 r.key2)); have p6 := (cell_of_blk B1 6).trans (rfl : _ = some (Value.int .u64 r.key3)); have p7 := (cell_of_blk B1 7).trans (rfl : _ = some (Value.int .i64 r.n)); have p8 := (cell_of_blk B1 8).trans (rfl : _ = some (Value.int .i64 r.m)); have p9 := (cell_of_blk B1 9).trans (rfl : _ = some (Value.string r.a)); have p10 := (cell_of_blk B1 10).trans (rfl : _ = some (Value.string r.b)); have q0 := (cell_of_blk B2 0).trans (rfl : _ = some (Value.int .i64 s.cls)); have q1 := (cell_of_blk B2 1).trans (rfl : _ = some (Value.int .i64 s.kind)); have q2 := (cell_of_blk B2 2).trans (rfl : _ = some (Value.int .u64 s.frm)); have q3 := (cell_of_blk B2 3).trans (rfl : _ = some (Value.int .i64 s.time)); have q4 := (cell_of_blk B2 4).trans (rfl : _ = some (Value.int .u64 s.key)); have q5 := (cell_of_blk B2 5).trans (rfl : _ = some (Value.int .u64 s.key2)); have q6 := (cell_of_blk B2 6).trans (rfl : _ = some (Value.int .u64 s.key3)); have q7 := (cell_of_blk B2 7).trans (rfl : _ = some (Value.int .i64 s.n)); have q8 := (cell_of_blk B2 8).trans (rfl : _ = some (Value.int .i64 s.m)); have q9 := (cell_of_blk B2 9).trans (rfl : _ = some (Value.string s.a)); have q10 := (cell_of_blk B2 10).trans (rfl : _ = some (Value.string s.b)); have HB9 := Lib.hid (below2 HB.out hb1); clear B1 B2 hb1 HB1 HB2 HB H1 H2 HTV)
  go_ret
  exact ⟨rfl, HB9.out⟩
set_option maxRecDepth 100000 in
set_option maxHeartbeats 8000000 in
theorem ref12_Same_12 (r s : GRec) (A1 A2 : Option Addr) (c1 c2 : Nat) (S : Nat → Prop) (w : World) (h1 : Row w S 4 r.vars.length (.slice A1 r.vars.length c1) (varCells r.vars)) (h2 : Row w S 4 s.vars.length (.slice A2 s.vars.length c2) (varCells s.vars)) (ht : (true = true) ↔ r.vars = s.vars) (g0 : (r.cls == s.cls) = true) (g1 : (r.kind == s.kind) = true) (g2 : (r.frm == s.frm) = true) (g3 : (r.time == s.time) = true) (g4 : (r.key == s.key) = true) (g5 : (r.key2 == s.key2) = true) (g6 : (r.key3 == s.key3) = true) (g7 : (r.n == s.n) = true) (g8 : (r.m == s.m) = true) (g9 : (r.a.toList == s.a.toList) = true) (g10 : (r.b.toList == s.b.toList) = true) (g11 : (r.c.toList == s.c.toList) = false) :
    Calls Try.prog 14 #[.agg #[.int .i64 r.cls, .int .i64 r.kind, .int .u64 r.frm, .int .i64 r.time, .int .u64 r.key, .int .u64 r.key2, .int .u64 r.key3, .int .i64 r.n, .int .i64 r.m, .string r.a, .string r.b, .string r.c, .slice A1 r.vars.length c1], .agg #[.int .i64 s.cls, .int .i64 s.kind, .int .u64 s.frm, .int .i64 s.time, .int .u64 s.key, .int .u64 s.key2, .int .u64 s.key3, .int .i64 s.n, .int .i64 s.m, .string s.a, .string s.b, .string s.c, .slice A2 s.vars.length c2]] w fun e w' => e = .returned (.bool false) ∧ Below w.heap.size w w' := by
  have hb : Below w.heap.size w ((w.alloc (.cells #[.int .i64 r.cls, .int .i64 r.kind, .int .u64 r.frm, .int .i64 r.time, .int .u64 r.key, .int .u64 r.key2, .int .u64 r.key3, .int .i64 r.n, .int .i64 r.m, .string r.a, .string r.b, .string r.c, .slice A1 r.vars.length c1] 25)).alloc (.cells #[.int .i64 s.cls, .int .i64 s.kind, .int .u64 s.frm, .int .i64 s.time, .int .u64 s.key, .int .u64 s.key2, .int .u64 s.key3, .int .i64 s.n, .int .i64 s.m, .string s.a, .string s.b, .string s.c, .slice A2 s.vars.length c2] 25)) := ((Below.refl _ _).alloc (Nat.le_refl _) _).alloc (by simp) _
  have b1 : ((w.alloc (.cells #[.int .i64 r.cls, .int .i64 r.kind, .int .u64 r.frm, .int .i64 r.time, .int .u64 r.key, .int .u64 r.key2, .int .u64 r.key3, .int .i64 r.n, .int .i64 r.m, .string r.a, .string r.b, .string r.c, .slice A1 r.vars.length c1] 25)).alloc (.cells #[.int .i64 s.cls, .int .i64 s.kind, .int .u64 s.frm, .int .i64 s.time, .int .u64 s.key, .int .u64 s.key2, .int .u64 s.key3, .int .i64 s.n, .int .i64 s.m, .string s.a, .string s.b, .string s.c, .slice A2 s.vars.length c2] 25)).heap[w.heap.size]? = some (.cells #[.int .i64 r.cls, .int .i64 r.kind, .int .u64 r.frm, .int .i64 r.time, .int .u64 r.key, .int .u64 r.key2, .int .u64 r.key3, .int .i64 r.n, .int .i64 r.m, .string r.a, .string r.b, .string r.c, .slice A1 r.vars.length c1] 25 (0, 0)) := blk_old _ (blk_new _ _ rfl)
  have b2 : ((w.alloc (.cells #[.int .i64 r.cls, .int .i64 r.kind, .int .u64 r.frm, .int .i64 r.time, .int .u64 r.key, .int .u64 r.key2, .int .u64 r.key3, .int .i64 r.n, .int .i64 r.m, .string r.a, .string r.b, .string r.c, .slice A1 r.vars.length c1] 25)).alloc (.cells #[.int .i64 s.cls, .int .i64 s.kind, .int .u64 s.frm, .int .i64 s.time, .int .u64 s.key, .int .u64 s.key2, .int .u64 s.key3, .int .i64 s.n, .int .i64 s.m, .string s.a, .string s.b, .string s.c, .slice A2 s.vars.length c2] 25)).heap[w.heap.size + 1]? = some (.cells #[.int .i64 s.cls, .int .i64 s.kind, .int .u64 s.frm, .int .i64 s.time, .int .u64 s.key, .int .u64 s.key2, .int .u64 s.key3, .int .i64 s.n, .int .i64 s.m, .string s.a, .string s.b, .string s.c, .slice A2 s.vars.length c2] 25 (0, 0)) := blk_new _ _ (by simp)
  have H1 := Lib.hid (h1.below hb)
  have H2 := Lib.hid (h2.below hb)
  have HB := Lib.hid hb
  have HB1 := Lib.hid b1
  have HB2 := Lib.hid b2
  have HTV := Lib.hid ht
  clear hb b1 b2 h1 h2 ht
  go_enter Try.func14, Try.ntmps14
  go_wp2_with (go_at_call 24; refine (ref9_Same S r.vars s.vars _ _ _ _ true _ rfl rfl H1.out H2.out HTV.out).mono ?_; rintro e w1 ⟨rfl, hb1⟩; have B1 := block_below hb1 HB1.out; have B2 := block_below hb1 HB2.out; have p0 := (cell_of_blk B1 0).trans (rfl : _ = some (Value.int .i64 r.cls)); have p1 := (cell_of_blk B1 1).trans (rfl : _ = some (Value.int .i64 r.kind)); have p2 := (cell_of_blk B1 2).trans (rfl : _ = some (Value.int .u64 r.frm)); have p3 := (cell_of_blk B1 3).trans (rfl : _ = some (Value.int .i64 r.time)); have p4 := (cell_of_blk B1 4).trans (rfl : _ = some (Value.int .u64 r.key)); have p5 := (cell_of_blk B1 5).trans (rfl : _ = some (Value.int .u64 r.key2)); have p6 := (cell_of_blk B1 6).trans (rfl : _ = some (Value.int .u64 r.key3)); have p7 := (cell_of_blk B1 7).trans (rfl : _ = some (Value.int .i64 r.n)); have p8 := (cell_of_blk B1 8).trans (rfl : _ = some (Value.int .i64 r.m)); have p9 := (cell_of_blk B1 9).trans (rfl : _ = some (Value.string r.a)); have p10 := (cell_of_blk B1 10).trans (rfl : _ = some (Value.string r.b)); have p11 := (cell_of_blk B1 11).trans (rfl : _ = some (Value.string r.c)); have q0 := (cell_of_blk B2 0).trans (rfl : _ = some (Value.int .i64 s.cls)); have q1 := (cell_of_blk B2 1).trans (rfl : _ = some (Value.int .i64 s.kind)); have q2 := (cell_of_blk B2 2).trans (rfl : _ = some (Value.int .u64 s.frm)); have q3 := (cell_of_blk B2 3).trans (rfl : _ = some (Value.int .i64 s.time)); have q4 := (cell_of_blk B2 4).trans (rfl : _ = some (Value.int .u64 s.key)); have q5 := (cell_of_blk B2 5).trans (rfl : _ = some (Value.int .u64 s.key2)); have q6 := (cell_of_blk B2 6).trans (rfl : _ = some (Value.int .u64 s.key3)); have q7 := (cell_of_blk B2 7).trans (rfl : _ = some (Value.int .i64 s.n)); have q8 := (cell_of_blk B2 8).trans (rfl : _ = some (Value.int .i64 s.m)); have q9 := (cell_of_blk B2 9).trans (rfl : _ = some (Value.string s.a)); have q10 := (cell_of_blk B2 10).trans (rfl : _ = some (Value.string s.b)); have q11 := (cell_of_blk B2 11).trans (rfl : _ = some (Value.string s.c)); have HB9 := Lib.hid (below2 HB.out hb1); clear B1 B2 hb1 HB1 HB2 HB H1 H2 HTV)
  go_ret
  exact ⟨rfl, HB9.out⟩
end Go.Proofs.Ytcfdbdmefdffdaa
/-
  The walk of the reference's Same of records, ways [12]. Printed by gensamec.py.
-/
set_option linter.unusedVariables false
set_option linter.unusedSimpArgs false
namespace Go.Proofs.Ytcfdbdmefdffdaa
open Go Go.RowKit Go.Proofs.Base
open Go.Sort (grow)
set_option maxRecDepth 100000 in
set_option maxHeartbeats 8000000 in
theorem ref12_Same_13 (r s : GRec) (A1 A2 : Option Addr) (c1 c2 : Nat) (S : Nat → Prop) (w : World) (h1 : Row w S 4 r.vars.length (.slice A1 r.vars.length c1) (varCells r.vars)) (h2 : Row w S 4 s.vars.length (.slice A2 s.vars.length c2) (varCells s.vars)) (ht : (true = true) ↔ r.vars = s.vars) (g0 : (r.cls == s.cls) = true) (g1 : (r.kind == s.kind) = true) (g2 : (r.frm == s.frm) = true) (g3 : (r.time == s.time) = true) (g4 : (r.key == s.key) = true) (g5 : (r.key2 == s.key2) = true) (g6 : (r.key3 == s.key3) = true) (g7 : (r.n == s.n) = true) (g8 : (r.m == s.m) = true) (g9 : (r.a.toList == s.a.toList) = true) (g10 : (r.b.toList == s.b.toList) = true) (g11 : (r.c.toList == s.c.toList) = true) :
    Calls Try.prog 14 #[.agg #[.int .i64 r.cls, .int .i64 r.kind, .int .u64 r.frm, .int .i64 r.time, .int .u64 r.key, .int .u64 r.key2, .int .u64 r.key3, .int .i64 r.n, .int .i64 r.m, .string r.a, .string r.b, .string r.c, .slice A1 r.vars.length c1], .agg #[.int .i64 s.cls, .int .i64 s.kind, .int .u64 s.frm, .int .i64 s.time, .int .u64 s.key, .int .u64 s.key2, .int .u64 s.key3, .int .i64 s.n, .int .i64 s.m, .string s.a, .string s.b, .string s.c, .slice A2 s.vars.length c2]] w fun e w' => e = .returned (.bool true) ∧ Below w.heap.size w w' := by
  have hb : Below w.heap.size w ((w.alloc (.cells #[.int .i64 r.cls, .int .i64 r.kind, .int .u64 r.frm, .int .i64 r.time, .int .u64 r.key, .int .u64 r.key2, .int .u64 r.key3, .int .i64 r.n, .int .i64 r.m, .string r.a, .string r.b, .string r.c, .slice A1 r.vars.length c1] 25)).alloc (.cells #[.int .i64 s.cls, .int .i64 s.kind, .int .u64 s.frm, .int .i64 s.time, .int .u64 s.key, .int .u64 s.key2, .int .u64 s.key3, .int .i64 s.n, .int .i64 s.m, .string s.a, .string s.b, .string s.c, .slice A2 s.vars.length c2] 25)) := ((Below.refl _ _).alloc (Nat.le_refl _) _).alloc (by simp) _
  have b1 : ((w.alloc (.cells #[.int .i64 r.cls, .int .i64 r.kind, .int .u64 r.frm, .int .i64 r.time, .int .u64 r.key, .int .u64 r.key2, .int .u64 r.key3, .int .i64 r.n, .int .i64 r.m, .string r.a, .string r.b, .string r.c, .slice A1 r.vars.length c1] 25)).alloc (.cells #[.int .i64 s.cls, .int .i64 s.kind, .int .u64 s.frm, .int .i64 s.time, .int .u64 s.key, .int .u64 s.key2, .int .u64 s.key3, .int .i64 s.n, .int .i64 s.m, .string s.a, .string s.b, .string s.c, .slice A2 s.vars.length c2] 25)).heap[w.heap.size]? = some (.cells #[.int .i64 r.cls, .int .i64 r.kind, .int .u64 r.frm, .int .i64 r.time, .int .u64 r.key, .int .u64 r.key2, .int .u64 r.key3, .int .i64 r.n, .int .i64 r.m, .string r.a, .string r.b, .string r.c, .slice A1 r.vars.length c1] 25 (0, 0)) := blk_old _ (blk_new _ _ rfl)
  have b2 : ((w.alloc (.cells #[.int .i64 r.cls, .int .i64 r.kind, .int .u64 r.frm, .int .i64 r.time, .int .u64 r.key, .int .u64 r.key2, .int .u64 r.key3, .int .i64 r.n, .int .i64 r.m, .string r.a, .string r.b, .string r.c, .slice A1 r.vars.length c1] 25)).alloc (.cells #[.int .i64 s.cls, .int .i64 s.kind, .int .u64 s.frm, .int .i64 s.time, .int .u64 s.key, .int .u64 s.key2, .int .u64 s.key3, .int .i64 s.n, .int .i64 s.m, .string s.a, .string s.b, .string s.c, .slice A2 s.vars.length c2] 25)).heap[w.heap.size + 1]? = some (.cells #[.int .i64 s.cls, .int .i64 s.kind, .int .u64 s.frm, .int .i64 s.time, .int .u64 s.key, .int .u64 s.key2, .int .u64 s.key3, .int .i64 s.n, .int .i64 s.m, .string s.a, .string s.b, .string s.c, .slice A2 s.vars.length c2] 25 (0, 0)) := blk_new _ _ (by simp)
  have H1 := Lib.hid (h1.below hb)
  have H2 := Lib.hid (h2.below hb)
  have HB := Lib.hid hb
  have HB1 := Lib.hid b1
  have HB2 := Lib.hid b2
  have HTV := Lib.hid ht
  clear hb b1 b2 h1 h2 ht
  go_enter Try.func14, Try.ntmps14
  go_wp2_with (go_at_call 24; refine (ref9_Same S r.vars s.vars _ _ _ _ true _ rfl rfl H1.out H2.out HTV.out).mono ?_; rintro e w1 ⟨rfl, hb1⟩; have B1 := block_below hb1 HB1.out; have B2 := block_below hb1 HB2.out; have p0 := (cell_of_blk B1 0).trans (rfl : _ = some (Value.int .i64 r.cls)); have p1 := (cell_of_blk B1 1).trans (rfl : _ = some (Value.int .i64 r.kind)); have p2 := (cell_of_blk B1 2).trans (rfl : _ = some (Value.int .u64 r.frm)); have p3 := (cell_of_blk B1 3).trans (rfl : _ = some (Value.int .i64 r.time)); have p4 := (cell_of_blk B1 4).trans (rfl : _ = some (Value.int .u64 r.key)); have p5 := (cell_of_blk B1 5).trans (rfl : _ = some (Value.int .u64 r.key2)); have p6 := (cell_of_blk B1 6).trans (rfl : _ = some (Value.int .u64 r.key3)); have p7 := (cell_of_blk B1 7).trans (rfl : _ = some (Value.int .i64 r.n)); have p8 := (cell_of_blk B1 8).trans (rfl : _ = some (Value.int .i64 r.m)); have p9 := (cell_of_blk B1 9).trans (rfl : _ = some (Value.string r.a)); have p10 := (cell_of_blk B1 10).trans (rfl : _ = some (Value.string r.b)); have p11 := (cell_of_blk B1 11).trans (rfl : _ = some (Value.string r.c)); have q0 := (cell_of_blk B2 0).trans (rfl : _ = some (Value.int .i64 s.cls)); have q1 := (cell_of_blk B2 1).trans (rfl : _ = some (Value.int .i64 s.kind)); have q2 := (cell_of_blk B2 2).trans (rfl : _ = some (Value.int .u64 s.frm)); have q3 := (cell_of_blk B2 3).trans (rfl : _ = some (Value.int .i64 s.time)); have q4 := (cell_of_blk B2 4).trans (rfl : _ = some (Value.int .u64 s.key)); have q5 := (cell_of_blk B2 5).trans (rfl : _ = some (Value.int .u64 s.key2)); have q6 := (cell_of_blk B2 6).trans (rfl : _ = some (Value.int .u64 s.key3)); have q7 := (cell_of_blk B2 7).trans (rfl : _ = some (Value.int .i64 s.n)); have q8 := (cell_of_blk B2 8).trans (rfl : _ = some (Value.int .i64 s.m)); have q9 := (cell_of_blk B2 9).trans (rfl : _ = some (Value.string s.a)); have q10 := (cell_of_blk B2 10).trans (rfl : _ = some (Value.string s.b)); have q11 := (cell_of_blk B2 11).trans (rfl : _ = some (Value.string s.c)); have HB9 := Lib.hid (below2 HB.out hb1); clear B1 B2 hb1 HB1 HB2 HB H1 H2 HTV)
  go_ret
  exact ⟨rfl, HB9.out⟩
end Go.Proofs.Ytcfdbdmefdffdaa
/-
  The walk of the reference's Same of records, all ways. Printed by gensamec.py.
-/
set_option linter.unusedVariables false
set_option linter.unusedSimpArgs false
namespace Go.Proofs.Ytcfdbdmefdffdaa
open Go Go.RowKit Go.Proofs.Base
theorem beqS_t {a b : ByteArray} (h : a = b) : (a.toList == b.toList) = true := by rw [h]; simp
theorem beqS_f {a b : ByteArray} (h : a ≠ b) : (a.toList == b.toList) = false := by
  rw [beq_eq_false_iff_ne]
  intro he
  rw [toList_toL, toList_toL] at he
  exact h (toL_inj he)
theorem same_f {r s : GRec} {t : Bool} (ht : t = true ↔ r = s) (h : r ≠ s) : t = false := by
  cases t
  · rfl
  · exact absurd (ht.1 rfl) h
theorem ref12_Same (r s : GRec) (vv uu : Value) (S : Nat → Prop) (t : Bool) (w : World) (h1 : Row w S 4 r.vars.length vv (varCells r.vars)) (h2 : Row w S 4 s.vars.length uu (varCells s.vars)) (ht : t = true ↔ r = s) :
    Calls Try.prog 14 #[.agg #[.int .i64 r.cls, .int .i64 r.kind, .int .u64 r.frm, .int .i64 r.time, .int .u64 r.key, .int .u64 r.key2, .int .u64 r.key3, .int .i64 r.n, .int .i64 r.m, .string r.a, .string r.b, .string r.c, vv], .agg #[.int .i64 s.cls, .int .i64 s.kind, .int .u64 s.frm, .int .i64 s.time, .int .u64 s.key, .int .u64 s.key2, .int .u64 s.key3, .int .i64 s.n, .int .i64 s.m, .string s.a, .string s.b, .string s.c, uu]] w fun e w' => e = .returned (.bool t) ∧ Below w.heap.size w w' := by
  obtain ⟨A1, c1, rfl, _, _⟩ := h1.open_
  obtain ⟨A2, c2, rfl, _, _⟩ := h2.open_
  by_cases ev : r.vars = s.vars
  rotate_left
  · rw [same_f ht (fun h => ev (congrArg GRec.vars h))]
    exact ref12_Same_0 r s A1 A2 c1 c2 S w h1 h2 ⟨fun h => (by cases h), fun h => absurd h ev⟩
  by_cases e0 : r.cls = s.cls
  rotate_left
  · rw [same_f ht (fun h => e0 (congrArg GRec.cls h))]
    exact ref12_Same_1 r s A1 A2 c1 c2 S w h1 h2 ⟨fun _ => ev, fun _ => rfl⟩  (beq_f e0)
  by_cases e1 : r.kind = s.kind
  rotate_left
  · rw [same_f ht (fun h => e1 (congrArg GRec.kind h))]
    exact ref12_Same_2 r s A1 A2 c1 c2 S w h1 h2 ⟨fun _ => ev, fun _ => rfl⟩ (beq_t e0) (beq_f e1)
  by_cases e2 : r.frm = s.frm
  rotate_left
  · rw [same_f ht (fun h => e2 (congrArg GRec.frm h))]
    exact ref12_Same_3 r s A1 A2 c1 c2 S w h1 h2 ⟨fun _ => ev, fun _ => rfl⟩ (beq_t e0) (beq_t e1) (beq_f e2)
  by_cases e3 : r.time = s.time
  rotate_left
  · rw [same_f ht (fun h => e3 (congrArg GRec.time h))]
    exact ref12_Same_4 r s A1 A2 c1 c2 S w h1 h2 ⟨fun _ => ev, fun _ => rfl⟩ (beq_t e0) (beq_t e1) (beq_t e2) (beq_f e3)
  by_cases e4 : r.key = s.key
  rotate_left
  · rw [same_f ht (fun h => e4 (congrArg GRec.key h))]
    exact ref12_Same_5 r s A1 A2 c1 c2 S w h1 h2 ⟨fun _ => ev, fun _ => rfl⟩ (beq_t e0) (beq_t e1) (beq_t e2) (beq_t e3) (beq_f e4)
  by_cases e5 : r.key2 = s.key2
  rotate_left
  · rw [same_f ht (fun h => e5 (congrArg GRec.key2 h))]
    exact ref12_Same_6 r s A1 A2 c1 c2 S w h1 h2 ⟨fun _ => ev, fun _ => rfl⟩ (beq_t e0) (beq_t e1) (beq_t e2) (beq_t e3) (beq_t e4) (beq_f e5)
  by_cases e6 : r.key3 = s.key3
  rotate_left
  · rw [same_f ht (fun h => e6 (congrArg GRec.key3 h))]
    exact ref12_Same_7 r s A1 A2 c1 c2 S w h1 h2 ⟨fun _ => ev, fun _ => rfl⟩ (beq_t e0) (beq_t e1) (beq_t e2) (beq_t e3) (beq_t e4) (beq_t e5) (beq_f e6)
  by_cases e7 : r.n = s.n
  rotate_left
  · rw [same_f ht (fun h => e7 (congrArg GRec.n h))]
    exact ref12_Same_8 r s A1 A2 c1 c2 S w h1 h2 ⟨fun _ => ev, fun _ => rfl⟩ (beq_t e0) (beq_t e1) (beq_t e2) (beq_t e3) (beq_t e4) (beq_t e5) (beq_t e6) (beq_f e7)
  by_cases e8 : r.m = s.m
  rotate_left
  · rw [same_f ht (fun h => e8 (congrArg GRec.m h))]
    exact ref12_Same_9 r s A1 A2 c1 c2 S w h1 h2 ⟨fun _ => ev, fun _ => rfl⟩ (beq_t e0) (beq_t e1) (beq_t e2) (beq_t e3) (beq_t e4) (beq_t e5) (beq_t e6) (beq_t e7) (beq_f e8)
  by_cases e9 : r.a = s.a
  rotate_left
  · rw [same_f ht (fun h => e9 (congrArg GRec.a h))]
    exact ref12_Same_10 r s A1 A2 c1 c2 S w h1 h2 ⟨fun _ => ev, fun _ => rfl⟩ (beq_t e0) (beq_t e1) (beq_t e2) (beq_t e3) (beq_t e4) (beq_t e5) (beq_t e6) (beq_t e7) (beq_t e8) (beqS_f e9)
  by_cases e10 : r.b = s.b
  rotate_left
  · rw [same_f ht (fun h => e10 (congrArg GRec.b h))]
    exact ref12_Same_11 r s A1 A2 c1 c2 S w h1 h2 ⟨fun _ => ev, fun _ => rfl⟩ (beq_t e0) (beq_t e1) (beq_t e2) (beq_t e3) (beq_t e4) (beq_t e5) (beq_t e6) (beq_t e7) (beq_t e8) (beqS_t e9) (beqS_f e10)
  by_cases e11 : r.c = s.c
  rotate_left
  · rw [same_f ht (fun h => e11 (congrArg GRec.c h))]
    exact ref12_Same_12 r s A1 A2 c1 c2 S w h1 h2 ⟨fun _ => ev, fun _ => rfl⟩ (beq_t e0) (beq_t e1) (beq_t e2) (beq_t e3) (beq_t e4) (beq_t e5) (beq_t e6) (beq_t e7) (beq_t e8) (beqS_t e9) (beqS_t e10) (beqS_f e11)
  have htt : t = true := ht.2 (by
    clear h1 h2 ht
    cases r; cases s
    simp only at *
    subst ev e0 e1 e2 e3 e4 e5 e6 e7 e8 e9 e10 e11
    rfl)
  rw [htt]
  exact ref12_Same_13 r s A1 A2 c1 c2 S w h1 h2 ⟨fun _ => ev, fun _ => rfl⟩ (beq_t e0) (beq_t e1) (beq_t e2) (beq_t e3) (beq_t e4) (beq_t e5) (beq_t e6) (beq_t e7) (beq_t e8) (beqS_t e9) (beqS_t e10) (beqS_t e11)
end Go.Proofs.Ytcfdbdmefdffdaa
/-
  The walks of rec.May and Bytes. Printed by genmay.py.
-/
set_option linter.unusedVariables false
set_option linter.unusedSimpArgs false
namespace Go.Proofs.Ytcfdbdmefdffdaa
open Go Go.RowKit Go.Proofs.Base
open Go.Sort (grow)
theorem iff_bne {a b : Int} : ((a == 1) != (b == 0)) = decide (¬ (a = 1 ↔ b = 0)) := by
  rw [Bool.eq_iff_iff, bne_iff_ne, decide_eq_true_iff]
  by_cases h : a = 1
  · by_cases k : b = 0
    · simp [beq_t h, beq_t k, h, k]
    · simp [beq_t h, beq_f k, h, k]
  · by_cases k : b = 0
    · simp [beq_f h, beq_t k, h, k]
    · simp [beq_f h, beq_f k, h, k]
set_option maxRecDepth 100000 in
set_option maxHeartbeats 4000000 in
theorem rec_May (r : GRec) (vv : Value) (S : Nat → Prop) (w : World) (hrow : Row w S 4 r.vars.length vv (varCells r.vars)) (hw : r.wf) :
    Calls Try.prog 11 #[.agg #[.int .i64 r.cls, .int .i64 r.kind, .int .u64 r.frm, .int .i64 r.time, .int .u64 r.key, .int .u64 r.key2, .int .u64 r.key3, .int .i64 r.n, .int .i64 r.m, .string r.a, .string r.b, .string r.c, vv]] w fun e w' => e = .returned (.bool (recMay r)) ∧ Below w.heap.size w w' := by
  have HW := Lib.hid hw
  have HR := Lib.hid hrow
  have hbb : Below w.heap.size w (w.alloc (.cells #[.int .i64 r.cls, .int .i64 r.kind, .int .u64 r.frm, .int .i64 r.time, .int .u64 r.key, .int .u64 r.key2, .int .u64 r.key3, .int .i64 r.n, .int .i64 r.m, .string r.a, .string r.b, .string r.c, vv] 25)) := (Below.refl _ _).alloc (Nat.le_refl _) _
  have HB := Lib.hid hbb
  have hiff := @iff_bne r.cls r.frm
  clear hbb hw hrow
  by_cases c0 : r.cls < 1
  · have f0 : decide (r.cls < 1) = true := by exact decide_eq_true c0
    have hv : recMay r = false := decide_eq_false (fun h => by obtain ⟨p0, p1, p2, p3, p4, p5, p6, p7, p8, p9, p10, p11⟩ := h; clear p4; omega)
    have HV := Lib.hid hv
    clear hv c0
    go_enter Try.func11, Try.ntmps11
    go_wp2_with ((go_at_call 19; refine (rec_most r vv _).mono ?_; rintro e w1 ⟨rfl, hb1⟩; have hB1 := block_below hb1 (blk_new w _ rfl); have k01 := (cell_of_blk hB1 0).trans (rfl : _ = some (Value.int .i64 r.cls)); have k11 := (cell_of_blk hB1 1).trans (rfl : _ = some (Value.int .i64 r.kind)); have k21 := (cell_of_blk hB1 2).trans (rfl : _ = some (Value.int .u64 r.frm)); have k31 := (cell_of_blk hB1 3).trans (rfl : _ = some (Value.int .i64 r.time)); have k41 := (cell_of_blk hB1 4).trans (rfl : _ = some (Value.int .u64 r.key)); have k51 := (cell_of_blk hB1 5).trans (rfl : _ = some (Value.int .u64 r.key2)); have k61 := (cell_of_blk hB1 6).trans (rfl : _ = some (Value.int .u64 r.key3)); have k71 := (cell_of_blk hB1 7).trans (rfl : _ = some (Value.int .i64 r.n)); have k81 := (cell_of_blk hB1 8).trans (rfl : _ = some (Value.int .i64 r.m)); have k91 := (cell_of_blk hB1 9).trans (rfl : _ = some (Value.string r.a)); have k101 := (cell_of_blk hB1 10).trans (rfl : _ = some (Value.string r.b)); have k111 := (cell_of_blk hB1 11).trans (rfl : _ = some (Value.string r.c)); have k121 := (cell_of_blk hB1 12).trans (rfl : _ = some vv)))
    go_ret
    exact ⟨by rw [HV.out]; rfl, below2 HB.out hb1⟩
  have f0 : decide (r.cls < 1) = false := by exact decide_eq_false c0
  by_cases c1 : (3 : Int) < r.cls
  · have f1 : decide ((3 : Int) < r.cls) = true := by exact decide_eq_true c1
    have hv : recMay r = false := decide_eq_false (fun h => by obtain ⟨p0, p1, p2, p3, p4, p5, p6, p7, p8, p9, p10, p11⟩ := h; clear p4; omega)
    have HV := Lib.hid hv
    clear hv c0 c1
    go_enter Try.func11, Try.ntmps11
    go_wp2_with ((go_at_call 19; refine (rec_most r vv _).mono ?_; rintro e w1 ⟨rfl, hb1⟩; have hB1 := block_below hb1 (blk_new w _ rfl); have k01 := (cell_of_blk hB1 0).trans (rfl : _ = some (Value.int .i64 r.cls)); have k11 := (cell_of_blk hB1 1).trans (rfl : _ = some (Value.int .i64 r.kind)); have k21 := (cell_of_blk hB1 2).trans (rfl : _ = some (Value.int .u64 r.frm)); have k31 := (cell_of_blk hB1 3).trans (rfl : _ = some (Value.int .i64 r.time)); have k41 := (cell_of_blk hB1 4).trans (rfl : _ = some (Value.int .u64 r.key)); have k51 := (cell_of_blk hB1 5).trans (rfl : _ = some (Value.int .u64 r.key2)); have k61 := (cell_of_blk hB1 6).trans (rfl : _ = some (Value.int .u64 r.key3)); have k71 := (cell_of_blk hB1 7).trans (rfl : _ = some (Value.int .i64 r.n)); have k81 := (cell_of_blk hB1 8).trans (rfl : _ = some (Value.int .i64 r.m)); have k91 := (cell_of_blk hB1 9).trans (rfl : _ = some (Value.string r.a)); have k101 := (cell_of_blk hB1 10).trans (rfl : _ = some (Value.string r.b)); have k111 := (cell_of_blk hB1 11).trans (rfl : _ = some (Value.string r.c)); have k121 := (cell_of_blk hB1 12).trans (rfl : _ = some vv)))
    go_ret
    exact ⟨by rw [HV.out]; rfl, below2 HB.out hb1⟩
  have f1 : decide ((3 : Int) < r.cls) = false := by exact decide_eq_false c1
  by_cases c2 : r.kind < 1
  · have f2 : decide (r.kind < 1) = true := by exact decide_eq_true c2
    have hv : recMay r = false := decide_eq_false (fun h => by obtain ⟨p0, p1, p2, p3, p4, p5, p6, p7, p8, p9, p10, p11⟩ := h; clear p4; omega)
    have HV := Lib.hid hv
    clear hv c0 c1 c2
    go_enter Try.func11, Try.ntmps11
    go_wp2_with ((go_at_call 19; refine (rec_most r vv _).mono ?_; rintro e w1 ⟨rfl, hb1⟩; have hB1 := block_below hb1 (blk_new w _ rfl); have k01 := (cell_of_blk hB1 0).trans (rfl : _ = some (Value.int .i64 r.cls)); have k11 := (cell_of_blk hB1 1).trans (rfl : _ = some (Value.int .i64 r.kind)); have k21 := (cell_of_blk hB1 2).trans (rfl : _ = some (Value.int .u64 r.frm)); have k31 := (cell_of_blk hB1 3).trans (rfl : _ = some (Value.int .i64 r.time)); have k41 := (cell_of_blk hB1 4).trans (rfl : _ = some (Value.int .u64 r.key)); have k51 := (cell_of_blk hB1 5).trans (rfl : _ = some (Value.int .u64 r.key2)); have k61 := (cell_of_blk hB1 6).trans (rfl : _ = some (Value.int .u64 r.key3)); have k71 := (cell_of_blk hB1 7).trans (rfl : _ = some (Value.int .i64 r.n)); have k81 := (cell_of_blk hB1 8).trans (rfl : _ = some (Value.int .i64 r.m)); have k91 := (cell_of_blk hB1 9).trans (rfl : _ = some (Value.string r.a)); have k101 := (cell_of_blk hB1 10).trans (rfl : _ = some (Value.string r.b)); have k111 := (cell_of_blk hB1 11).trans (rfl : _ = some (Value.string r.c)); have k121 := (cell_of_blk hB1 12).trans (rfl : _ = some vv)))
    go_ret
    exact ⟨by rw [HV.out]; rfl, below2 HB.out hb1⟩
  have f2 : decide (r.kind < 1) = false := by exact decide_eq_false c2
  by_cases c3 : kindsM r.cls < r.kind
  · have f3 : decide (kindsM r.cls < r.kind) = true := by exact decide_eq_true c3
    have hv : recMay r = false := decide_eq_false (fun h => by obtain ⟨p0, p1, p2, p3, p4, p5, p6, p7, p8, p9, p10, p11⟩ := h; clear p4; omega)
    have HV := Lib.hid hv
    clear hv c0 c1 c2 c3
    go_enter Try.func11, Try.ntmps11
    go_wp2_with ((go_at_call 19; refine (rec_most r vv _).mono ?_; rintro e w1 ⟨rfl, hb1⟩; have hB1 := block_below hb1 (blk_new w _ rfl); have k01 := (cell_of_blk hB1 0).trans (rfl : _ = some (Value.int .i64 r.cls)); have k11 := (cell_of_blk hB1 1).trans (rfl : _ = some (Value.int .i64 r.kind)); have k21 := (cell_of_blk hB1 2).trans (rfl : _ = some (Value.int .u64 r.frm)); have k31 := (cell_of_blk hB1 3).trans (rfl : _ = some (Value.int .i64 r.time)); have k41 := (cell_of_blk hB1 4).trans (rfl : _ = some (Value.int .u64 r.key)); have k51 := (cell_of_blk hB1 5).trans (rfl : _ = some (Value.int .u64 r.key2)); have k61 := (cell_of_blk hB1 6).trans (rfl : _ = some (Value.int .u64 r.key3)); have k71 := (cell_of_blk hB1 7).trans (rfl : _ = some (Value.int .i64 r.n)); have k81 := (cell_of_blk hB1 8).trans (rfl : _ = some (Value.int .i64 r.m)); have k91 := (cell_of_blk hB1 9).trans (rfl : _ = some (Value.string r.a)); have k101 := (cell_of_blk hB1 10).trans (rfl : _ = some (Value.string r.b)); have k111 := (cell_of_blk hB1 11).trans (rfl : _ = some (Value.string r.c)); have k121 := (cell_of_blk hB1 12).trans (rfl : _ = some vv)))
    go_ret
    exact ⟨by rw [HV.out]; rfl, below2 HB.out hb1⟩
  have f3 : decide (kindsM r.cls < r.kind) = false := by exact decide_eq_false c3
  by_cases c4 : ¬ (r.cls = 1 ↔ r.frm = 0)
  · have f4 : decide (¬ (r.cls = 1 ↔ r.frm = 0)) = true := by exact decide_eq_true c4
    have hv : recMay r = false := decide_eq_false (fun h => by obtain ⟨p0, p1, p2, p3, p4, p5, p6, p7, p8, p9, p10, p11⟩ := h; exact c4 p4)
    have HV := Lib.hid hv
    clear hv c0 c1 c2 c3 c4
    rw [f4] at hiff
    have hiff2 : ¬ ((r.cls == 1) = (r.frm == 0)) := by rwa [bne_iff_ne] at hiff
    go_enter Try.func11, Try.ntmps11
    go_wp2_with ((go_at_call 19; refine (rec_most r vv _).mono ?_; rintro e w1 ⟨rfl, hb1⟩; have hB1 := block_below hb1 (blk_new w _ rfl); have k01 := (cell_of_blk hB1 0).trans (rfl : _ = some (Value.int .i64 r.cls)); have k11 := (cell_of_blk hB1 1).trans (rfl : _ = some (Value.int .i64 r.kind)); have k21 := (cell_of_blk hB1 2).trans (rfl : _ = some (Value.int .u64 r.frm)); have k31 := (cell_of_blk hB1 3).trans (rfl : _ = some (Value.int .i64 r.time)); have k41 := (cell_of_blk hB1 4).trans (rfl : _ = some (Value.int .u64 r.key)); have k51 := (cell_of_blk hB1 5).trans (rfl : _ = some (Value.int .u64 r.key2)); have k61 := (cell_of_blk hB1 6).trans (rfl : _ = some (Value.int .u64 r.key3)); have k71 := (cell_of_blk hB1 7).trans (rfl : _ = some (Value.int .i64 r.n)); have k81 := (cell_of_blk hB1 8).trans (rfl : _ = some (Value.int .i64 r.m)); have k91 := (cell_of_blk hB1 9).trans (rfl : _ = some (Value.string r.a)); have k101 := (cell_of_blk hB1 10).trans (rfl : _ = some (Value.string r.b)); have k111 := (cell_of_blk hB1 11).trans (rfl : _ = some (Value.string r.c)); have k121 := (cell_of_blk hB1 12).trans (rfl : _ = some vv)))
    go_ret
    exact ⟨by rw [HV.out]; rfl, below2 HB.out hb1⟩
  have f4 : decide (¬ (r.cls = 1 ↔ r.frm = 0)) = false := by exact decide_eq_false c4
  by_cases c5 : r.time < 0
  · have f5 : decide (r.time < 0) = true := by exact decide_eq_true c5
    have hv : recMay r = false := decide_eq_false (fun h => by obtain ⟨p0, p1, p2, p3, p4, p5, p6, p7, p8, p9, p10, p11⟩ := h; clear c4 p4; omega)
    have HV := Lib.hid hv
    clear hv c0 c1 c2 c3 c4 c5
    rw [f4] at hiff
    have hiff2 : (r.cls == 1) = (r.frm == 0) := by rwa [bne_eq_false_iff_eq] at hiff
    go_enter Try.func11, Try.ntmps11
    go_wp2_with ((go_at_call 19; refine (rec_most r vv _).mono ?_; rintro e w1 ⟨rfl, hb1⟩; have hB1 := block_below hb1 (blk_new w _ rfl); have k01 := (cell_of_blk hB1 0).trans (rfl : _ = some (Value.int .i64 r.cls)); have k11 := (cell_of_blk hB1 1).trans (rfl : _ = some (Value.int .i64 r.kind)); have k21 := (cell_of_blk hB1 2).trans (rfl : _ = some (Value.int .u64 r.frm)); have k31 := (cell_of_blk hB1 3).trans (rfl : _ = some (Value.int .i64 r.time)); have k41 := (cell_of_blk hB1 4).trans (rfl : _ = some (Value.int .u64 r.key)); have k51 := (cell_of_blk hB1 5).trans (rfl : _ = some (Value.int .u64 r.key2)); have k61 := (cell_of_blk hB1 6).trans (rfl : _ = some (Value.int .u64 r.key3)); have k71 := (cell_of_blk hB1 7).trans (rfl : _ = some (Value.int .i64 r.n)); have k81 := (cell_of_blk hB1 8).trans (rfl : _ = some (Value.int .i64 r.m)); have k91 := (cell_of_blk hB1 9).trans (rfl : _ = some (Value.string r.a)); have k101 := (cell_of_blk hB1 10).trans (rfl : _ = some (Value.string r.b)); have k111 := (cell_of_blk hB1 11).trans (rfl : _ = some (Value.string r.c)); have k121 := (cell_of_blk hB1 12).trans (rfl : _ = some vv)))
    go_ret
    exact ⟨by rw [HV.out]; rfl, below2 HB.out hb1⟩
  have f5 : decide (r.time < 0) = false := by exact decide_eq_false c5
  by_cases c6 : (1099511627776 : Int) < r.time
  · have f6 : decide ((1099511627776 : Int) < r.time) = true := by exact decide_eq_true c6
    have hv : recMay r = false := decide_eq_false (fun h => by obtain ⟨p0, p1, p2, p3, p4, p5, p6, p7, p8, p9, p10, p11⟩ := h; clear c4 p4; omega)
    have HV := Lib.hid hv
    clear hv c0 c1 c2 c3 c4 c5 c6
    rw [f4] at hiff
    have hiff2 : (r.cls == 1) = (r.frm == 0) := by rwa [bne_eq_false_iff_eq] at hiff
    go_enter Try.func11, Try.ntmps11
    go_wp2_with ((go_at_call 19; refine (rec_most r vv _).mono ?_; rintro e w1 ⟨rfl, hb1⟩; have hB1 := block_below hb1 (blk_new w _ rfl); have k01 := (cell_of_blk hB1 0).trans (rfl : _ = some (Value.int .i64 r.cls)); have k11 := (cell_of_blk hB1 1).trans (rfl : _ = some (Value.int .i64 r.kind)); have k21 := (cell_of_blk hB1 2).trans (rfl : _ = some (Value.int .u64 r.frm)); have k31 := (cell_of_blk hB1 3).trans (rfl : _ = some (Value.int .i64 r.time)); have k41 := (cell_of_blk hB1 4).trans (rfl : _ = some (Value.int .u64 r.key)); have k51 := (cell_of_blk hB1 5).trans (rfl : _ = some (Value.int .u64 r.key2)); have k61 := (cell_of_blk hB1 6).trans (rfl : _ = some (Value.int .u64 r.key3)); have k71 := (cell_of_blk hB1 7).trans (rfl : _ = some (Value.int .i64 r.n)); have k81 := (cell_of_blk hB1 8).trans (rfl : _ = some (Value.int .i64 r.m)); have k91 := (cell_of_blk hB1 9).trans (rfl : _ = some (Value.string r.a)); have k101 := (cell_of_blk hB1 10).trans (rfl : _ = some (Value.string r.b)); have k111 := (cell_of_blk hB1 11).trans (rfl : _ = some (Value.string r.c)); have k121 := (cell_of_blk hB1 12).trans (rfl : _ = some vv)))
    go_ret
    exact ⟨by rw [HV.out]; rfl, below2 HB.out hb1⟩
  have f6 : decide ((1099511627776 : Int) < r.time) = false := by exact decide_eq_false c6
  by_cases c7 : aMost r.cls r.kind < (r.a.size : Int)
  · have f7 : decide (aMost r.cls r.kind < (r.a.size : Int)) = true := by exact decide_eq_true c7
    have hv : recMay r = false := decide_eq_false (fun h => by obtain ⟨p0, p1, p2, p3, p4, p5, p6, p7, p8, p9, p10, p11⟩ := h; clear c4 p4; omega)
    have HV := Lib.hid hv
    clear hv c0 c1 c2 c3 c4 c5 c6 c7
    rw [f4] at hiff
    have hiff2 : (r.cls == 1) = (r.frm == 0) := by rwa [bne_eq_false_iff_eq] at hiff
    go_enter Try.func11, Try.ntmps11
    go_wp2_with ((go_at_call 19; refine (rec_most r vv _).mono ?_; rintro e w1 ⟨rfl, hb1⟩; have hB1 := block_below hb1 (blk_new w _ rfl); have k01 := (cell_of_blk hB1 0).trans (rfl : _ = some (Value.int .i64 r.cls)); have k11 := (cell_of_blk hB1 1).trans (rfl : _ = some (Value.int .i64 r.kind)); have k21 := (cell_of_blk hB1 2).trans (rfl : _ = some (Value.int .u64 r.frm)); have k31 := (cell_of_blk hB1 3).trans (rfl : _ = some (Value.int .i64 r.time)); have k41 := (cell_of_blk hB1 4).trans (rfl : _ = some (Value.int .u64 r.key)); have k51 := (cell_of_blk hB1 5).trans (rfl : _ = some (Value.int .u64 r.key2)); have k61 := (cell_of_blk hB1 6).trans (rfl : _ = some (Value.int .u64 r.key3)); have k71 := (cell_of_blk hB1 7).trans (rfl : _ = some (Value.int .i64 r.n)); have k81 := (cell_of_blk hB1 8).trans (rfl : _ = some (Value.int .i64 r.m)); have k91 := (cell_of_blk hB1 9).trans (rfl : _ = some (Value.string r.a)); have k101 := (cell_of_blk hB1 10).trans (rfl : _ = some (Value.string r.b)); have k111 := (cell_of_blk hB1 11).trans (rfl : _ = some (Value.string r.c)); have k121 := (cell_of_blk hB1 12).trans (rfl : _ = some vv)))
    go_ret
    exact ⟨by rw [HV.out]; rfl, below2 HB.out hb1⟩
  have f7 : decide (aMost r.cls r.kind < (r.a.size : Int)) = false := by exact decide_eq_false c7
  by_cases c8 : bMost r.cls r.kind < (r.b.size : Int)
  · have f8 : decide (bMost r.cls r.kind < (r.b.size : Int)) = true := by exact decide_eq_true c8
    have hv : recMay r = false := decide_eq_false (fun h => by obtain ⟨p0, p1, p2, p3, p4, p5, p6, p7, p8, p9, p10, p11⟩ := h; clear c4 p4; omega)
    have HV := Lib.hid hv
    clear hv c0 c1 c2 c3 c4 c5 c6 c7 c8
    rw [f4] at hiff
    have hiff2 : (r.cls == 1) = (r.frm == 0) := by rwa [bne_eq_false_iff_eq] at hiff
    go_enter Try.func11, Try.ntmps11
    go_wp2_with ((go_at_call 19; refine (rec_most r vv _).mono ?_; rintro e w1 ⟨rfl, hb1⟩; have hB1 := block_below hb1 (blk_new w _ rfl); have k01 := (cell_of_blk hB1 0).trans (rfl : _ = some (Value.int .i64 r.cls)); have k11 := (cell_of_blk hB1 1).trans (rfl : _ = some (Value.int .i64 r.kind)); have k21 := (cell_of_blk hB1 2).trans (rfl : _ = some (Value.int .u64 r.frm)); have k31 := (cell_of_blk hB1 3).trans (rfl : _ = some (Value.int .i64 r.time)); have k41 := (cell_of_blk hB1 4).trans (rfl : _ = some (Value.int .u64 r.key)); have k51 := (cell_of_blk hB1 5).trans (rfl : _ = some (Value.int .u64 r.key2)); have k61 := (cell_of_blk hB1 6).trans (rfl : _ = some (Value.int .u64 r.key3)); have k71 := (cell_of_blk hB1 7).trans (rfl : _ = some (Value.int .i64 r.n)); have k81 := (cell_of_blk hB1 8).trans (rfl : _ = some (Value.int .i64 r.m)); have k91 := (cell_of_blk hB1 9).trans (rfl : _ = some (Value.string r.a)); have k101 := (cell_of_blk hB1 10).trans (rfl : _ = some (Value.string r.b)); have k111 := (cell_of_blk hB1 11).trans (rfl : _ = some (Value.string r.c)); have k121 := (cell_of_blk hB1 12).trans (rfl : _ = some vv)))
    go_ret
    exact ⟨by rw [HV.out]; rfl, below2 HB.out hb1⟩
  have f8 : decide (bMost r.cls r.kind < (r.b.size : Int)) = false := by exact decide_eq_false c8
  by_cases c9 : (32 : Int) < (r.c.size : Int)
  · have f9 : decide ((32 : Int) < (r.c.size : Int)) = true := by exact decide_eq_true c9
    have hv : recMay r = false := decide_eq_false (fun h => by obtain ⟨p0, p1, p2, p3, p4, p5, p6, p7, p8, p9, p10, p11⟩ := h; clear c4 p4; omega)
    have HV := Lib.hid hv
    clear hv c0 c1 c2 c3 c4 c5 c6 c7 c8 c9
    rw [f4] at hiff
    have hiff2 : (r.cls == 1) = (r.frm == 0) := by rwa [bne_eq_false_iff_eq] at hiff
    go_enter Try.func11, Try.ntmps11
    go_wp2_with ((go_at_call 19; refine (rec_most r vv _).mono ?_; rintro e w1 ⟨rfl, hb1⟩; have hB1 := block_below hb1 (blk_new w _ rfl); have k01 := (cell_of_blk hB1 0).trans (rfl : _ = some (Value.int .i64 r.cls)); have k11 := (cell_of_blk hB1 1).trans (rfl : _ = some (Value.int .i64 r.kind)); have k21 := (cell_of_blk hB1 2).trans (rfl : _ = some (Value.int .u64 r.frm)); have k31 := (cell_of_blk hB1 3).trans (rfl : _ = some (Value.int .i64 r.time)); have k41 := (cell_of_blk hB1 4).trans (rfl : _ = some (Value.int .u64 r.key)); have k51 := (cell_of_blk hB1 5).trans (rfl : _ = some (Value.int .u64 r.key2)); have k61 := (cell_of_blk hB1 6).trans (rfl : _ = some (Value.int .u64 r.key3)); have k71 := (cell_of_blk hB1 7).trans (rfl : _ = some (Value.int .i64 r.n)); have k81 := (cell_of_blk hB1 8).trans (rfl : _ = some (Value.int .i64 r.m)); have k91 := (cell_of_blk hB1 9).trans (rfl : _ = some (Value.string r.a)); have k101 := (cell_of_blk hB1 10).trans (rfl : _ = some (Value.string r.b)); have k111 := (cell_of_blk hB1 11).trans (rfl : _ = some (Value.string r.c)); have k121 := (cell_of_blk hB1 12).trans (rfl : _ = some vv)))
    go_ret
    exact ⟨by rw [HV.out]; rfl, below2 HB.out hb1⟩
  have f9 : decide ((32 : Int) < (r.c.size : Int)) = false := by exact decide_eq_false c9
  by_cases c10 : rightV r.vars = false
  · have f10 : rightV r.vars = false := by exact c10
    have hv : recMay r = false := decide_eq_false (fun h => by obtain ⟨p0, p1, p2, p3, p4, p5, p6, p7, p8, p9, p10, p11⟩ := h; rw [p10] at c10; cases c10)
    have HV := Lib.hid hv
    clear hv c0 c1 c2 c3 c4 c5 c6 c7 c8 c9 c10
    rw [f4] at hiff
    have hiff2 : (r.cls == 1) = (r.frm == 0) := by rwa [bne_eq_false_iff_eq] at hiff
    go_enter Try.func11, Try.ntmps11
    go_wp2_with (first | (go_at_call 19; refine (rec_most r vv _).mono ?_; rintro e w1 ⟨rfl, hb1⟩; have hB1 := block_below hb1 (blk_new w _ rfl); have k01 := (cell_of_blk hB1 0).trans (rfl : _ = some (Value.int .i64 r.cls)); have k11 := (cell_of_blk hB1 1).trans (rfl : _ = some (Value.int .i64 r.kind)); have k21 := (cell_of_blk hB1 2).trans (rfl : _ = some (Value.int .u64 r.frm)); have k31 := (cell_of_blk hB1 3).trans (rfl : _ = some (Value.int .i64 r.time)); have k41 := (cell_of_blk hB1 4).trans (rfl : _ = some (Value.int .u64 r.key)); have k51 := (cell_of_blk hB1 5).trans (rfl : _ = some (Value.int .u64 r.key2)); have k61 := (cell_of_blk hB1 6).trans (rfl : _ = some (Value.int .u64 r.key3)); have k71 := (cell_of_blk hB1 7).trans (rfl : _ = some (Value.int .i64 r.n)); have k81 := (cell_of_blk hB1 8).trans (rfl : _ = some (Value.int .i64 r.m)); have k91 := (cell_of_blk hB1 9).trans (rfl : _ = some (Value.string r.a)); have k101 := (cell_of_blk hB1 10).trans (rfl : _ = some (Value.string r.b)); have k111 := (cell_of_blk hB1 11).trans (rfl : _ = some (Value.string r.c)); have k121 := (cell_of_blk hB1 12).trans (rfl : _ = some vv)) | (go_at_call 20; refine (val_Right S r.vars r.vars.length vv _ rfl ((HR.out.below HB.out).below hb1) (HW.out.2.2.2.2.2.2.2.2.2.2.2.2)).mono ?_; rintro e w2 ⟨rfl, hb2⟩; have hB2 := block_below hb2 hB1; have k02 := (cell_of_blk hB2 0).trans (rfl : _ = some (Value.int .i64 r.cls)); have k12 := (cell_of_blk hB2 1).trans (rfl : _ = some (Value.int .i64 r.kind)); have k22 := (cell_of_blk hB2 2).trans (rfl : _ = some (Value.int .u64 r.frm)); have k32 := (cell_of_blk hB2 3).trans (rfl : _ = some (Value.int .i64 r.time)); have k42 := (cell_of_blk hB2 4).trans (rfl : _ = some (Value.int .u64 r.key)); have k52 := (cell_of_blk hB2 5).trans (rfl : _ = some (Value.int .u64 r.key2)); have k62 := (cell_of_blk hB2 6).trans (rfl : _ = some (Value.int .u64 r.key3)); have k72 := (cell_of_blk hB2 7).trans (rfl : _ = some (Value.int .i64 r.n)); have k82 := (cell_of_blk hB2 8).trans (rfl : _ = some (Value.int .i64 r.m)); have k92 := (cell_of_blk hB2 9).trans (rfl : _ = some (Value.string r.a)); have k102 := (cell_of_blk hB2 10).trans (rfl : _ = some (Value.string r.b)); have k112 := (cell_of_blk hB2 11).trans (rfl : _ = some (Value.string r.c)); have k122 := (cell_of_blk hB2 12).trans (rfl : _ = some vv)))
    go_ret
    exact ⟨by rw [HV.out]; rfl, below2 (below2 HB.out hb1) hb2⟩
  have f10 : rightV r.vars = true := by simpa using c10
  have hv : recMay r = decide (((recText r).size : Int) ≤ 4096) := by
    refine decide_eq_decide.2 ⟨fun h => ?_, fun h => ?_⟩
    · obtain ⟨p0, p1, p2, p3, p4, p5, p6, p7, p8, p9, p10, p11⟩ := h
      clear p4 c4; omega
    · have c4' := Classical.not_not.1 c4
      clear c4 HW HR HB hiff f4
      exact ⟨by omega, by omega, by omega, by omega, c4', by omega, by omega, by omega, by omega, by omega, f10, by omega⟩
  have HV := Lib.hid hv
  clear hv c0 c1 c2 c3 c4 c5 c6 c7 c8 c9 c10
  rw [f4] at hiff
  have hiff2 : (r.cls == 1) = (r.frm == 0) := by rwa [bne_eq_false_iff_eq] at hiff
  go_enter Try.func11, Try.ntmps11
  go_wp2_with (first | (go_at_call 19; refine (rec_most r vv _).mono ?_; rintro e w1 ⟨rfl, hb1⟩; have hB1 := block_below hb1 (blk_new w _ rfl); have k01 := (cell_of_blk hB1 0).trans (rfl : _ = some (Value.int .i64 r.cls)); have k11 := (cell_of_blk hB1 1).trans (rfl : _ = some (Value.int .i64 r.kind)); have k21 := (cell_of_blk hB1 2).trans (rfl : _ = some (Value.int .u64 r.frm)); have k31 := (cell_of_blk hB1 3).trans (rfl : _ = some (Value.int .i64 r.time)); have k41 := (cell_of_blk hB1 4).trans (rfl : _ = some (Value.int .u64 r.key)); have k51 := (cell_of_blk hB1 5).trans (rfl : _ = some (Value.int .u64 r.key2)); have k61 := (cell_of_blk hB1 6).trans (rfl : _ = some (Value.int .u64 r.key3)); have k71 := (cell_of_blk hB1 7).trans (rfl : _ = some (Value.int .i64 r.n)); have k81 := (cell_of_blk hB1 8).trans (rfl : _ = some (Value.int .i64 r.m)); have k91 := (cell_of_blk hB1 9).trans (rfl : _ = some (Value.string r.a)); have k101 := (cell_of_blk hB1 10).trans (rfl : _ = some (Value.string r.b)); have k111 := (cell_of_blk hB1 11).trans (rfl : _ = some (Value.string r.c)); have k121 := (cell_of_blk hB1 12).trans (rfl : _ = some vv)) | (go_at_call 20; refine (val_Right S r.vars r.vars.length vv _ rfl ((HR.out.below HB.out).below hb1) (HW.out.2.2.2.2.2.2.2.2.2.2.2.2)).mono ?_; rintro e w2 ⟨rfl, hb2⟩; have hB2 := block_below hb2 hB1; have k02 := (cell_of_blk hB2 0).trans (rfl : _ = some (Value.int .i64 r.cls)); have k12 := (cell_of_blk hB2 1).trans (rfl : _ = some (Value.int .i64 r.kind)); have k22 := (cell_of_blk hB2 2).trans (rfl : _ = some (Value.int .u64 r.frm)); have k32 := (cell_of_blk hB2 3).trans (rfl : _ = some (Value.int .i64 r.time)); have k42 := (cell_of_blk hB2 4).trans (rfl : _ = some (Value.int .u64 r.key)); have k52 := (cell_of_blk hB2 5).trans (rfl : _ = some (Value.int .u64 r.key2)); have k62 := (cell_of_blk hB2 6).trans (rfl : _ = some (Value.int .u64 r.key3)); have k72 := (cell_of_blk hB2 7).trans (rfl : _ = some (Value.int .i64 r.n)); have k82 := (cell_of_blk hB2 8).trans (rfl : _ = some (Value.int .i64 r.m)); have k92 := (cell_of_blk hB2 9).trans (rfl : _ = some (Value.string r.a)); have k102 := (cell_of_blk hB2 10).trans (rfl : _ = some (Value.string r.b)); have k112 := (cell_of_blk hB2 11).trans (rfl : _ = some (Value.string r.c)); have k122 := (cell_of_blk hB2 12).trans (rfl : _ = some vv)) | (go_at_call 17; refine (rec_text r vv S _ (((HR.out.below HB.out).below hb1).below hb2) HW.out).mono ?_; rintro e w3 ⟨rfl, hb3⟩))
  go_ret
  exact ⟨by rw [HV.out]; rfl, below2 (below2 (below2 HB.out hb1) hb2) hb3⟩
set_option maxRecDepth 100000 in
set_option maxHeartbeats 1000000 in
theorem rec_Bytes (r : GRec) (vv : Value) (S : Nat → Prop) (w : World) (hrow : Row w S 4 r.vars.length vv (varCells r.vars)) (hw : r.wf) :
    Calls Try.prog 9 #[.agg #[.int .i64 r.cls, .int .i64 r.kind, .int .u64 r.frm, .int .i64 r.time, .int .u64 r.key, .int .u64 r.key2, .int .u64 r.key3, .int .i64 r.n, .int .i64 r.m, .string r.a, .string r.b, .string r.c, vv]] w fun e w' => e = .returned (.tuple #[.string (recB r).1, .int .i64 (recB r).2]) ∧ Below w.heap.size w w' := by
  have HW := Lib.hid hw
  have HR := Lib.hid hrow
  have hbb : Below w.heap.size w (w.alloc (.cells #[.int .i64 r.cls, .int .i64 r.kind, .int .u64 r.frm, .int .i64 r.time, .int .u64 r.key, .int .u64 r.key2, .int .u64 r.key3, .int .i64 r.n, .int .i64 r.m, .string r.a, .string r.b, .string r.c, vv] 25)) := (Below.refl _ _).alloc (Nat.le_refl _) _
  have HB := Lib.hid hbb
  have HM := Lib.hid (fun W h => rec_May r vv S W h hw)
  clear hbb hw hrow
  cases hm : recMay r
  · have hv : recB r = (⟨#[]⟩, 1) := by unfold recB; rw [hm]; rfl
    have HV := Lib.hid hv
    have HE := Lib.hid hm
    clear hm hv
    go_enter Try.func9, Try.ntmps9
    go_wp2_with (go_at_call 11; refine (HM.out _ (HR.out.below HB.out)).mono ?_; (have hE := HE.out); simp only [hE]; clear hE; rintro e w1 ⟨rfl, hb1⟩; have hB1 := block_below hb1 (blk_new w _ rfl); have k01 := (cell_of_blk hB1 0).trans (rfl : _ = some (Value.int .i64 r.cls)); have k11 := (cell_of_blk hB1 1).trans (rfl : _ = some (Value.int .i64 r.kind)); have k21 := (cell_of_blk hB1 2).trans (rfl : _ = some (Value.int .u64 r.frm)); have k31 := (cell_of_blk hB1 3).trans (rfl : _ = some (Value.int .i64 r.time)); have k41 := (cell_of_blk hB1 4).trans (rfl : _ = some (Value.int .u64 r.key)); have k51 := (cell_of_blk hB1 5).trans (rfl : _ = some (Value.int .u64 r.key2)); have k61 := (cell_of_blk hB1 6).trans (rfl : _ = some (Value.int .u64 r.key3)); have k71 := (cell_of_blk hB1 7).trans (rfl : _ = some (Value.int .i64 r.n)); have k81 := (cell_of_blk hB1 8).trans (rfl : _ = some (Value.int .i64 r.m)); have k91 := (cell_of_blk hB1 9).trans (rfl : _ = some (Value.string r.a)); have k101 := (cell_of_blk hB1 10).trans (rfl : _ = some (Value.string r.b)); have k111 := (cell_of_blk hB1 11).trans (rfl : _ = some (Value.string r.c)); have k121 := (cell_of_blk hB1 12).trans (rfl : _ = some vv))
    go_ret2
    exact ⟨by rw [HV.out]; rfl, below2 HB.out hb1⟩
  · have hv : recB r = (recText r, 0) := by unfold recB; rw [hm]; rfl
    have HV := Lib.hid hv
    have HE := Lib.hid hm
    clear hm hv
    go_enter Try.func9, Try.ntmps9
    go_wp2_with (first | (go_at_call 11; refine (HM.out _ (HR.out.below HB.out)).mono ?_; (have hE := HE.out); simp only [hE]; clear hE; rintro e w1 ⟨rfl, hb1⟩; have hB1 := block_below hb1 (blk_new w _ rfl); have k01 := (cell_of_blk hB1 0).trans (rfl : _ = some (Value.int .i64 r.cls)); have k11 := (cell_of_blk hB1 1).trans (rfl : _ = some (Value.int .i64 r.kind)); have k21 := (cell_of_blk hB1 2).trans (rfl : _ = some (Value.int .u64 r.frm)); have k31 := (cell_of_blk hB1 3).trans (rfl : _ = some (Value.int .i64 r.time)); have k41 := (cell_of_blk hB1 4).trans (rfl : _ = some (Value.int .u64 r.key)); have k51 := (cell_of_blk hB1 5).trans (rfl : _ = some (Value.int .u64 r.key2)); have k61 := (cell_of_blk hB1 6).trans (rfl : _ = some (Value.int .u64 r.key3)); have k71 := (cell_of_blk hB1 7).trans (rfl : _ = some (Value.int .i64 r.n)); have k81 := (cell_of_blk hB1 8).trans (rfl : _ = some (Value.int .i64 r.m)); have k91 := (cell_of_blk hB1 9).trans (rfl : _ = some (Value.string r.a)); have k101 := (cell_of_blk hB1 10).trans (rfl : _ = some (Value.string r.b)); have k111 := (cell_of_blk hB1 11).trans (rfl : _ = some (Value.string r.c)); have k121 := (cell_of_blk hB1 12).trans (rfl : _ = some vv)) | (go_at_call 17; refine (rec_text r vv S _ ((HR.out.below HB.out).below hb1) HW.out).mono ?_; rintro e w2 ⟨rfl, hb2⟩))
    go_ret2
    exact ⟨by rw [HV.out]; rfl, below2 (below2 HB.out hb1) hb2⟩
end Go.Proofs.Ytcfdbdmefdffdaa
/-
  Two records that are known; the walk of the law's 'shown'.
-/
set_option linter.unusedVariables false
set_option linter.unusedSimpArgs false
namespace Go.Proofs.Ytcfdbdmefdffdaa
open Go Go.RowKit Go.Proofs.Base
open Go.Sort (grow)
def rec1 : GRec := ⟨1, 7, 0, 0, 5, 0, 0, 0, 0, ⟨#[]⟩, ⟨#[]⟩, ⟨#[]⟩, []⟩
def rec0 : GRec := ⟨0, 0, 0, 0, 0, 0, 0, 0, 0, ⟨#[]⟩, ⟨#[]⟩, ⟨#[]⟩, []⟩
theorem rec1_B : recB rec1 = (⟨#[1,7,0,0,5,0,0,0,0,0,0,0,0]⟩, 0) := by kernel_rfl
theorem rec0_B : recB rec0 = (⟨#[]⟩, 1) := by kernel_rfl
theorem okS_empty : okS ⟨#[]⟩ := by show (0 : Nat) ≤ 140737488351232; decide
theorem rec1_wf : rec1.wf := ⟨⟨by decide, by decide⟩, ⟨by decide, by decide⟩, ⟨by decide, by decide⟩, ⟨by decide, by decide⟩, ⟨by decide, by decide⟩, ⟨by decide, by decide⟩, ⟨by decide, by decide⟩, ⟨by decide, by decide⟩, ⟨by decide, by decide⟩, okS_empty, okS_empty, okS_empty, fun x h => by cases h⟩
theorem rec0_wf : rec0.wf := ⟨⟨by decide, by decide⟩, ⟨by decide, by decide⟩, ⟨by decide, by decide⟩, ⟨by decide, by decide⟩, ⟨by decide, by decide⟩, ⟨by decide, by decide⟩, ⟨by decide, by decide⟩, ⟨by decide, by decide⟩, ⟨by decide, by decide⟩, okS_empty, okS_empty, okS_empty, fun x h => by cases h⟩
theorem rec1_Bytes (w : World) : Calls Try.prog 9 #[.agg #[.int .i64 1, .int .i64 7, .int .u64 0, .int .i64 0, .int .u64 5, .int .u64 0, .int .u64 0, .int .i64 0, .int .i64 0, .string ⟨#[]⟩, .string ⟨#[]⟩, .string ⟨#[]⟩, .slice none 0 0]] w fun e w' => e = .returned (.tuple #[.string ⟨#[1,7,0,0,5,0,0,0,0,0,0,0,0]⟩, .int .i64 0]) ∧ Below w.heap.size w w' := by
  have h := rec_Bytes rec1 (.slice none 0 0) (fun _ => False) w (Row.nil _ _ _) rec1_wf
  rw [rec1_B] at h
  exact h
theorem rec0_Bytes (w : World) : Calls Try.prog 9 #[.agg #[.int .i64 0, .int .i64 0, .int .u64 0, .int .i64 0, .int .u64 0, .int .u64 0, .int .u64 0, .int .i64 0, .int .i64 0, .string ⟨#[]⟩, .string ⟨#[]⟩, .string ⟨#[]⟩, .slice none 0 0]] w fun e w' => e = .returned (.tuple #[.string ⟨#[]⟩, .int .i64 1]) ∧ Below w.heap.size w w' := by
  have h := rec_Bytes rec0 (.slice none 0 0) (fun _ => False) w (Row.nil _ _ _) rec0_wf
  rw [rec0_B] at h
  exact h
set_option maxRecDepth 100000 in
set_option maxHeartbeats 1000000 in
theorem rec_shown (w : World) :
    Calls Try.prog 8 #[] w fun e w' => e = .returned (.bool true) ∧ Below w.heap.size w w' := by
  go_enter Try.func8, Try.ntmps8
  go_wp2_with (first | (go_at_call 9; refine (rec1_Bytes _).mono ?_; rintro e w1 ⟨rfl, hb1⟩) | (go_at_call 9; refine (rec0_Bytes _).mono ?_; rintro e w2 ⟨rfl, hb2⟩))
  go_ret
  exact ⟨rfl, below2 hb1 hb2⟩
end Go.Proofs.Ytcfdbdmefdffdaa
/-
  The walks of the reference's writers: Uint, Int, Text.
-/
set_option linter.unusedVariables false
set_option linter.unusedSimpArgs false
namespace Go.Proofs.Ytcfdbdmefdffdaa
open Go Go.RowKit Go.Proofs.Base
theorem ofN_append (a b : List Nat) : ofN (a ++ b) = ofN a ++ ofN b := by
  apply toL_inj
  rw [toL_append, toL_ofN, toL_ofN, toL_ofN, List.map_append]
set_option maxRecDepth 100000 in
set_option maxHeartbeats 1000000 in
theorem ref_Uint (v : Int) (w : World) (h0 : 0 ≤ v) (h1 : v ≤ 18446744073709551615) :
    Calls Try.prog 47 #[.int .u64 v] w fun e w' => e = .returned (.string (uintB v.toNat)) ∧ Below w.heap.size w w' := by
  have hlen : (uintN v.toNat).length ≤ 10 := uintN_len10 (by omega)
  have H1 := Lib.hid h1
  have Hlen := Lib.hid hlen
  clear h1 hlen
  go_enter Try.func47, Try.ntmps47
  go_wp2_with fail
  go_loopw [0, 3] (fun a b wr => ∃ (u : Nat) (xs : List Nat), a = .int .u64 u ∧ (u : Int) ≤ v ∧ Hid (xs ++ uintN u = uintN v.toNat) ∧ b = .string (ofN xs) ∧ Below w.heap.size w wr) (fun a _ _ => (intOf a).toNat)
  case atStart => exact ⟨v.toNat, [], by rw [Int.toNat_of_nonneg h0], by omega, Lib.hid rfl, rfl, Below.refl _ _⟩
  case round =>
    obtain ⟨u, xs, rfl, hu, HX, rfl, HB⟩ := hrel
    have hl2 : xs.length + (uintN u).length ≤ 10 := by have := congrArg List.length HX.out; have h9 := Hlen.out; rw [List.length_append] at this; omega
    have hp := uintN_pos u
    have hsz := ofN_size xs
    have hlit := fun (x : Nat) => lit_string (P := Try.prog) Try.underlying67 Try.underlying5 Try.underlying9 wr [x] 1 rfl (by omega)
    have hbel := fun (x : Nat) => HB.alloc HB.size (.cells #[.int .u8 (x : Int)] 5)
    have hap := fun (x : Nat) => ofN_append xs [x]
    have hs1 := fun (x : Nat) => ofN_size [x]
    by_cases hlt : 128 ≤ u
    · have hlt' : (128 : Int) ≤ u := by omega
      have e1 : (128 : Int) + (u : Int) % 128 = ((u % 128 + 128 : Nat) : Int) := by omega
      have hl' := hlit (u % 128 + 128)
      have hs' := hs1 (u % 128 + 128)
      have hb' := hbel (u % 128 + 128)
      have ha' := hap (u % 128 + 128)
      have hz : ¬ 9223372036854775807 < (ofN xs).size + (ofN [u % 128 + 128]).size := by rw [hs', hsz]; simp; omega
      have ew : IntKind.u64.wrap ((u : Int) / 128) = ((u / 128 : Nat) : Int) := by
        have : IntKind.u64.wrap ((u : Int) / 128) = ((u : Int) / 128) % 18446744073709551616 := by simp [IntKind.wrap, IntKind.bits, IntKind.signed]
        have := H1.out
        omega
      clear hlit hbel hap hs1
      simp only [nums8, List.map_cons, List.map_nil] at hl'
      rw [← e1] at hl' hb'
      clear e1
      go_wp2_with fail
      go_roundw
      case rel =>
        refine ⟨u / 128, xs ++ [u % 128 + 128], by first | rw [ew] | rfl, by omega, ?_, ?_, hb'⟩
        · have h9 := HX.out
          rw [uintN_ge (by omega)] at h9
          exact Lib.hid (by rw [← h9]; simp)
        · rw [ha']
      case measure => first | (rw [ew]; simp [intOf]; omega) | (simp [intOf, ew]; omega) | (simp [intOf]; omega)
    · have hlt' : ¬ (128 : Int) ≤ u := by omega
      have hl' := hlit u
      have hs' := hs1 u
      have hb' := hbel u
      have ha' := hap u
      have hz : ¬ 9223372036854775807 < (ofN xs).size + (ofN [u]).size := by rw [hs', hsz]; simp; omega
      clear hlit hbel hap hs1
      simp only [nums8, List.map_cons, List.map_nil] at hl'
      go_wp2_with fail
      go_ret
      have h9 := HX.out
      rw [uintN_lt (by omega)] at h9
      refine ⟨?_, hb'⟩
      rw [← ha', h9]; rfl
set_option maxHeartbeats 1000000 in
theorem ref_Int (v : Int) (w : World) (h0 : -9223372036854775808 ≤ v) (h1 : v ≤ 9223372036854775807) :
    Calls Try.prog 48 #[.int .i64 v] w fun e w' => e = .returned (.string (intB v)) ∧ Below w.heap.size w w' := by
  have hz := zig_lt h0 h1
  by_cases hv : 0 ≤ v
  · have e1 : ((zig v : Nat) : Int) = 2 * v := by unfold zig; rw [if_pos hv]; omega
    have hc := ref_Uint (2 * v) w (by omega) (by omega)
    have e2 : (2 * v).toNat = zig v := by omega
    rw [e2] at hc
    go_enter Try.func48, Try.ntmps48
    go_wp2_with (go_at_call 47; refine hc.mono ?_; rintro e w1 ⟨rfl, hb1⟩)
    go_ret
    exact ⟨rfl, hb1⟩
  · have e1 : ((zig v : Nat) : Int) = 2 * (-(v + 1)) + 1 := by unfold zig; rw [if_neg hv]; omega
    have hc := ref_Uint (2 * (-(v + 1)) + 1) w (by omega) (by omega)
    have e2 : (2 * (-(v + 1)) + 1).toNat = zig v := by omega
    rw [e2] at hc
    go_enter Try.func48, Try.ntmps48
    go_wp2_with (go_at_call 47; refine hc.mono ?_; rintro e w1 ⟨rfl, hb1⟩)
    go_ret
    exact ⟨rfl, hb1⟩
set_option maxHeartbeats 1000000 in
theorem ref_Text (s : ByteArray) (w : World) (h1 : s.size ≤ 140737488351232) :
    Calls Try.prog 49 #[.string s] w fun e w' => e = .returned (.string (textB s)) ∧ Below w.heap.size w w' := by
  have hu := uintB_size (v := s.size) (by omega)
  have hsz : ¬ 9223372036854775807 < (uintB s.size).size + s.size := by omega
  go_enter Try.func49, Try.ntmps49
  go_wp2_with (go_at_call 47; refine (ref_Uint _ _ (by omega) (by omega)).mono ?_; rintro e w1 ⟨rfl, hb1⟩)
  go_ret
  exact ⟨rfl, hb1⟩
end Go.Proofs.Ytcfdbdmefdffdaa
/-
  Variables that are read at whatever address (a slice that came in), and value.Get over them.
-/
set_option linter.unusedVariables false
set_option linter.unusedSimpArgs false
namespace Go.Proofs.Base
open Go Go.RowKit
theorem add_block (ad : Addr) (m : Nat) : (ad.add m).block = ad.block := by unfold Addr.add; split <;> rfl
def ReadsV (w : World) (A : Option Addr) (l : List GVar) : Prop :=
  ∀ k (h : k < l.length), ∃ ad, A = some ad ∧ ad.block < w.heap.size ∧ w.cell? (ad.add (k * 4)) = some (.string l[k].name) ∧ w.cell? ⟨(ad.add (k * 4)).block, (ad.add (k * 4)).off + 1, none⟩ = some (.int .i64 l[k].v.k) ∧
    w.cell? ⟨(ad.add (k * 4)).block, (ad.add (k * 4)).off + 2, none⟩ = some (.int .i64 l[k].v.n) ∧ w.cell? ⟨(ad.add (k * 4)).block, (ad.add (k * 4)).off + 3, none⟩ = some (.string l[k].v.s)
theorem ReadsV.below {w w' : World} {A : Option Addr} {l : List GVar} (h : ReadsV w A l) (hb : Below w.heap.size w w') : ReadsV w' A l := by
  intro k hk
  obtain ⟨ad, hA, hlt, c0, c1, c2, c3⟩ := h k hk
  have e := add_block ad (k * 4)
  exact ⟨ad, hA, Nat.lt_of_lt_of_le hlt hb.size, (hb.cell (p := ad.add (k * 4)) (by rw [e]; exact hlt)).trans c0, (hb.cell (p := ⟨(ad.add (k * 4)).block, (ad.add (k * 4)).off + 1, none⟩) (by show (ad.add (k * 4)).block < _; rw [e]; exact hlt)).trans c1,
    (hb.cell (p := ⟨(ad.add (k * 4)).block, (ad.add (k * 4)).off + 2, none⟩) (by show (ad.add (k * 4)).block < _; rw [e]; exact hlt)).trans c2, (hb.cell (p := ⟨(ad.add (k * 4)).block, (ad.add (k * 4)).off + 3, none⟩) (by show (ad.add (k * 4)).block < _; rw [e]; exact hlt)).trans c3⟩
def idxGo (name : ByteArray) : List GVar → Nat → Int
  | [], _ => -1
  | x :: r, i => if (x.name.toList == name.toList) = true then (i : Int) else idxGo name r (i + 1)
def getV (name : ByteArray) (l : List GVar) : Option GVal := (l.find? fun x => x.name.toList == name.toList).map (·.v)
theorem idxGo_spec (name : ByteArray) : ∀ (l : List GVar) (i : Nat), (idxGo name l i = -1 ∧ getV name l = none) ∨ (∃ j, ∃ h : j < l.length, idxGo name l i = ((i + j : Nat) : Int) ∧ getV name l = some l[j].v)
  | [], i => .inl ⟨rfl, rfl⟩
  | x :: r, i => by
    unfold idxGo getV
    by_cases h : (x.name.toList == name.toList) = true
    · rw [if_pos h]
      exact .inr ⟨0, by simp, rfl, by simp [h]⟩
    · rw [if_neg h, List.find?_cons_of_neg (p := fun y : GVar => y.name.toList == name.toList) (a := x) h]
      rcases idxGo_spec name r (i + 1) with ⟨h1, h2⟩ | ⟨j, hj, h1, h2⟩
      · exact .inl ⟨h1, h2⟩
      · refine .inr ⟨j + 1, by simpa using hj, ?_, h2⟩
        rw [h1]; congr 1; omega
end Go.Proofs.Base
