/-
  The walk of the reference's Same of records, ways [-1, 0, 1, 2]. Printed by gensamec.py.
-/
import Derived.Test.YtcfdbdmefdffdaaSameB
set_option linter.unusedVariables false
set_option linter.unusedSimpArgs false
namespace Go.Proofs.Ytcfdbdmefdffdaa
open Go Go.RowKit Go.Proofs.Base
open Go.Sort (grow)

set_option maxRecDepth 100000 in
set_option maxHeartbeats 8000000 in
theorem ref12_Same_0 (r s : GRec) (A1 A2 : Option Addr) (c1 c2 : Nat) (S : Nat → Prop) (w : World) (h1 : Row w S 4 r.vars.length (.slice A1 r.vars.length c1) (varCells r.vars)) (h2 : Row w S 4 s.vars.length (.slice A2 s.vars.length c2) (varCells s.vars)) (ht : (false = true) ↔ r.vars = s.vars)  :
    Calls Try.prog 14 #[.agg #[.int .i64 r.cls, .int .i64 r.kind, .int .u64 r.frm, .int .i64 r.time, .int .u64 r.key, .int .u64 r.key2, .int .u64 r.key3, .int .i64 r.n, .int .i64 r.m, .string r.a, .string r.b, .string r.c, .slice A1 r.vars.length c1], .agg #[.int .i64 s.cls, .int .i64 s.kind, .int .u64 s.frm, .int .i64 s.time, .int .u64 s.key, .int .u64 s.key2, .int .u64 s.key3, .int .i64 s.n, .int .i64 s.m, .string s.a, .string s.b, .string s.c, .slice A2 s.vars.length c2]] w fun e w' => e = .returned (.bool false) ∧ Below w.heap.size w w' := by
  have hb : Below w.heap.size w ((w.alloc (.cells #[.int .i64 r.cls, .int .i64 r.kind, .int .u64 r.frm, .int .i64 r.time, .int .u64 r.key, .int .u64 r.key2, .int .u64 r.key3, .int .i64 r.n, .int .i64 r.m, .string r.a, .string r.b, .string r.c, .slice A1 r.vars.length c1] 25)).alloc (.cells #[.int .i64 s.cls, .int .i64 s.kind, .int .u64 s.frm, .int .i64 s.time, .int .u64 s.key, .int .u64 s.key2, .int .u64 s.key3, .int .i64 s.n, .int .i64 s.m, .string s.a, .string s.b, .string s.c, .slice A2 s.vars.length c2] 25)) := ((Below.refl _ _).alloc (Nat.le_refl _) _).alloc (by simp) _
  have b1 : ((w.alloc (.cells #[.int .i64 r.cls, .int .i64 r.kind, .int .u64 r.frm, .int .i64 r.time, .int .u64 r.key, .int .u64 r.key2, .int .u64 r.key3, .int .i64 r.n, .int .i64 r.m, .string r.a, .string r.b, .string r.c, .slice A1 r.vars.length c1] 25)).alloc (.cells #[.int .i64 s.cls, .int .i64 s.kind, .int .u64 s.frm, .int .i64 s.time, .int .u64 s.key, .int .u64 s.key2, .int .u64 s.key3, .int .i64 s.n, .int .i64 s.m, .string s.a, .string s.b, .string s.c, .slice A2 s.vars.length c2] 25)).heap[w.heap.size]? = some (.cells #[.int .i64 r.cls, .int .i64 r.kind, .int .u64 r.frm, .int .i64 r.time, .int .u64 r.key, .int .u64 r.key2, .int .u64 r.key3, .int .i64 r.n, .int .i64 r.m, .string r.a, .string r.b, .string r.c, .slice A1 r.vars.length c1] 25 (0, 0)) := blk_old _ (blk_new _ _ rfl)
  have b2 : ((w.alloc (.cells #[.int .i64 r.cls, .int .i64 r.kind, .int .u64 r.frm, .int .i64 r.time, .int .u64 r.key, .int .u64 r.key2, .int .u64 r.key3, .int .i64 r.n, .int .i64 r.m, .string r.a, .string r.b, .string r.c, .slice A1 r.vars.length c1] 25)).alloc (.cells #[.int .i64 s.cls, .int .i64 s.kind, .int .u64 s.frm, .int .i64 s.time, .int .u64 s.key, .int .u64 s.key2, .int .u64 s.key3, .int .i64 s.n, .int .i64 s.m, .string s.a, .string s.b, .string s.c, .slice A2 s.vars.length c2] 25)).heap[w.heap.size + 1]? = some (.cells #[.int .i64 s.cls, .int .i64 s.kind, .int .u64 s.frm, .int .i64 s.time, .int .u64 s.key, .int .u64 s.key2, .int .u64 s.key3, .int .i64 s.n, .int .i64 s.m, .string s.a, .string s.b, .string s.c, .slice A2 s.vars.length c2] 25 (0, 0)) := blk_new _ _ (by simp)
  have H1 := Lib.hid (h1.below hb)
  have H2 := Lib.hid (h2.below hb)
  have HB := Lib.hid hb
  have HB1 := Lib.hid b1
  have HB2 := Lib.hid b2
  have HTV := Lib.hid ht
  clear hb b1 b2 h1 h2 ht
  go_enter Try.func14, Try.ntmps14
  go_wp2_with (go_at_call 24; refine (ref9_Same S r.vars s.vars _ _ _ _ false _ rfl rfl H1.out H2.out HTV.out).mono ?_; rintro e w1 ⟨rfl, hb1⟩; have B1 := block_below hb1 HB1.out; have B2 := block_below hb1 HB2.out; have HB9 := Lib.hid (below2 HB.out hb1); clear B1 B2 hb1 HB1 HB2 HB H1 H2 HTV)
  go_ret
  exact ⟨rfl, HB9.out⟩

set_option maxRecDepth 100000 in
set_option maxHeartbeats 8000000 in
theorem ref12_Same_1 (r s : GRec) (A1 A2 : Option Addr) (c1 c2 : Nat) (S : Nat → Prop) (w : World) (h1 : Row w S 4 r.vars.length (.slice A1 r.vars.length c1) (varCells r.vars)) (h2 : Row w S 4 s.vars.length (.slice A2 s.vars.length c2) (varCells s.vars)) (ht : (true = true) ↔ r.vars = s.vars) (g0 : (r.cls == s.cls) = false) :
    Calls Try.prog 14 #[.agg #[.int .i64 r.cls, .int .i64 r.kind, .int .u64 r.frm, .int .i64 r.time, .int .u64 r.key, .int .u64 r.key2, .int .u64 r.key3, .int .i64 r.n, .int .i64 r.m, .string r.a, .string r.b, .string r.c, .slice A1 r.vars.length c1], .agg #[.int .i64 s.cls, .int .i64 s.kind, .int .u64 s.frm, .int .i64 s.time, .int .u64 s.key, .int .u64 s.key2, .int .u64 s.key3, .int .i64 s.n, .int .i64 s.m, .string s.a, .string s.b, .string s.c, .slice A2 s.vars.length c2]] w fun e w' => e = .returned (.bool false) ∧ Below w.heap.size w w' := by
  have hb : Below w.heap.size w ((w.alloc (.cells #[.int .i64 r.cls, .int .i64 r.kind, .int .u64 r.frm, .int .i64 r.time, .int .u64 r.key, .int .u64 r.key2, .int .u64 r.key3, .int .i64 r.n, .int .i64 r.m, .string r.a, .string r.b, .string r.c, .slice A1 r.vars.length c1] 25)).alloc (.cells #[.int .i64 s.cls, .int .i64 s.kind, .int .u64 s.frm, .int .i64 s.time, .int .u64 s.key, .int .u64 s.key2, .int .u64 s.key3, .int .i64 s.n, .int .i64 s.m, .string s.a, .string s.b, .string s.c, .slice A2 s.vars.length c2] 25)) := ((Below.refl _ _).alloc (Nat.le_refl _) _).alloc (by simp) _
  have b1 : ((w.alloc (.cells #[.int .i64 r.cls, .int .i64 r.kind, .int .u64 r.frm, .int .i64 r.time, .int .u64 r.key, .int .u64 r.key2, .int .u64 r.key3, .int .i64 r.n, .int .i64 r.m, .string r.a, .string r.b, .string r.c, .slice A1 r.vars.length c1] 25)).alloc (.cells #[.int .i64 s.cls, .int .i64 s.kind, .int .u64 s.frm, .int .i64 s.time, .int .u64 s.key, .int .u64 s.key2, .int .u64 s.key3, .int .i64 s.n, .int .i64 s.m, .string s.a, .string s.b, .string s.c, .slice A2 s.vars.length c2] 25)).heap[w.heap.size]? = some (.cells #[.int .i64 r.cls, .int .i64 r.kind, .int .u64 r.frm, .int .i64 r.time, .int .u64 r.key, .int .u64 r.key2, .int .u64 r.key3, .int .i64 r.n, .int .i64 r.m, .string r.a, .string r.b, .string r.c, .slice A1 r.vars.length c1] 25 (0, 0)) := blk_old _ (blk_new _ _ rfl)
  have b2 : ((w.alloc (.cells #[.int .i64 r.cls, .int .i64 r.kind, .int .u64 r.frm, .int .i64 r.time, .int .u64 r.key, .int .u64 r.key2, .int .u64 r.key3, .int .i64 r.n, .int .i64 r.m, .string r.a, .string r.b, .string r.c, .slice A1 r.vars.length c1] 25)).alloc (.cells #[.int .i64 s.cls, .int .i64 s.kind, .int .u64 s.frm, .int .i64 s.time, .int .u64 s.key, .int .u64 s.key2, .int .u64 s.key3, .int .i64 s.n, .int .i64 s.m, .string s.a, .string s.b, .string s.c, .slice A2 s.vars.length c2] 25)).heap[w.heap.size + 1]? = some (.cells #[.int .i64 s.cls, .int .i64 s.kind, .int .u64 s.frm, .int .i64 s.time, .int .u64 s.key, .int .u64 s.key2, .int .u64 s.key3, .int .i64 s.n, .int .i64 s.m, .string s.a, .string s.b, .string s.c, .slice A2 s.vars.length c2] 25 (0, 0)) := blk_new _ _ (by simp)
  have H1 := Lib.hid (h1.below hb)
  have H2 := Lib.hid (h2.below hb)
  have HB := Lib.hid hb
  have HB1 := Lib.hid b1
  have HB2 := Lib.hid b2
  have HTV := Lib.hid ht
  clear hb b1 b2 h1 h2 ht
  go_enter Try.func14, Try.ntmps14
  go_wp2_with (go_at_call 24; refine (ref9_Same S r.vars s.vars _ _ _ _ true _ rfl rfl H1.out H2.out HTV.out).mono ?_; rintro e w1 ⟨rfl, hb1⟩; have B1 := block_below hb1 HB1.out; have B2 := block_below hb1 HB2.out; have p0 := (cell_of_blk B1 0).trans (rfl : _ = some (Value.int .i64 r.cls)); have q0 := (cell_of_blk B2 0).trans (rfl : _ = some (Value.int .i64 s.cls)); have HB9 := Lib.hid (below2 HB.out hb1); clear B1 B2 hb1 HB1 HB2 HB H1 H2 HTV)
  go_ret
  exact ⟨rfl, HB9.out⟩

set_option maxRecDepth 100000 in
set_option maxHeartbeats 8000000 in
theorem ref12_Same_2 (r s : GRec) (A1 A2 : Option Addr) (c1 c2 : Nat) (S : Nat → Prop) (w : World) (h1 : Row w S 4 r.vars.length (.slice A1 r.vars.length c1) (varCells r.vars)) (h2 : Row w S 4 s.vars.length (.slice A2 s.vars.length c2) (varCells s.vars)) (ht : (true = true) ↔ r.vars = s.vars) (g0 : (r.cls == s.cls) = true) (g1 : (r.kind == s.kind) = false) :
    Calls Try.prog 14 #[.agg #[.int .i64 r.cls, .int .i64 r.kind, .int .u64 r.frm, .int .i64 r.time, .int .u64 r.key, .int .u64 r.key2, .int .u64 r.key3, .int .i64 r.n, .int .i64 r.m, .string r.a, .string r.b, .string r.c, .slice A1 r.vars.length c1], .agg #[.int .i64 s.cls, .int .i64 s.kind, .int .u64 s.frm, .int .i64 s.time, .int .u64 s.key, .int .u64 s.key2, .int .u64 s.key3, .int .i64 s.n, .int .i64 s.m, .string s.a, .string s.b, .string s.c, .slice A2 s.vars.length c2]] w fun e w' => e = .returned (.bool false) ∧ Below w.heap.size w w' := by
  have hb : Below w.heap.size w ((w.alloc (.cells #[.int .i64 r.cls, .int .i64 r.kind, .int .u64 r.frm, .int .i64 r.time, .int .u64 r.key, .int .u64 r.key2, .int .u64 r.key3, .int .i64 r.n, .int .i64 r.m, .string r.a, .string r.b, .string r.c, .slice A1 r.vars.length c1] 25)).alloc (.cells #[.int .i64 s.cls, .int .i64 s.kind, .int .u64 s.frm, .int .i64 s.time, .int .u64 s.key, .int .u64 s.key2, .int .u64 s.key3, .int .i64 s.n, .int .i64 s.m, .string s.a, .string s.b, .string s.c, .slice A2 s.vars.length c2] 25)) := ((Below.refl _ _).alloc (Nat.le_refl _) _).alloc (by simp) _
  have b1 : ((w.alloc (.cells #[.int .i64 r.cls, .int .i64 r.kind, .int .u64 r.frm, .int .i64 r.time, .int .u64 r.key, .int .u64 r.key2, .int .u64 r.key3, .int .i64 r.n, .int .i64 r.m, .string r.a, .string r.b, .string r.c, .slice A1 r.vars.length c1] 25)).alloc (.cells #[.int .i64 s.cls, .int .i64 s.kind, .int .u64 s.frm, .int .i64 s.time, .int .u64 s.key, .int .u64 s.key2, .int .u64 s.key3, .int .i64 s.n, .int .i64 s.m, .string s.a, .string s.b, .string s.c, .slice A2 s.vars.length c2] 25)).heap[w.heap.size]? = some (.cells #[.int .i64 r.cls, .int .i64 r.kind, .int .u64 r.frm, .int .i64 r.time, .int .u64 r.key, .int .u64 r.key2, .int .u64 r.key3, .int .i64 r.n, .int .i64 r.m, .string r.a, .string r.b, .string r.c, .slice A1 r.vars.length c1] 25 (0, 0)) := blk_old _ (blk_new _ _ rfl)
  have b2 : ((w.alloc (.cells #[.int .i64 r.cls, .int .i64 r.kind, .int .u64 r.frm, .int .i64 r.time, .int .u64 r.key, .int .u64 r.key2, .int .u64 r.key3, .int .i64 r.n, .int .i64 r.m, .string r.a, .string r.b, .string r.c, .slice A1 r.vars.length c1] 25)).alloc (.cells #[.int .i64 s.cls, .int .i64 s.kind, .int .u64 s.frm, .int .i64 s.time, .int .u64 s.key, .int .u64 s.key2, .int .u64 s.key3, .int .i64 s.n, .int .i64 s.m, .string s.a, .string s.b, .string s.c, .slice A2 s.vars.length c2] 25)).heap[w.heap.size + 1]? = some (.cells #[.int .i64 s.cls, .int .i64 s.kind, .int .u64 s.frm, .int .i64 s.time, .int .u64 s.key, .int .u64 s.key2, .int .u64 s.key3, .int .i64 s.n, .int .i64 s.m, .string s.a, .string s.b, .string s.c, .slice A2 s.vars.length c2] 25 (0, 0)) := blk_new _ _ (by simp)
  have H1 := Lib.hid (h1.below hb)
  have H2 := Lib.hid (h2.below hb)
  have HB := Lib.hid hb
  have HB1 := Lib.hid b1
  have HB2 := Lib.hid b2
  have HTV := Lib.hid ht
  clear hb b1 b2 h1 h2 ht
  go_enter Try.func14, Try.ntmps14
  go_wp2_with (go_at_call 24; refine (ref9_Same S r.vars s.vars _ _ _ _ true _ rfl rfl H1.out H2.out HTV.out).mono ?_; rintro e w1 ⟨rfl, hb1⟩; have B1 := block_below hb1 HB1.out; have B2 := block_below hb1 HB2.out; have p0 := (cell_of_blk B1 0).trans (rfl : _ = some (Value.int .i64 r.cls)); have p1 := (cell_of_blk B1 1).trans (rfl : _ = some (Value.int .i64 r.kind)); have q0 := (cell_of_blk B2 0).trans (rfl : _ = some (Value.int .i64 s.cls)); have q1 := (cell_of_blk B2 1).trans (rfl : _ = some (Value.int .i64 s.kind)); have HB9 := Lib.hid (below2 HB.out hb1); clear B1 B2 hb1 HB1 HB2 HB H1 H2 HTV)
  go_ret
  exact ⟨rfl, HB9.out⟩

set_option maxRecDepth 100000 in
set_option maxHeartbeats 8000000 in
theorem ref12_Same_3 (r s : GRec) (A1 A2 : Option Addr) (c1 c2 : Nat) (S : Nat → Prop) (w : World) (h1 : Row w S 4 r.vars.length (.slice A1 r.vars.length c1) (varCells r.vars)) (h2 : Row w S 4 s.vars.length (.slice A2 s.vars.length c2) (varCells s.vars)) (ht : (true = true) ↔ r.vars = s.vars) (g0 : (r.cls == s.cls) = true) (g1 : (r.kind == s.kind) = true) (g2 : (r.frm == s.frm) = false) :
    Calls Try.prog 14 #[.agg #[.int .i64 r.cls, .int .i64 r.kind, .int .u64 r.frm, .int .i64 r.time, .int .u64 r.key, .int .u64 r.key2, .int .u64 r.key3, .int .i64 r.n, .int .i64 r.m, .string r.a, .string r.b, .string r.c, .slice A1 r.vars.length c1], .agg #[.int .i64 s.cls, .int .i64 s.kind, .int .u64 s.frm, .int .i64 s.time, .int .u64 s.key, .int .u64 s.key2, .int .u64 s.key3, .int .i64 s.n, .int .i64 s.m, .string s.a, .string s.b, .string s.c, .slice A2 s.vars.length c2]] w fun e w' => e = .returned (.bool false) ∧ Below w.heap.size w w' := by
  have hb : Below w.heap.size w ((w.alloc (.cells #[.int .i64 r.cls, .int .i64 r.kind, .int .u64 r.frm, .int .i64 r.time, .int .u64 r.key, .int .u64 r.key2, .int .u64 r.key3, .int .i64 r.n, .int .i64 r.m, .string r.a, .string r.b, .string r.c, .slice A1 r.vars.length c1] 25)).alloc (.cells #[.int .i64 s.cls, .int .i64 s.kind, .int .u64 s.frm, .int .i64 s.time, .int .u64 s.key, .int .u64 s.key2, .int .u64 s.key3, .int .i64 s.n, .int .i64 s.m, .string s.a, .string s.b, .string s.c, .slice A2 s.vars.length c2] 25)) := ((Below.refl _ _).alloc (Nat.le_refl _) _).alloc (by simp) _
  have b1 : ((w.alloc (.cells #[.int .i64 r.cls, .int .i64 r.kind, .int .u64 r.frm, .int .i64 r.time, .int .u64 r.key, .int .u64 r.key2, .int .u64 r.key3, .int .i64 r.n, .int .i64 r.m, .string r.a, .string r.b, .string r.c, .slice A1 r.vars.length c1] 25)).alloc (.cells #[.int .i64 s.cls, .int .i64 s.kind, .int .u64 s.frm, .int .i64 s.time, .int .u64 s.key, .int .u64 s.key2, .int .u64 s.key3, .int .i64 s.n, .int .i64 s.m, .string s.a, .string s.b, .string s.c, .slice A2 s.vars.length c2] 25)).heap[w.heap.size]? = some (.cells #[.int .i64 r.cls, .int .i64 r.kind, .int .u64 r.frm, .int .i64 r.time, .int .u64 r.key, .int .u64 r.key2, .int .u64 r.key3, .int .i64 r.n, .int .i64 r.m, .string r.a, .string r.b, .string r.c, .slice A1 r.vars.length c1] 25 (0, 0)) := blk_old _ (blk_new _ _ rfl)
  have b2 : ((w.alloc (.cells #[.int .i64 r.cls, .int .i64 r.kind, .int .u64 r.frm, .int .i64 r.time, .int .u64 r.key, .int .u64 r.key2, .int .u64 r.key3, .int .i64 r.n, .int .i64 r.m, .string r.a, .string r.b, .string r.c, .slice A1 r.vars.length c1] 25)).alloc (.cells #[.int .i64 s.cls, .int .i64 s.kind, .int .u64 s.frm, .int .i64 s.time, .int .u64 s.key, .int .u64 s.key2, .int .u64 s.key3, .int .i64 s.n, .int .i64 s.m, .string s.a, .string s.b, .string s.c, .slice A2 s.vars.length c2] 25)).heap[w.heap.size + 1]? = some (.cells #[.int .i64 s.cls, .int .i64 s.kind, .int .u64 s.frm, .int .i64 s.time, .int .u64 s.key, .int .u64 s.key2, .int .u64 s.key3, .int .i64 s.n, .int .i64 s.m, .string s.a, .string s.b, .string s.c, .slice A2 s.vars.length c2] 25 (0, 0)) := blk_new _ _ (by simp)
  have H1 := Lib.hid (h1.below hb)
  have H2 := Lib.hid (h2.below hb)
  have HB := Lib.hid hb
  have HB1 := Lib.hid b1
  have HB2 := Lib.hid b2
  have HTV := Lib.hid ht
  clear hb b1 b2 h1 h2 ht
  go_enter Try.func14, Try.ntmps14
  go_wp2_with (go_at_call 24; refine (ref9_Same S r.vars s.vars _ _ _ _ true _ rfl rfl H1.out H2.out HTV.out).mono ?_; rintro e w1 ⟨rfl, hb1⟩; have B1 := block_below hb1 HB1.out; have B2 := block_below hb1 HB2.out; have p0 := (cell_of_blk B1 0).trans (rfl : _ = some (Value.int .i64 r.cls)); have p1 := (cell_of_blk B1 1).trans (rfl : _ = some (Value.int .i64 r.kind)); have p2 := (cell_of_blk B1 2).trans (rfl : _ = some (Value.int .u64 r.frm)); have q0 := (cell_of_blk B2 0).trans (rfl : _ = some (Value.int .i64 s.cls)); have q1 := (cell_of_blk B2 1).trans (rfl : _ = some (Value.int .i64 s.kind)); have q2 := (cell_of_blk B2 2).trans (rfl : _ = some (Value.int .u64 s.frm)); have HB9 := Lib.hid (below2 HB.out hb1); clear B1 B2 hb1 HB1 HB2 HB H1 H2 HTV)
  go_ret
  exact ⟨rfl, HB9.out⟩

end Go.Proofs.Ytcfdbdmefdffdaa
