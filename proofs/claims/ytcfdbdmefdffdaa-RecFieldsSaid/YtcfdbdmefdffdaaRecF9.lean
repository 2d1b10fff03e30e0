/-
  The walk of the law RecFields, way 9. Printed by genfields.py.
-/
import Derived.Test.YtcfdbdmefdffdaaRecE
set_option linter.unusedVariables false
set_option linter.unusedSimpArgs false
namespace Go.Proofs.Ytcfdbdmefdffdaa
open Go Go.RowKit Go.Proofs.Base
open Go.Sort (grow)

set_option maxRecDepth 100000 in
set_option maxHeartbeats 8000000 in
theorem recFields_9a (r : GRec) (vv : Value) (S : Nat → Prop) (i d : Int) (w : World) (hrow : Row w S 4 r.vars.length vv (varCells r.vars)) (hw : r.wf) (hm : recMay r = false) :
    Calls Try.prog 3 #[.agg #[.int .i64 r.cls, .int .i64 r.kind, .int .u64 r.frm, .int .i64 r.time, .int .u64 r.key, .int .u64 r.key2, .int .u64 r.key3, .int .i64 r.n, .int .i64 r.m, .string r.a, .string r.b, .string r.c, vv], .int .i64 i, .int .i64 d] w fun e w' => e = .returned (.bool true) ∧ Below w.heap.size w w' := by
  obtain ⟨A, c, rfl, _, _⟩ := hrow.open_
  have hbb : Below w.heap.size w (w.alloc (.cells #[.int .i64 r.cls, .int .i64 r.kind, .int .u64 r.frm, .int .i64 r.time, .int .u64 r.key, .int .u64 r.key2, .int .u64 r.key3, .int .i64 r.n, .int .i64 r.m, .string r.a, .string r.b, .string r.c, .slice A r.vars.length c] 25)) := (Below.refl _ _).alloc (Nat.le_refl _) _
  have HB := Lib.hid hbb
  have hv : recB r = (⟨#[]⟩, 1) := by unfold recB; rw [hm]; rfl
  have HBy := Lib.hid (fun W h => rec_Bytes r (.slice A r.vars.length c) S W h hw)
  rw [hv] at HBy
  have HR := Lib.hid hrow
  clear hbb hrow hm hv hw
  go_enter Try.func3, Try.ntmps3
  go_wp2_with (first | (go_at_call 8; refine (rec_shown _).mono ?_; rintro e w1 ⟨rfl, hb1⟩; have hB1 := block_below hb1 (blk_new w _ rfl); have k0a := (cell_of_blk hB1 0).trans (rfl : _ = some (Value.int .i64 r.cls)); have k1a := (cell_of_blk hB1 1).trans (rfl : _ = some (Value.int .i64 r.kind)); have k2a := (cell_of_blk hB1 2).trans (rfl : _ = some (Value.int .u64 r.frm)); have k3a := (cell_of_blk hB1 3).trans (rfl : _ = some (Value.int .i64 r.time)); have k4a := (cell_of_blk hB1 4).trans (rfl : _ = some (Value.int .u64 r.key)); have k5a := (cell_of_blk hB1 5).trans (rfl : _ = some (Value.int .u64 r.key2)); have k6a := (cell_of_blk hB1 6).trans (rfl : _ = some (Value.int .u64 r.key3)); have k7a := (cell_of_blk hB1 7).trans (rfl : _ = some (Value.int .i64 r.n)); have k8a := (cell_of_blk hB1 8).trans (rfl : _ = some (Value.int .i64 r.m)); have k9a := (cell_of_blk hB1 9).trans (rfl : _ = some (Value.string r.a)); have k10a := (cell_of_blk hB1 10).trans (rfl : _ = some (Value.string r.b)); have k11a := (cell_of_blk hB1 11).trans (rfl : _ = some (Value.string r.c)); have k12a := (cell_of_blk hB1 12).trans (rfl : _ = some _)) | (go_at_call 9; refine (HBy.out _ ((HR.out.below HB.out).below hb1)).mono ?_; rintro e w2 ⟨rfl, hb2⟩))
  go_ret
  exact ⟨rfl, below2 (below2 HB.out hb1) hb2⟩

set_option maxRecDepth 100000 in
set_option maxHeartbeats 8000000 in
theorem recFields_9b (r : GRec) (vv : Value) (S : Nat → Prop) (i d : Int) (w : World) (hrow : Row w S 4 r.vars.length vv (varCells r.vars)) (hw : r.wf) (hm : recMay r = true) (hd : Int.tmod d 100 = 0) :
    Calls Try.prog 3 #[.agg #[.int .i64 r.cls, .int .i64 r.kind, .int .u64 r.frm, .int .i64 r.time, .int .u64 r.key, .int .u64 r.key2, .int .u64 r.key3, .int .i64 r.n, .int .i64 r.m, .string r.a, .string r.b, .string r.c, vv], .int .i64 i, .int .i64 d] w fun e w' => e = .returned (.bool true) ∧ Below w.heap.size w w' := by
  obtain ⟨A, c, rfl, _, _⟩ := hrow.open_
  have hbb : Below w.heap.size w (w.alloc (.cells #[.int .i64 r.cls, .int .i64 r.kind, .int .u64 r.frm, .int .i64 r.time, .int .u64 r.key, .int .u64 r.key2, .int .u64 r.key3, .int .i64 r.n, .int .i64 r.m, .string r.a, .string r.b, .string r.c, .slice A r.vars.length c] 25)) := (Below.refl _ _).alloc (Nat.le_refl _) _
  have HB := Lib.hid hbb
  have hv : recB r = (recText r, 0) := by unfold recB; rw [hm]; rfl
  have HBy := Lib.hid (fun W h => rec_Bytes r (.slice A r.vars.length c) S W h hw)
  rw [hv] at HBy
  have HR := Lib.hid hrow
  have hdb := beq_t hd
  clear hbb hrow hm hv hw hd
  go_enter Try.func3, Try.ntmps3
  go_wp2_with (first | (go_at_call 8; refine (rec_shown _).mono ?_; rintro e w1 ⟨rfl, hb1⟩; have hB1 := block_below hb1 (blk_new w _ rfl); have k0a := (cell_of_blk hB1 0).trans (rfl : _ = some (Value.int .i64 r.cls)); have k1a := (cell_of_blk hB1 1).trans (rfl : _ = some (Value.int .i64 r.kind)); have k2a := (cell_of_blk hB1 2).trans (rfl : _ = some (Value.int .u64 r.frm)); have k3a := (cell_of_blk hB1 3).trans (rfl : _ = some (Value.int .i64 r.time)); have k4a := (cell_of_blk hB1 4).trans (rfl : _ = some (Value.int .u64 r.key)); have k5a := (cell_of_blk hB1 5).trans (rfl : _ = some (Value.int .u64 r.key2)); have k6a := (cell_of_blk hB1 6).trans (rfl : _ = some (Value.int .u64 r.key3)); have k7a := (cell_of_blk hB1 7).trans (rfl : _ = some (Value.int .i64 r.n)); have k8a := (cell_of_blk hB1 8).trans (rfl : _ = some (Value.int .i64 r.m)); have k9a := (cell_of_blk hB1 9).trans (rfl : _ = some (Value.string r.a)); have k10a := (cell_of_blk hB1 10).trans (rfl : _ = some (Value.string r.b)); have k11a := (cell_of_blk hB1 11).trans (rfl : _ = some (Value.string r.c)); have k12a := (cell_of_blk hB1 12).trans (rfl : _ = some _)) | (go_at_call 9; refine (HBy.out _ ((HR.out.below HB.out).below hb1)).mono ?_; rintro e w2 ⟨rfl, hb2⟩))
  go_ret
  exact ⟨rfl, below2 (below2 HB.out hb1) hb2⟩

end Go.Proofs.Ytcfdbdmefdffdaa
