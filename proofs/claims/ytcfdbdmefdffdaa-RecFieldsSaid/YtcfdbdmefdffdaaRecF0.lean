/-
  The walk of the law RecFields, way 0. Printed by genfields.py.
-/
import Derived.Test.YtcfdbdmefdffdaaRecE
set_option linter.unusedVariables false
set_option linter.unusedSimpArgs false
namespace Go.Proofs.Ytcfdbdmefdffdaa
open Go Go.RowKit Go.Proofs.Base
open Go.Sort (grow)

set_option maxRecDepth 100000 in
set_option maxHeartbeats 8000000 in
theorem recFields_0 (r : GRec) (vv : Value) (S : Nat → Prop) (i d : Int) (p : ByteArray) (q : Int) (w : World) (hrow : Row w S 4 r.vars.length vv (varCells r.vars)) (hw : r.wf) (hm : recMay r = true) (hd : Int.tmod d 100 ≠ 0) (hi : (i == 0) = true)
    (hw2 : ({ r with key := (IntKind.u64.wrap (r.key + IntKind.u64.wrap (d.tmod 100))) } : GRec).wf) (h2 : recB { r with key := (IntKind.u64.wrap (r.key + IntKind.u64.wrap (d.tmod 100))) } = (p, q)) (hq : (q != 0) = true ∨ (q = 0 ∧ (p.toList == (recText r).toList) = false)) :
    Calls Try.prog 3 #[.agg #[.int .i64 r.cls, .int .i64 r.kind, .int .u64 r.frm, .int .i64 r.time, .int .u64 r.key, .int .u64 r.key2, .int .u64 r.key3, .int .i64 r.n, .int .i64 r.m, .string r.a, .string r.b, .string r.c, vv], .int .i64 i, .int .i64 d] w fun e w' => e = .returned (.bool true) ∧ Below w.heap.size w w' := by
  obtain ⟨A, c, rfl, _, _⟩ := hrow.open_
  have hbb : Below w.heap.size w (w.alloc (.cells #[.int .i64 r.cls, .int .i64 r.kind, .int .u64 r.frm, .int .i64 r.time, .int .u64 r.key, .int .u64 r.key2, .int .u64 r.key3, .int .i64 r.n, .int .i64 r.m, .string r.a, .string r.b, .string r.c, .slice A r.vars.length c] 25)) := (Below.refl _ _).alloc (Nat.le_refl _) _
  have HB := Lib.hid hbb
  have hv : recB r = (recText r, 0) := by unfold recB; rw [hm]; rfl
  have HBy := Lib.hid (fun W h => rec_Bytes r (.slice A r.vars.length c) S W h hw)
  rw [hv] at HBy
  have hB2 : ∀ W, Row W S 4 r.vars.length (.slice A r.vars.length c) (varCells r.vars) → Calls Try.prog 9 #[.agg #[.int .i64 r.cls, .int .i64 r.kind, .int .u64 r.frm, .int .i64 r.time, .int .u64 (IntKind.u64.wrap (r.key + IntKind.u64.wrap (d.tmod 100))), .int .u64 r.key2, .int .u64 r.key3, .int .i64 r.n, .int .i64 r.m, .string r.a, .string r.b, .string r.c, .slice A r.vars.length c]] W fun e w' => e = .returned (.tuple #[.string p, .int .i64 q]) ∧ Below W.heap.size W w' := fun W h => by
    have h3 := rec_Bytes { r with key := (IntKind.u64.wrap (r.key + IntKind.u64.wrap (d.tmod 100))) } (.slice A r.vars.length c) S W h hw2
    rw [h2] at h3
    exact h3
  have HB2 := Lib.hid hB2
  have HR := Lib.hid hrow
  have hdb := beq_f hd
  have HQ := Lib.hid hq
  have g0 := hi
  clear hbb hrow hm hv hd hw hw2 h2 hq hB2 hi
  go_enter Try.func3, Try.ntmps3
  go_wp2_with (first | (go_at_call 8; refine (rec_shown _).mono ?_; rintro e w1 ⟨rfl, hb1⟩; have hB1 := block_below hb1 (blk_new w _ rfl); have k0a := (cell_of_blk hB1 0).trans (rfl : _ = some (Value.int .i64 r.cls)); have k1a := (cell_of_blk hB1 1).trans (rfl : _ = some (Value.int .i64 r.kind)); have k2a := (cell_of_blk hB1 2).trans (rfl : _ = some (Value.int .u64 r.frm)); have k3a := (cell_of_blk hB1 3).trans (rfl : _ = some (Value.int .i64 r.time)); have k4a := (cell_of_blk hB1 4).trans (rfl : _ = some (Value.int .u64 r.key)); have k5a := (cell_of_blk hB1 5).trans (rfl : _ = some (Value.int .u64 r.key2)); have k6a := (cell_of_blk hB1 6).trans (rfl : _ = some (Value.int .u64 r.key3)); have k7a := (cell_of_blk hB1 7).trans (rfl : _ = some (Value.int .i64 r.n)); have k8a := (cell_of_blk hB1 8).trans (rfl : _ = some (Value.int .i64 r.m)); have k9a := (cell_of_blk hB1 9).trans (rfl : _ = some (Value.string r.a)); have k10a := (cell_of_blk hB1 10).trans (rfl : _ = some (Value.string r.b)); have k11a := (cell_of_blk hB1 11).trans (rfl : _ = some (Value.string r.c)); have k12a := (cell_of_blk hB1 12).trans (rfl : _ = some _)) | (go_at_call 9; refine (HBy.out _ ((HR.out.below HB.out).below hb1)).mono ?_; rintro e w2 ⟨rfl, hb2⟩; have hB2 := block_below hb2 hB1; clear hB1 k0a k1a k2a k3a k4a k5a k6a k7a k8a k9a k10a k11a k12a; have HL := Lib.hid (below2 (below2 HB.out hb1) hb2); clear hb1 hb2 HB; have k0b := (cell_of_blk hB2 0).trans (rfl : _ = some (Value.int .i64 r.cls)); have k1b := (cell_of_blk hB2 1).trans (rfl : _ = some (Value.int .i64 r.kind)); have k2b := (cell_of_blk hB2 2).trans (rfl : _ = some (Value.int .u64 r.frm)); have k3b := (cell_of_blk hB2 3).trans (rfl : _ = some (Value.int .i64 r.time)); have k4b := (cell_of_blk hB2 4).trans (rfl : _ = some (Value.int .u64 r.key)); have k5b := (cell_of_blk hB2 5).trans (rfl : _ = some (Value.int .u64 r.key2)); have k6b := (cell_of_blk hB2 6).trans (rfl : _ = some (Value.int .u64 r.key3)); have k7b := (cell_of_blk hB2 7).trans (rfl : _ = some (Value.int .i64 r.n)); have k8b := (cell_of_blk hB2 8).trans (rfl : _ = some (Value.int .i64 r.m)); have k9b := (cell_of_blk hB2 9).trans (rfl : _ = some (Value.string r.a)); have k10b := (cell_of_blk hB2 10).trans (rfl : _ = some (Value.string r.b)); have k11b := (cell_of_blk hB2 11).trans (rfl : _ = some (Value.string r.c)); have k12b := (cell_of_blk hB2 12).trans (rfl : _ = some _); clear hB2) | (go_at_call 9; go_must (refine (HB2.out _ ((HR.out.below HL.out).below ((Below.refl _ _).alloc (Nat.le_refl _) _))).mono ?_); rintro e w3 ⟨rfl, hb3⟩; rcases HQ.out with hq | ⟨rfl, hq⟩))
  all_goals go_ret
  all_goals exact ⟨rfl, below2 HL.out (below2 ((Below.refl _ _).alloc (Nat.le_refl _) _) hb3)⟩
end Go.Proofs.Ytcfdbdmefdffdaa
