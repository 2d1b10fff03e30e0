/-
  The walk of the law RecBack. Printed by genback.py.
-/
import Derived.Test.YtcfdbdmefdffdaaBackA
set_option linter.unusedVariables false
set_option linter.unusedSimpArgs false
namespace Go.Proofs.Ytcfdbdmefdffdaa
open Go Go.RowKit Go.Proofs.Base
open Go.Sort (grow)

set_option maxRecDepth 100000 in
set_option maxHeartbeats 8000000 in
theorem recBack_3 (r : GRec) (A1 : Option Addr) (c1 : Nat) (S : Nat → Prop) (i : Int) (w : World) (h1 : Row w S 4 r.vars.length (.slice A1 r.vars.length c1) (varCells r.vars)) (hw1 : r.wf) (hm : recMay r = true) (hi : ¬ i < 0) (hj : ¬ ((recText r).size : Int) ≤ i) :
    Calls Try.prog 7 #[.agg #[.int .i64 r.cls, .int .i64 r.kind, .int .u64 r.frm, .int .i64 r.time, .int .u64 r.key, .int .u64 r.key2, .int .u64 r.key3, .int .i64 r.n, .int .i64 r.m, .string r.a, .string r.b, .string r.c, .slice A1 r.vars.length c1], .int .i64 i] w fun e w' => e = .returned (.bool true) ∧ Below w.heap.size w w' := by
  have hb : Below w.heap.size w (w.alloc (.cells #[.int .i64 r.cls, .int .i64 r.kind, .int .u64 r.frm, .int .i64 r.time, .int .u64 r.key, .int .u64 r.key2, .int .u64 r.key3, .int .i64 r.n, .int .i64 r.m, .string r.a, .string r.b, .string r.c, .slice A1 r.vars.length c1] 25)) := (Below.refl _ _).alloc (Nat.le_refl _) _
  have H1 := Lib.hid ((h1.below hb).weaken (S' := fun _ => True) (fun _ _ _ => trivial))
  have HB := Lib.hid hb
  have HB1 := Lib.hid (blk_new w (.cells #[.int .i64 r.cls, .int .i64 r.kind, .int .u64 r.frm, .int .i64 r.time, .int .u64 r.key, .int .u64 r.key2, .int .u64 r.key3, .int .i64 r.n, .int .i64 r.m, .string r.a, .string r.b, .string r.c, .slice A1 r.vars.length c1] 25) rfl)
  have hc1 := fun W h => rec_Bytes r (.slice A1 r.vars.length c1) (fun _ => True) W h hw1
  have e1 : recB r = (recText r, 0) := by unfold recB; rw [hm]; rfl
  rw [e1] at hc1
  have hsz : (recText r).size ≤ 4096 := (of_decide_eq_true hm : recMayP r).2.2.2.2.2.2.2.2.2.2.2
  have hz : ¬ 9223372036854775807 < (recText r).size + (⟨#[120]⟩ : ByteArray).size := by have : (⟨#[120]⟩ : ByteArray).size = 1 := rfl; omega
  have HZ : Hid (okS (recText r)) := Lib.hid (by unfold okS; omega)
  have HZ2 : Hid (okS (recText r ++ ⟨#[120]⟩)) := Lib.hid (by unfold okS; rw [app_size]; have : (⟨#[120]⟩ : ByteArray).size = 1 := rfl; omega)
  have HT1 := Lib.hid (recTake_full hw1 hm)
  have HT2 : Hid (recTake (recText r ++ ⟨#[120]⟩) = none) := Lib.hid (take_more hm (show 0 < 1 by decide))
  have HT3 := Lib.hid (take_less hm (i := i.toNat) (by omega))
  have HZ3 : Hid (okS ((recText r).extract 0 i.toNat)) := Lib.hid (by unfold okS; rw [ByteArray.size_extract]; omega)
  have q1 : decide (i < 0) = false := decide_eq_false hi
  have q2 : decide (((recText r).size : Int) ≤ i) = false := decide_eq_false hj
  have q3 := eq_true (show 0 ≤ i by omega)
  have q4 : decide (0 ≤ i) = true := decide_eq_true (by omega)
  have q5 := eq_true (show i ≤ ((recText r).size : Int) by omega)
  have q6 : decide (i ≤ ((recText r).size : Int)) = true := decide_eq_true (by omega)
  clear hi hj
  have HC1 := Lib.hid hc1
  clear hc1 e1 hm hb h1 hw1 hsz
  generalize recText r = b at *
  go_enter Try.func7, Try.ntmps7
  go_wp2_with (first | (go_at_call 8; refine (rec_shown _).mono ?_; rintro e w1 ⟨rfl, hb1⟩; have B1 := block_below hb1 HB1.out; have p0 := (cell_of_blk B1 0).trans (rfl : _ = some (Value.int .i64 r.cls)); have p1 := (cell_of_blk B1 1).trans (rfl : _ = some (Value.int .i64 r.kind)); have p2 := (cell_of_blk B1 2).trans (rfl : _ = some (Value.int .u64 r.frm)); have p3 := (cell_of_blk B1 3).trans (rfl : _ = some (Value.int .i64 r.time)); have p4 := (cell_of_blk B1 4).trans (rfl : _ = some (Value.int .u64 r.key)); have p5 := (cell_of_blk B1 5).trans (rfl : _ = some (Value.int .u64 r.key2)); have p6 := (cell_of_blk B1 6).trans (rfl : _ = some (Value.int .u64 r.key3)); have p7 := (cell_of_blk B1 7).trans (rfl : _ = some (Value.int .i64 r.n)); have p8 := (cell_of_blk B1 8).trans (rfl : _ = some (Value.int .i64 r.m)); have p9 := (cell_of_blk B1 9).trans (rfl : _ = some (Value.string r.a)); have p10 := (cell_of_blk B1 10).trans (rfl : _ = some (Value.string r.b)); have p11 := (cell_of_blk B1 11).trans (rfl : _ = some (Value.string r.c)); have p12 := (cell_of_blk B1 12).trans (rfl : _ = some (Value.slice A1 r.vars.length c1)); have HS1 := Lib.hid (below2 HB.out hb1)) | (go_at_call 9; refine (HC1.out _ (H1.out.below hb1)).mono ?_; rintro e w2 ⟨rfl, hb2⟩; have D1 := block_below hb2 B1; clear B1; clear p0 p1 p2 p3 p4 p5 p6 p7 p8 p9 p10 p11 p12; have p0 := (cell_of_blk D1 0).trans (rfl : _ = some (Value.int .i64 r.cls)); have p1 := (cell_of_blk D1 1).trans (rfl : _ = some (Value.int .i64 r.kind)); have p2 := (cell_of_blk D1 2).trans (rfl : _ = some (Value.int .u64 r.frm)); have p3 := (cell_of_blk D1 3).trans (rfl : _ = some (Value.int .i64 r.time)); have p4 := (cell_of_blk D1 4).trans (rfl : _ = some (Value.int .u64 r.key)); have p5 := (cell_of_blk D1 5).trans (rfl : _ = some (Value.int .u64 r.key2)); have p6 := (cell_of_blk D1 6).trans (rfl : _ = some (Value.int .u64 r.key3)); have p7 := (cell_of_blk D1 7).trans (rfl : _ = some (Value.int .i64 r.n)); have p8 := (cell_of_blk D1 8).trans (rfl : _ = some (Value.int .i64 r.m)); have p9 := (cell_of_blk D1 9).trans (rfl : _ = some (Value.string r.a)); have p10 := (cell_of_blk D1 10).trans (rfl : _ = some (Value.string r.b)); have p11 := (cell_of_blk D1 11).trans (rfl : _ = some (Value.string r.c)); have p12 := (cell_of_blk D1 12).trans (rfl : _ = some (Value.slice A1 r.vars.length c1)); have HR2 := Lib.hid ((H1.out.below hb1).below hb2); have HS2 := Lib.hid (below2 HS1.out hb2); clear hb1 hb2 HS1) | (go_at_call 15; have hgd := HS2.out; clear hgd; refine (rec_Take_some b r _ HZ.out HT1.out).mono ?_; rintro e w3 ⟨A2, c2, rfl, hrow3, hb3⟩; have E1 := block_below hb3 D1; clear D1; clear p0 p1 p2 p3 p4 p5 p6 p7 p8 p9 p10 p11 p12; have p0 := (cell_of_blk E1 0).trans (rfl : _ = some (Value.int .i64 r.cls)); have p1 := (cell_of_blk E1 1).trans (rfl : _ = some (Value.int .i64 r.kind)); have p2 := (cell_of_blk E1 2).trans (rfl : _ = some (Value.int .u64 r.frm)); have p3 := (cell_of_blk E1 3).trans (rfl : _ = some (Value.int .i64 r.time)); have p4 := (cell_of_blk E1 4).trans (rfl : _ = some (Value.int .u64 r.key)); have p5 := (cell_of_blk E1 5).trans (rfl : _ = some (Value.int .u64 r.key2)); have p6 := (cell_of_blk E1 6).trans (rfl : _ = some (Value.int .u64 r.key3)); have p7 := (cell_of_blk E1 7).trans (rfl : _ = some (Value.int .i64 r.n)); have p8 := (cell_of_blk E1 8).trans (rfl : _ = some (Value.int .i64 r.m)); have p9 := (cell_of_blk E1 9).trans (rfl : _ = some (Value.string r.a)); have p10 := (cell_of_blk E1 10).trans (rfl : _ = some (Value.string r.b)); have p11 := (cell_of_blk E1 11).trans (rfl : _ = some (Value.string r.c)); have p12 := (cell_of_blk E1 12).trans (rfl : _ = some (Value.slice A1 r.vars.length c1)); have hlt3 := lt_of_blk E1; have hne3 : w.heap.size ≠ w3.heap.size := (by omega); have hne4 : w3.heap.size ≠ w.heap.size := (by omega); have HR3 := Lib.hid (HR2.out.below hb3); have HQ3 := Lib.hid (hrow3.weaken (S' := fun _ => True) (fun _ _ _ => trivial)); have HS3 := Lib.hid (below2 HS2.out hb3); have HE1 := Lib.hid E1; clear hb3 HS2 HR2 hrow3 E1) | (go_at_call 14; refine (ref12_Same r r _ _ (fun _ => True) true _ (HQ3.out.below ((Below.refl _ _).alloc (Nat.le_refl _) _)) (HR3.out.below ((Below.refl _ _).alloc (Nat.le_refl _) _)) ⟨fun _ => rfl, fun _ => rfl⟩).mono ?_; rintro e w4 ⟨rfl, hb4⟩; have HS4 := Lib.hid (below2 (below2 HS3.out ((Below.refl _ _).alloc (Nat.le_refl _) _)) hb4); clear hb4 HS3 HR3 HQ3 hlt3 hne3 hne4; clear p0 p1 p2 p3 p4 p5 p6 p7 p8 p9 p10 p11 p12))
  refine (rec_Take_none _ _ ?_ ?_).mono ?_
  · exact HZ2.out
  · exact HT2.out
  rintro e w5 ⟨rfl, hb5⟩
  have HS5 := Lib.hid (below2 HS4.out hb5)
  clear hb5 HS4
  go_wp2_with fail
  refine (rec_Take_none _ _ ?_ ?_).mono ?_
  · exact HZ3.out
  · exact HT3.out
  rintro e w6 ⟨rfl, hb6⟩
  have HS6 := Lib.hid (below2 (below_alloc HS5.out _) hb6)
  clear hb6 HS5
  go_wp2_with fail
  go_ret
  exact ⟨rfl, below_alloc HS6.out _⟩

end Go.Proofs.Ytcfdbdmefdffdaa
