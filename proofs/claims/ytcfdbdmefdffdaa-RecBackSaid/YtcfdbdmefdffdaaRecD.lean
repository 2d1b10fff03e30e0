/-
  The walks of rec.May and Bytes. Printed by genmay.py.
-/
import Derived.Test.YtcfdbdmefdffdaaRecC
set_option linter.unusedVariables false
set_option linter.unusedSimpArgs false
namespace Go.Proofs.Ytcfdbdmefdffdaa
open Go Go.RowKit Go.Proofs.Base
open Go.Sort (grow)

theorem iff_bne {a b : Int} : ((a == 1) != (b == 0)) = decide (¬ (a = 1 ↔ b = 0)) := by
  rw [Bool.eq_iff_iff, bne_iff_ne, decide_eq_true_iff]
  by_cases h : a = 1
  · by_cases k : b = 0
    · simp [beq_t h, beq_t k, h, k]
    · simp [beq_t h, beq_f k, h, k]
  · by_cases k : b = 0
    · simp [beq_f h, beq_t k, h, k]
    · simp [beq_f h, beq_f k, h, k]

set_option maxRecDepth 100000 in
set_option maxHeartbeats 4000000 in
theorem rec_May (r : GRec) (vv : Value) (S : Nat → Prop) (w : World) (hrow : Row w S 4 r.vars.length vv (varCells r.vars)) (hw : r.wf) :
    Calls Try.prog 11 #[.agg #[.int .i64 r.cls, .int .i64 r.kind, .int .u64 r.frm, .int .i64 r.time, .int .u64 r.key, .int .u64 r.key2, .int .u64 r.key3, .int .i64 r.n, .int .i64 r.m, .string r.a, .string r.b, .string r.c, vv]] w fun e w' => e = .returned (.bool (recMay r)) ∧ Below w.heap.size w w' := by
  have HW := Lib.hid hw
  have HR := Lib.hid hrow
  have hbb : Below w.heap.size w (w.alloc (.cells #[.int .i64 r.cls, .int .i64 r.kind, .int .u64 r.frm, .int .i64 r.time, .int .u64 r.key, .int .u64 r.key2, .int .u64 r.key3, .int .i64 r.n, .int .i64 r.m, .string r.a, .string r.b, .string r.c, vv] 25)) := (Below.refl _ _).alloc (Nat.le_refl _) _
  have HB := Lib.hid hbb
  have hiff := @iff_bne r.cls r.frm
  clear hbb hw hrow
  by_cases c0 : r.cls < 1
  · have f0 : decide (r.cls < 1) = true := by exact decide_eq_true c0
    have hv : recMay r = false := decide_eq_false (fun h => by obtain ⟨p0, p1, p2, p3, p4, p5, p6, p7, p8, p9, p10, p11⟩ := h; clear p4; omega)
    have HV := Lib.hid hv
    clear hv c0
    go_enter Try.func11, Try.ntmps11
    go_wp2_with ((go_at_call 19; refine (rec_most r vv _).mono ?_; rintro e w1 ⟨rfl, hb1⟩; have hB1 := block_below hb1 (blk_new w _ rfl); have k01 := (cell_of_blk hB1 0).trans (rfl : _ = some (Value.int .i64 r.cls)); have k11 := (cell_of_blk hB1 1).trans (rfl : _ = some (Value.int .i64 r.kind)); have k21 := (cell_of_blk hB1 2).trans (rfl : _ = some (Value.int .u64 r.frm)); have k31 := (cell_of_blk hB1 3).trans (rfl : _ = some (Value.int .i64 r.time)); have k41 := (cell_of_blk hB1 4).trans (rfl : _ = some (Value.int .u64 r.key)); have k51 := (cell_of_blk hB1 5).trans (rfl : _ = some (Value.int .u64 r.key2)); have k61 := (cell_of_blk hB1 6).trans (rfl : _ = some (Value.int .u64 r.key3)); have k71 := (cell_of_blk hB1 7).trans (rfl : _ = some (Value.int .i64 r.n)); have k81 := (cell_of_blk hB1 8).trans (rfl : _ = some (Value.int .i64 r.m)); have k91 := (cell_of_blk hB1 9).trans (rfl : _ = some (Value.string r.a)); have k101 := (cell_of_blk hB1 10).trans (rfl : _ = some (Value.string r.b)); have k111 := (cell_of_blk hB1 11).trans (rfl : _ = some (Value.string r.c)); have k121 := (cell_of_blk hB1 12).trans (rfl : _ = some vv)))
    go_ret
    exact ⟨by rw [HV.out]; rfl, below2 HB.out hb1⟩
  have f0 : decide (r.cls < 1) = false := by exact decide_eq_false c0
  by_cases c1 : (3 : Int) < r.cls
  · have f1 : decide ((3 : Int) < r.cls) = true := by exact decide_eq_true c1
    have hv : recMay r = false := decide_eq_false (fun h => by obtain ⟨p0, p1, p2, p3, p4, p5, p6, p7, p8, p9, p10, p11⟩ := h; clear p4; omega)
    have HV := Lib.hid hv
    clear hv c0 c1
    go_enter Try.func11, Try.ntmps11
    go_wp2_with ((go_at_call 19; refine (rec_most r vv _).mono ?_; rintro e w1 ⟨rfl, hb1⟩; have hB1 := block_below hb1 (blk_new w _ rfl); have k01 := (cell_of_blk hB1 0).trans (rfl : _ = some (Value.int .i64 r.cls)); have k11 := (cell_of_blk hB1 1).trans (rfl : _ = some (Value.int .i64 r.kind)); have k21 := (cell_of_blk hB1 2).trans (rfl : _ = some (Value.int .u64 r.frm)); have k31 := (cell_of_blk hB1 3).trans (rfl : _ = some (Value.int .i64 r.time)); have k41 := (cell_of_blk hB1 4).trans (rfl : _ = some (Value.int .u64 r.key)); have k51 := (cell_of_blk hB1 5).trans (rfl : _ = some (Value.int .u64 r.key2)); have k61 := (cell_of_blk hB1 6).trans (rfl : _ = some (Value.int .u64 r.key3)); have k71 := (cell_of_blk hB1 7).trans (rfl : _ = some (Value.int .i64 r.n)); have k81 := (cell_of_blk hB1 8).trans (rfl : _ = some (Value.int .i64 r.m)); have k91 := (cell_of_blk hB1 9).trans (rfl : _ = some (Value.string r.a)); have k101 := (cell_of_blk hB1 10).trans (rfl : _ = some (Value.string r.b)); have k111 := (cell_of_blk hB1 11).trans (rfl : _ = some (Value.string r.c)); have k121 := (cell_of_blk hB1 12).trans (rfl : _ = some vv)))
    go_ret
    exact ⟨by rw [HV.out]; rfl, below2 HB.out hb1⟩
  have f1 : decide ((3 : Int) < r.cls) = false := by exact decide_eq_false c1
  by_cases c2 : r.kind < 1
  · have f2 : decide (r.kind < 1) = true := by exact decide_eq_true c2
    have hv : recMay r = false := decide_eq_false (fun h => by obtain ⟨p0, p1, p2, p3, p4, p5, p6, p7, p8, p9, p10, p11⟩ := h; clear p4; omega)
    have HV := Lib.hid hv
    clear hv c0 c1 c2
    go_enter Try.func11, Try.ntmps11
    go_wp2_with ((go_at_call 19; refine (rec_most r vv _).mono ?_; rintro e w1 ⟨rfl, hb1⟩; have hB1 := block_below hb1 (blk_new w _ rfl); have k01 := (cell_of_blk hB1 0).trans (rfl : _ = some (Value.int .i64 r.cls)); have k11 := (cell_of_blk hB1 1).trans (rfl : _ = some (Value.int .i64 r.kind)); have k21 := (cell_of_blk hB1 2).trans (rfl : _ = some (Value.int .u64 r.frm)); have k31 := (cell_of_blk hB1 3).trans (rfl : _ = some (Value.int .i64 r.time)); have k41 := (cell_of_blk hB1 4).trans (rfl : _ = some (Value.int .u64 r.key)); have k51 := (cell_of_blk hB1 5).trans (rfl : _ = some (Value.int .u64 r.key2)); have k61 := (cell_of_blk hB1 6).trans (rfl : _ = some (Value.int .u64 r.key3)); have k71 := (cell_of_blk hB1 7).trans (rfl : _ = some (Value.int .i64 r.n)); have k81 := (cell_of_blk hB1 8).trans (rfl : _ = some (Value.int .i64 r.m)); have k91 := (cell_of_blk hB1 9).trans (rfl : _ = some (Value.string r.a)); have k101 := (cell_of_blk hB1 10).trans (rfl : _ = some (Value.string r.b)); have k111 := (cell_of_blk hB1 11).trans (rfl : _ = some (Value.string r.c)); have k121 := (cell_of_blk hB1 12).trans (rfl : _ = some vv)))
    go_ret
    exact ⟨by rw [HV.out]; rfl, below2 HB.out hb1⟩
  have f2 : decide (r.kind < 1) = false := by exact decide_eq_false c2
  by_cases c3 : kindsM r.cls < r.kind
  · have f3 : decide (kindsM r.cls < r.kind) = true := by exact decide_eq_true c3
    have hv : recMay r = false := decide_eq_false (fun h => by obtain ⟨p0, p1, p2, p3, p4, p5, p6, p7, p8, p9, p10, p11⟩ := h; clear p4; omega)
    have HV := Lib.hid hv
    clear hv c0 c1 c2 c3
    go_enter Try.func11, Try.ntmps11
    go_wp2_with ((go_at_call 19; refine (rec_most r vv _).mono ?_; rintro e w1 ⟨rfl, hb1⟩; have hB1 := block_below hb1 (blk_new w _ rfl); have k01 := (cell_of_blk hB1 0).trans (rfl : _ = some (Value.int .i64 r.cls)); have k11 := (cell_of_blk hB1 1).trans (rfl : _ = some (Value.int .i64 r.kind)); have k21 := (cell_of_blk hB1 2).trans (rfl : _ = some (Value.int .u64 r.frm)); have k31 := (cell_of_blk hB1 3).trans (rfl : _ = some (Value.int .i64 r.time)); have k41 := (cell_of_blk hB1 4).trans (rfl : _ = some (Value.int .u64 r.key)); have k51 := (cell_of_blk hB1 5).trans (rfl : _ = some (Value.int .u64 r.key2)); have k61 := (cell_of_blk hB1 6).trans (rfl : _ = some (Value.int .u64 r.key3)); have k71 := (cell_of_blk hB1 7).trans (rfl : _ = some (Value.int .i64 r.n)); have k81 := (cell_of_blk hB1 8).trans (rfl : _ = some (Value.int .i64 r.m)); have k91 := (cell_of_blk hB1 9).trans (rfl : _ = some (Value.string r.a)); have k101 := (cell_of_blk hB1 10).trans (rfl : _ = some (Value.string r.b)); have k111 := (cell_of_blk hB1 11).trans (rfl : _ = some (Value.string r.c)); have k121 := (cell_of_blk hB1 12).trans (rfl : _ = some vv)))
    go_ret
    exact ⟨by rw [HV.out]; rfl, below2 HB.out hb1⟩
  have f3 : decide (kindsM r.cls < r.kind) = false := by exact decide_eq_false c3
  by_cases c4 : ¬ (r.cls = 1 ↔ r.frm = 0)
  · have f4 : decide (¬ (r.cls = 1 ↔ r.frm = 0)) = true := by exact decide_eq_true c4
    have hv : recMay r = false := decide_eq_false (fun h => by obtain ⟨p0, p1, p2, p3, p4, p5, p6, p7, p8, p9, p10, p11⟩ := h; exact c4 p4)
    have HV := Lib.hid hv
    clear hv c0 c1 c2 c3 c4
    rw [f4] at hiff
    have hiff2 : ¬ ((r.cls == 1) = (r.frm == 0)) := by rwa [bne_iff_ne] at hiff
    go_enter Try.func11, Try.ntmps11
    go_wp2_with ((go_at_call 19; refine (rec_most r vv _).mono ?_; rintro e w1 ⟨rfl, hb1⟩; have hB1 := block_below hb1 (blk_new w _ rfl); have k01 := (cell_of_blk hB1 0).trans (rfl : _ = some (Value.int .i64 r.cls)); have k11 := (cell_of_blk hB1 1).trans (rfl : _ = some (Value.int .i64 r.kind)); have k21 := (cell_of_blk hB1 2).trans (rfl : _ = some (Value.int .u64 r.frm)); have k31 := (cell_of_blk hB1 3).trans (rfl : _ = some (Value.int .i64 r.time)); have k41 := (cell_of_blk hB1 4).trans (rfl : _ = some (Value.int .u64 r.key)); have k51 := (cell_of_blk hB1 5).trans (rfl : _ = some (Value.int .u64 r.key2)); have k61 := (cell_of_blk hB1 6).trans (rfl : _ = some (Value.int .u64 r.key3)); have k71 := (cell_of_blk hB1 7).trans (rfl : _ = some (Value.int .i64 r.n)); have k81 := (cell_of_blk hB1 8).trans (rfl : _ = some (Value.int .i64 r.m)); have k91 := (cell_of_blk hB1 9).trans (rfl : _ = some (Value.string r.a)); have k101 := (cell_of_blk hB1 10).trans (rfl : _ = some (Value.string r.b)); have k111 := (cell_of_blk hB1 11).trans (rfl : _ = some (Value.string r.c)); have k121 := (cell_of_blk hB1 12).trans (rfl : _ = some vv)))
    go_ret
    exact ⟨by rw [HV.out]; rfl, below2 HB.out hb1⟩
  have f4 : decide (¬ (r.cls = 1 ↔ r.frm = 0)) = false := by exact decide_eq_false c4
  by_cases c5 : r.time < 0
  · have f5 : decide (r.time < 0) = true := by exact decide_eq_true c5
    have hv : recMay r = false := decide_eq_false (fun h => by obtain ⟨p0, p1, p2, p3, p4, p5, p6, p7, p8, p9, p10, p11⟩ := h; clear c4 p4; omega)
    have HV := Lib.hid hv
    clear hv c0 c1 c2 c3 c4 c5
    rw [f4] at hiff
    have hiff2 : (r.cls == 1) = (r.frm == 0) := by rwa [bne_eq_false_iff_eq] at hiff
    go_enter Try.func11, Try.ntmps11
    go_wp2_with ((go_at_call 19; refine (rec_most r vv _).mono ?_; rintro e w1 ⟨rfl, hb1⟩; have hB1 := block_below hb1 (blk_new w _ rfl); have k01 := (cell_of_blk hB1 0).trans (rfl : _ = some (Value.int .i64 r.cls)); have k11 := (cell_of_blk hB1 1).trans (rfl : _ = some (Value.int .i64 r.kind)); have k21 := (cell_of_blk hB1 2).trans (rfl : _ = some (Value.int .u64 r.frm)); have k31 := (cell_of_blk hB1 3).trans (rfl : _ = some (Value.int .i64 r.time)); have k41 := (cell_of_blk hB1 4).trans (rfl : _ = some (Value.int .u64 r.key)); have k51 := (cell_of_blk hB1 5).trans (rfl : _ = some (Value.int .u64 r.key2)); have k61 := (cell_of_blk hB1 6).trans (rfl : _ = some (Value.int .u64 r.key3)); have k71 := (cell_of_blk hB1 7).trans (rfl : _ = some (Value.int .i64 r.n)); have k81 := (cell_of_blk hB1 8).trans (rfl : _ = some (Value.int .i64 r.m)); have k91 := (cell_of_blk hB1 9).trans (rfl : _ = some (Value.string r.a)); have k101 := (cell_of_blk hB1 10).trans (rfl : _ = some (Value.string r.b)); have k111 := (cell_of_blk hB1 11).trans (rfl : _ = some (Value.string r.c)); have k121 := (cell_of_blk hB1 12).trans (rfl : _ = some vv)))
    go_ret
    exact ⟨by rw [HV.out]; rfl, below2 HB.out hb1⟩
  have f5 : decide (r.time < 0) = false := by exact decide_eq_false c5
  by_cases c6 : (1099511627776 : Int) < r.time
  · have f6 : decide ((1099511627776 : Int) < r.time) = true := by exact decide_eq_true c6
    have hv : recMay r = false := decide_eq_false (fun h => by obtain ⟨p0, p1, p2, p3, p4, p5, p6, p7, p8, p9, p10, p11⟩ := h; clear c4 p4; omega)
    have HV := Lib.hid hv
    clear hv c0 c1 c2 c3 c4 c5 c6
    rw [f4] at hiff
    have hiff2 : (r.cls == 1) = (r.frm == 0) := by rwa [bne_eq_false_iff_eq] at hiff
    go_enter Try.func11, Try.ntmps11
    go_wp2_with ((go_at_call 19; refine (rec_most r vv _).mono ?_; rintro e w1 ⟨rfl, hb1⟩; have hB1 := block_below hb1 (blk_new w _ rfl); have k01 := (cell_of_blk hB1 0).trans (rfl : _ = some (Value.int .i64 r.cls)); have k11 := (cell_of_blk hB1 1).trans (rfl : _ = some (Value.int .i64 r.kind)); have k21 := (cell_of_blk hB1 2).trans (rfl : _ = some (Value.int .u64 r.frm)); have k31 := (cell_of_blk hB1 3).trans (rfl : _ = some (Value.int .i64 r.time)); have k41 := (cell_of_blk hB1 4).trans (rfl : _ = some (Value.int .u64 r.key)); have k51 := (cell_of_blk hB1 5).trans (rfl : _ = some (Value.int .u64 r.key2)); have k61 := (cell_of_blk hB1 6).trans (rfl : _ = some (Value.int .u64 r.key3)); have k71 := (cell_of_blk hB1 7).trans (rfl : _ = some (Value.int .i64 r.n)); have k81 := (cell_of_blk hB1 8).trans (rfl : _ = some (Value.int .i64 r.m)); have k91 := (cell_of_blk hB1 9).trans (rfl : _ = some (Value.string r.a)); have k101 := (cell_of_blk hB1 10).trans (rfl : _ = some (Value.string r.b)); have k111 := (cell_of_blk hB1 11).trans (rfl : _ = some (Value.string r.c)); have k121 := (cell_of_blk hB1 12).trans (rfl : _ = some vv)))
    go_ret
    exact ⟨by rw [HV.out]; rfl, below2 HB.out hb1⟩
  have f6 : decide ((1099511627776 : Int) < r.time) = false := by exact decide_eq_false c6
  by_cases c7 : aMost r.cls r.kind < (r.a.size : Int)
  · have f7 : decide (aMost r.cls r.kind < (r.a.size : Int)) = true := by exact decide_eq_true c7
    have hv : recMay r = false := decide_eq_false (fun h => by obtain ⟨p0, p1, p2, p3, p4, p5, p6, p7, p8, p9, p10, p11⟩ := h; clear c4 p4; omega)
    have HV := Lib.hid hv
    clear hv c0 c1 c2 c3 c4 c5 c6 c7
    rw [f4] at hiff
    have hiff2 : (r.cls == 1) = (r.frm == 0) := by rwa [bne_eq_false_iff_eq] at hiff
    go_enter Try.func11, Try.ntmps11
    go_wp2_with ((go_at_call 19; refine (rec_most r vv _).mono ?_; rintro e w1 ⟨rfl, hb1⟩; have hB1 := block_below hb1 (blk_new w _ rfl); have k01 := (cell_of_blk hB1 0).trans (rfl : _ = some (Value.int .i64 r.cls)); have k11 := (cell_of_blk hB1 1).trans (rfl : _ = some (Value.int .i64 r.kind)); have k21 := (cell_of_blk hB1 2).trans (rfl : _ = some (Value.int .u64 r.frm)); have k31 := (cell_of_blk hB1 3).trans (rfl : _ = some (Value.int .i64 r.time)); have k41 := (cell_of_blk hB1 4).trans (rfl : _ = some (Value.int .u64 r.key)); have k51 := (cell_of_blk hB1 5).trans (rfl : _ = some (Value.int .u64 r.key2)); have k61 := (cell_of_blk hB1 6).trans (rfl : _ = some (Value.int .u64 r.key3)); have k71 := (cell_of_blk hB1 7).trans (rfl : _ = some (Value.int .i64 r.n)); have k81 := (cell_of_blk hB1 8).trans (rfl : _ = some (Value.int .i64 r.m)); have k91 := (cell_of_blk hB1 9).trans (rfl : _ = some (Value.string r.a)); have k101 := (cell_of_blk hB1 10).trans (rfl : _ = some (Value.string r.b)); have k111 := (cell_of_blk hB1 11).trans (rfl : _ = some (Value.string r.c)); have k121 := (cell_of_blk hB1 12).trans (rfl : _ = some vv)))
    go_ret
    exact ⟨by rw [HV.out]; rfl, below2 HB.out hb1⟩
  have f7 : decide (aMost r.cls r.kind < (r.a.size : Int)) = false := by exact decide_eq_false c7
  by_cases c8 : bMost r.cls r.kind < (r.b.size : Int)
  · have f8 : decide (bMost r.cls r.kind < (r.b.size : Int)) = true := by exact decide_eq_true c8
    have hv : recMay r = false := decide_eq_false (fun h => by obtain ⟨p0, p1, p2, p3, p4, p5, p6, p7, p8, p9, p10, p11⟩ := h; clear c4 p4; omega)
    have HV := Lib.hid hv
    clear hv c0 c1 c2 c3 c4 c5 c6 c7 c8
    rw [f4] at hiff
    have hiff2 : (r.cls == 1) = (r.frm == 0) := by rwa [bne_eq_false_iff_eq] at hiff
    go_enter Try.func11, Try.ntmps11
    go_wp2_with ((go_at_call 19; refine (rec_most r vv _).mono ?_; rintro e w1 ⟨rfl, hb1⟩; have hB1 := block_below hb1 (blk_new w _ rfl); have k01 := (cell_of_blk hB1 0).trans (rfl : _ = some (Value.int .i64 r.cls)); have k11 := (cell_of_blk hB1 1).trans (rfl : _ = some (Value.int .i64 r.kind)); have k21 := (cell_of_blk hB1 2).trans (rfl : _ = some (Value.int .u64 r.frm)); have k31 := (cell_of_blk hB1 3).trans (rfl : _ = some (Value.int .i64 r.time)); have k41 := (cell_of_blk hB1 4).trans (rfl : _ = some (Value.int .u64 r.key)); have k51 := (cell_of_blk hB1 5).trans (rfl : _ = some (Value.int .u64 r.key2)); have k61 := (cell_of_blk hB1 6).trans (rfl : _ = some (Value.int .u64 r.key3)); have k71 := (cell_of_blk hB1 7).trans (rfl : _ = some (Value.int .i64 r.n)); have k81 := (cell_of_blk hB1 8).trans (rfl : _ = some (Value.int .i64 r.m)); have k91 := (cell_of_blk hB1 9).trans (rfl : _ = some (Value.string r.a)); have k101 := (cell_of_blk hB1 10).trans (rfl : _ = some (Value.string r.b)); have k111 := (cell_of_blk hB1 11).trans (rfl : _ = some (Value.string r.c)); have k121 := (cell_of_blk hB1 12).trans (rfl : _ = some vv)))
    go_ret
    exact ⟨by rw [HV.out]; rfl, below2 HB.out hb1⟩
  have f8 : decide (bMost r.cls r.kind < (r.b.size : Int)) = false := by exact decide_eq_false c8
  by_cases c9 : (32 : Int) < (r.c.size : Int)
  · have f9 : decide ((32 : Int) < (r.c.size : Int)) = true := by exact decide_eq_true c9
    have hv : recMay r = false := decide_eq_false (fun h => by obtain ⟨p0, p1, p2, p3, p4, p5, p6, p7, p8, p9, p10, p11⟩ := h; clear c4 p4; omega)
    have HV := Lib.hid hv
    clear hv c0 c1 c2 c3 c4 c5 c6 c7 c8 c9
    rw [f4] at hiff
    have hiff2 : (r.cls == 1) = (r.frm == 0) := by rwa [bne_eq_false_iff_eq] at hiff
    go_enter Try.func11, Try.ntmps11
    go_wp2_with ((go_at_call 19; refine (rec_most r vv _).mono ?_; rintro e w1 ⟨rfl, hb1⟩; have hB1 := block_below hb1 (blk_new w _ rfl); have k01 := (cell_of_blk hB1 0).trans (rfl : _ = some (Value.int .i64 r.cls)); have k11 := (cell_of_blk hB1 1).trans (rfl : _ = some (Value.int .i64 r.kind)); have k21 := (cell_of_blk hB1 2).trans (rfl : _ = some (Value.int .u64 r.frm)); have k31 := (cell_of_blk hB1 3).trans (rfl : _ = some (Value.int .i64 r.time)); have k41 := (cell_of_blk hB1 4).trans (rfl : _ = some (Value.int .u64 r.key)); have k51 := (cell_of_blk hB1 5).trans (rfl : _ = some (Value.int .u64 r.key2)); have k61 := (cell_of_blk hB1 6).trans (rfl : _ = some (Value.int .u64 r.key3)); have k71 := (cell_of_blk hB1 7).trans (rfl : _ = some (Value.int .i64 r.n)); have k81 := (cell_of_blk hB1 8).trans (rfl : _ = some (Value.int .i64 r.m)); have k91 := (cell_of_blk hB1 9).trans (rfl : _ = some (Value.string r.a)); have k101 := (cell_of_blk hB1 10).trans (rfl : _ = some (Value.string r.b)); have k111 := (cell_of_blk hB1 11).trans (rfl : _ = some (Value.string r.c)); have k121 := (cell_of_blk hB1 12).trans (rfl : _ = some vv)))
    go_ret
    exact ⟨by rw [HV.out]; rfl, below2 HB.out hb1⟩
  have f9 : decide ((32 : Int) < (r.c.size : Int)) = false := by exact decide_eq_false c9
  by_cases c10 : rightV r.vars = false
  · have f10 : rightV r.vars = false := by exact c10
    have hv : recMay r = false := decide_eq_false (fun h => by obtain ⟨p0, p1, p2, p3, p4, p5, p6, p7, p8, p9, p10, p11⟩ := h; rw [p10] at c10; cases c10)
    have HV := Lib.hid hv
    clear hv c0 c1 c2 c3 c4 c5 c6 c7 c8 c9 c10
    rw [f4] at hiff
    have hiff2 : (r.cls == 1) = (r.frm == 0) := by rwa [bne_eq_false_iff_eq] at hiff
    go_enter Try.func11, Try.ntmps11
    go_wp2_with (first | (go_at_call 19; refine (rec_most r vv _).mono ?_; rintro e w1 ⟨rfl, hb1⟩; have hB1 := block_below hb1 (blk_new w _ rfl); have k01 := (cell_of_blk hB1 0).trans (rfl : _ = some (Value.int .i64 r.cls)); have k11 := (cell_of_blk hB1 1).trans (rfl : _ = some (Value.int .i64 r.kind)); have k21 := (cell_of_blk hB1 2).trans (rfl : _ = some (Value.int .u64 r.frm)); have k31 := (cell_of_blk hB1 3).trans (rfl : _ = some (Value.int .i64 r.time)); have k41 := (cell_of_blk hB1 4).trans (rfl : _ = some (Value.int .u64 r.key)); have k51 := (cell_of_blk hB1 5).trans (rfl : _ = some (Value.int .u64 r.key2)); have k61 := (cell_of_blk hB1 6).trans (rfl : _ = some (Value.int .u64 r.key3)); have k71 := (cell_of_blk hB1 7).trans (rfl : _ = some (Value.int .i64 r.n)); have k81 := (cell_of_blk hB1 8).trans (rfl : _ = some (Value.int .i64 r.m)); have k91 := (cell_of_blk hB1 9).trans (rfl : _ = some (Value.string r.a)); have k101 := (cell_of_blk hB1 10).trans (rfl : _ = some (Value.string r.b)); have k111 := (cell_of_blk hB1 11).trans (rfl : _ = some (Value.string r.c)); have k121 := (cell_of_blk hB1 12).trans (rfl : _ = some vv)) | (go_at_call 20; refine (val_Right S r.vars r.vars.length vv _ rfl ((HR.out.below HB.out).below hb1) (HW.out.2.2.2.2.2.2.2.2.2.2.2.2)).mono ?_; rintro e w2 ⟨rfl, hb2⟩; have hB2 := block_below hb2 hB1; have k02 := (cell_of_blk hB2 0).trans (rfl : _ = some (Value.int .i64 r.cls)); have k12 := (cell_of_blk hB2 1).trans (rfl : _ = some (Value.int .i64 r.kind)); have k22 := (cell_of_blk hB2 2).trans (rfl : _ = some (Value.int .u64 r.frm)); have k32 := (cell_of_blk hB2 3).trans (rfl : _ = some (Value.int .i64 r.time)); have k42 := (cell_of_blk hB2 4).trans (rfl : _ = some (Value.int .u64 r.key)); have k52 := (cell_of_blk hB2 5).trans (rfl : _ = some (Value.int .u64 r.key2)); have k62 := (cell_of_blk hB2 6).trans (rfl : _ = some (Value.int .u64 r.key3)); have k72 := (cell_of_blk hB2 7).trans (rfl : _ = some (Value.int .i64 r.n)); have k82 := (cell_of_blk hB2 8).trans (rfl : _ = some (Value.int .i64 r.m)); have k92 := (cell_of_blk hB2 9).trans (rfl : _ = some (Value.string r.a)); have k102 := (cell_of_blk hB2 10).trans (rfl : _ = some (Value.string r.b)); have k112 := (cell_of_blk hB2 11).trans (rfl : _ = some (Value.string r.c)); have k122 := (cell_of_blk hB2 12).trans (rfl : _ = some vv)))
    go_ret
    exact ⟨by rw [HV.out]; rfl, below2 (below2 HB.out hb1) hb2⟩
  have f10 : rightV r.vars = true := by simpa using c10
  have hv : recMay r = decide (((recText r).size : Int) ≤ 4096) := by
    refine decide_eq_decide.2 ⟨fun h => ?_, fun h => ?_⟩
    · obtain ⟨p0, p1, p2, p3, p4, p5, p6, p7, p8, p9, p10, p11⟩ := h
      clear p4 c4; omega
    · have c4' := Classical.not_not.1 c4
      clear c4 HW HR HB hiff f4
      exact ⟨by omega, by omega, by omega, by omega, c4', by omega, by omega, by omega, by omega, by omega, f10, by omega⟩
  have HV := Lib.hid hv
  clear hv c0 c1 c2 c3 c4 c5 c6 c7 c8 c9 c10
  rw [f4] at hiff
  have hiff2 : (r.cls == 1) = (r.frm == 0) := by rwa [bne_eq_false_iff_eq] at hiff
  go_enter Try.func11, Try.ntmps11
  go_wp2_with (first | (go_at_call 19; refine (rec_most r vv _).mono ?_; rintro e w1 ⟨rfl, hb1⟩; have hB1 := block_below hb1 (blk_new w _ rfl); have k01 := (cell_of_blk hB1 0).trans (rfl : _ = some (Value.int .i64 r.cls)); have k11 := (cell_of_blk hB1 1).trans (rfl : _ = some (Value.int .i64 r.kind)); have k21 := (cell_of_blk hB1 2).trans (rfl : _ = some (Value.int .u64 r.frm)); have k31 := (cell_of_blk hB1 3).trans (rfl : _ = some (Value.int .i64 r.time)); have k41 := (cell_of_blk hB1 4).trans (rfl : _ = some (Value.int .u64 r.key)); have k51 := (cell_of_blk hB1 5).trans (rfl : _ = some (Value.int .u64 r.key2)); have k61 := (cell_of_blk hB1 6).trans (rfl : _ = some (Value.int .u64 r.key3)); have k71 := (cell_of_blk hB1 7).trans (rfl : _ = some (Value.int .i64 r.n)); have k81 := (cell_of_blk hB1 8).trans (rfl : _ = some (Value.int .i64 r.m)); have k91 := (cell_of_blk hB1 9).trans (rfl : _ = some (Value.string r.a)); have k101 := (cell_of_blk hB1 10).trans (rfl : _ = some (Value.string r.b)); have k111 := (cell_of_blk hB1 11).trans (rfl : _ = some (Value.string r.c)); have k121 := (cell_of_blk hB1 12).trans (rfl : _ = some vv)) | (go_at_call 20; refine (val_Right S r.vars r.vars.length vv _ rfl ((HR.out.below HB.out).below hb1) (HW.out.2.2.2.2.2.2.2.2.2.2.2.2)).mono ?_; rintro e w2 ⟨rfl, hb2⟩; have hB2 := block_below hb2 hB1; have k02 := (cell_of_blk hB2 0).trans (rfl : _ = some (Value.int .i64 r.cls)); have k12 := (cell_of_blk hB2 1).trans (rfl : _ = some (Value.int .i64 r.kind)); have k22 := (cell_of_blk hB2 2).trans (rfl : _ = some (Value.int .u64 r.frm)); have k32 := (cell_of_blk hB2 3).trans (rfl : _ = some (Value.int .i64 r.time)); have k42 := (cell_of_blk hB2 4).trans (rfl : _ = some (Value.int .u64 r.key)); have k52 := (cell_of_blk hB2 5).trans (rfl : _ = some (Value.int .u64 r.key2)); have k62 := (cell_of_blk hB2 6).trans (rfl : _ = some (Value.int .u64 r.key3)); have k72 := (cell_of_blk hB2 7).trans (rfl : _ = some (Value.int .i64 r.n)); have k82 := (cell_of_blk hB2 8).trans (rfl : _ = some (Value.int .i64 r.m)); have k92 := (cell_of_blk hB2 9).trans (rfl : _ = some (Value.string r.a)); have k102 := (cell_of_blk hB2 10).trans (rfl : _ = some (Value.string r.b)); have k112 := (cell_of_blk hB2 11).trans (rfl : _ = some (Value.string r.c)); have k122 := (cell_of_blk hB2 12).trans (rfl : _ = some vv)) | (go_at_call 17; refine (rec_text r vv S _ (((HR.out.below HB.out).below hb1).below hb2) HW.out).mono ?_; rintro e w3 ⟨rfl, hb3⟩))
  go_ret
  exact ⟨by rw [HV.out]; rfl, below2 (below2 (below2 HB.out hb1) hb2) hb3⟩

set_option maxRecDepth 100000 in
set_option maxHeartbeats 1000000 in
theorem rec_Bytes (r : GRec) (vv : Value) (S : Nat → Prop) (w : World) (hrow : Row w S 4 r.vars.length vv (varCells r.vars)) (hw : r.wf) :
    Calls Try.prog 9 #[.agg #[.int .i64 r.cls, .int .i64 r.kind, .int .u64 r.frm, .int .i64 r.time, .int .u64 r.key, .int .u64 r.key2, .int .u64 r.key3, .int .i64 r.n, .int .i64 r.m, .string r.a, .string r.b, .string r.c, vv]] w fun e w' => e = .returned (.tuple #[.string (recB r).1, .int .i64 (recB r).2]) ∧ Below w.heap.size w w' := by
  have HW := Lib.hid hw
  have HR := Lib.hid hrow
  have hbb : Below w.heap.size w (w.alloc (.cells #[.int .i64 r.cls, .int .i64 r.kind, .int .u64 r.frm, .int .i64 r.time, .int .u64 r.key, .int .u64 r.key2, .int .u64 r.key3, .int .i64 r.n, .int .i64 r.m, .string r.a, .string r.b, .string r.c, vv] 25)) := (Below.refl _ _).alloc (Nat.le_refl _) _
  have HB := Lib.hid hbb
  have HM := Lib.hid (fun W h => rec_May r vv S W h hw)
  clear hbb hw hrow
  cases hm : recMay r
  · have hv : recB r = (⟨#[]⟩, 1) := by unfold recB; rw [hm]; rfl
    have HV := Lib.hid hv
    have HE := Lib.hid hm
    clear hm hv
    go_enter Try.func9, Try.ntmps9
    go_wp2_with (go_at_call 11; refine (HM.out _ (HR.out.below HB.out)).mono ?_; (have hE := HE.out); simp only [hE]; clear hE; rintro e w1 ⟨rfl, hb1⟩; have hB1 := block_below hb1 (blk_new w _ rfl); have k01 := (cell_of_blk hB1 0).trans (rfl : _ = some (Value.int .i64 r.cls)); have k11 := (cell_of_blk hB1 1).trans (rfl : _ = some (Value.int .i64 r.kind)); have k21 := (cell_of_blk hB1 2).trans (rfl : _ = some (Value.int .u64 r.frm)); have k31 := (cell_of_blk hB1 3).trans (rfl : _ = some (Value.int .i64 r.time)); have k41 := (cell_of_blk hB1 4).trans (rfl : _ = some (Value.int .u64 r.key)); have k51 := (cell_of_blk hB1 5).trans (rfl : _ = some (Value.int .u64 r.key2)); have k61 := (cell_of_blk hB1 6).trans (rfl : _ = some (Value.int .u64 r.key3)); have k71 := (cell_of_blk hB1 7).trans (rfl : _ = some (Value.int .i64 r.n)); have k81 := (cell_of_blk hB1 8).trans (rfl : _ = some (Value.int .i64 r.m)); have k91 := (cell_of_blk hB1 9).trans (rfl : _ = some (Value.string r.a)); have k101 := (cell_of_blk hB1 10).trans (rfl : _ = some (Value.string r.b)); have k111 := (cell_of_blk hB1 11).trans (rfl : _ = some (Value.string r.c)); have k121 := (cell_of_blk hB1 12).trans (rfl : _ = some vv))
    go_ret2
    exact ⟨by rw [HV.out]; rfl, below2 HB.out hb1⟩
  · have hv : recB r = (recText r, 0) := by unfold recB; rw [hm]; rfl
    have HV := Lib.hid hv
    have HE := Lib.hid hm
    clear hm hv
    go_enter Try.func9, Try.ntmps9
    go_wp2_with (first | (go_at_call 11; refine (HM.out _ (HR.out.below HB.out)).mono ?_; (have hE := HE.out); simp only [hE]; clear hE; rintro e w1 ⟨rfl, hb1⟩; have hB1 := block_below hb1 (blk_new w _ rfl); have k01 := (cell_of_blk hB1 0).trans (rfl : _ = some (Value.int .i64 r.cls)); have k11 := (cell_of_blk hB1 1).trans (rfl : _ = some (Value.int .i64 r.kind)); have k21 := (cell_of_blk hB1 2).trans (rfl : _ = some (Value.int .u64 r.frm)); have k31 := (cell_of_blk hB1 3).trans (rfl : _ = some (Value.int .i64 r.time)); have k41 := (cell_of_blk hB1 4).trans (rfl : _ = some (Value.int .u64 r.key)); have k51 := (cell_of_blk hB1 5).trans (rfl : _ = some (Value.int .u64 r.key2)); have k61 := (cell_of_blk hB1 6).trans (rfl : _ = some (Value.int .u64 r.key3)); have k71 := (cell_of_blk hB1 7).trans (rfl : _ = some (Value.int .i64 r.n)); have k81 := (cell_of_blk hB1 8).trans (rfl : _ = some (Value.int .i64 r.m)); have k91 := (cell_of_blk hB1 9).trans (rfl : _ = some (Value.string r.a)); have k101 := (cell_of_blk hB1 10).trans (rfl : _ = some (Value.string r.b)); have k111 := (cell_of_blk hB1 11).trans (rfl : _ = some (Value.string r.c)); have k121 := (cell_of_blk hB1 12).trans (rfl : _ = some vv)) | (go_at_call 17; refine (rec_text r vv S _ ((HR.out.below HB.out).below hb1) HW.out).mono ?_; rintro e w2 ⟨rfl, hb2⟩))
    go_ret2
    exact ⟨by rw [HV.out]; rfl, below2 (below2 HB.out hb1) hb2⟩
end Go.Proofs.Ytcfdbdmefdffdaa
