/-
  The walks of rec: text, and what it is made of.
-/
import Derived.Test.YtcfdbdmefdffdaaRecP
import Derived.Test.YtcfdbdmefdffdaaValE
set_option linter.unusedVariables false
set_option linter.unusedSimpArgs false
namespace Go.Proofs.Ytcfdbdmefdffdaa
open Go Go.RowKit Go.Proofs.Base
open Go.Sort (grow)

set_option maxRecDepth 100000 in
set_option maxHeartbeats 1000000 in
theorem rec_text1 (B : Nat) (r : GRec) (vv : Value) (w : World) (hw : r.wf) (hb : w.heap[B]? = some (.cells #[.int .i64 r.cls, .int .i64 r.kind, .int .u64 r.frm, .int .i64 r.time, .int .u64 r.key, .int .u64 r.key2, .int .u64 r.key3, .int .i64 r.n, .int .i64 r.m, .string r.a, .string r.b, .string r.c, vv] 25 (0, 0))) :
    Calls Try.prog 38 #[.pointer (some ⟨B, 0, none⟩)] w fun e w' => e = .returned (.string (recPiece r 0)) ∧ Below w.heap.size w w' := by
  obtain ⟨h1, h2, h3, h4, h5, h6, h7, h8, h9, h10, h11, h12, h13⟩ := hw
  have k2 := cell_regrown (cell_of_blk hb 2)
  have k3 := cell_regrown (cell_of_blk hb 3)
  have c0 := fun d os => Calls.regrown_of (wire_Uint r.frm (grow (redrawn w d) os) h3.1 h3.2)
  have c1 := fun d os => Calls.regrown_of (wire_Int r.time (grow (redrawn w d) os) h4.1 h4.2)
  have hz : ¬ 9223372036854775807 < (uintB r.frm.toNat).size + (intB r.time).size := by have := uintB_size (u64_toNat h3); have := intB_size h4.1 h4.2; omega
  have HB := Lib.hid hb
  clear hb h1 h2 h3 h4 h5 h6 h7 h8 h9 h10 h11 h12 h13
  go_enter Try.func38, Try.ntmps38
  go_wp2_with fail
  refine wp_region_quiet_below (by kernel_rfl) (by kernel_rfl) ?_
  repeat (first | go_big_quiet_step (first | with_reducible exact c0 _ _ | with_reducible exact c1 _ _) | quiet_step (first | with_reducible exact c0 _ _ | with_reducible exact c1 _ _))
  refine wpQuiet_nil ?_
  intro _ hw'
  obtain ⟨⟨dq, osq⟩, hw''⟩ := hw'
  subst hw''
  go_wp2_with fail
  go_ret
  exact ⟨rfl, below_regrown w dq osq⟩

set_option maxRecDepth 100000 in
set_option maxHeartbeats 1000000 in
theorem rec_text2 (B : Nat) (r : GRec) (vv : Value) (w : World) (hw : r.wf) (hb : w.heap[B]? = some (.cells #[.int .i64 r.cls, .int .i64 r.kind, .int .u64 r.frm, .int .i64 r.time, .int .u64 r.key, .int .u64 r.key2, .int .u64 r.key3, .int .i64 r.n, .int .i64 r.m, .string r.a, .string r.b, .string r.c, vv] 25 (0, 0))) :
    Calls Try.prog 41 #[.pointer (some ⟨B, 0, none⟩)] w fun e w' => e = .returned (.string (recPiece r 1)) ∧ Below w.heap.size w w' := by
  obtain ⟨h1, h2, h3, h4, h5, h6, h7, h8, h9, h10, h11, h12, h13⟩ := hw
  have k4 := cell_regrown (cell_of_blk hb 4)
  have k5 := cell_regrown (cell_of_blk hb 5)
  have k6 := cell_regrown (cell_of_blk hb 6)
  have c0 := fun d os => Calls.regrown_of (wire_Uint r.key (grow (redrawn w d) os) h5.1 h5.2)
  have c1 := fun d os => Calls.regrown_of (wire_Uint r.key2 (grow (redrawn w d) os) h6.1 h6.2)
  have c2 := fun d os => Calls.regrown_of (wire_Uint r.key3 (grow (redrawn w d) os) h7.1 h7.2)
  have hz : ¬ 9223372036854775807 < (uintB r.key.toNat).size + (uintB r.key2.toNat).size := by have := uintB_size (u64_toNat h5); have := uintB_size (u64_toNat h6); omega
  have hz2 : ¬ 9223372036854775807 < (uintB r.key.toNat).size + (uintB r.key2.toNat).size + (uintB r.key3.toNat).size := by have := uintB_size (u64_toNat h5); have := uintB_size (u64_toNat h6); have := uintB_size (u64_toNat h7); omega
  have HB := Lib.hid hb
  clear hb h1 h2 h3 h4 h5 h6 h7 h8 h9 h10 h11 h12 h13
  go_enter Try.func41, Try.ntmps41
  go_wp2_with fail
  refine wp_region_quiet_below (by kernel_rfl) (by kernel_rfl) ?_
  repeat (first | go_big_quiet_step (first | with_reducible exact c0 _ _ | with_reducible exact c1 _ _ | with_reducible exact c2 _ _) | quiet_step (first | with_reducible exact c0 _ _ | with_reducible exact c1 _ _ | with_reducible exact c2 _ _))
  refine wpQuiet_nil ?_
  intro _ hw'
  obtain ⟨⟨dq, osq⟩, hw''⟩ := hw'
  subst hw''
  go_wp2_with fail
  go_ret
  exact ⟨rfl, below_regrown w dq osq⟩

set_option maxRecDepth 100000 in
set_option maxHeartbeats 1000000 in
theorem rec_text3 (B : Nat) (r : GRec) (vv : Value) (w : World) (hw : r.wf) (hb : w.heap[B]? = some (.cells #[.int .i64 r.cls, .int .i64 r.kind, .int .u64 r.frm, .int .i64 r.time, .int .u64 r.key, .int .u64 r.key2, .int .u64 r.key3, .int .i64 r.n, .int .i64 r.m, .string r.a, .string r.b, .string r.c, vv] 25 (0, 0))) :
    Calls Try.prog 42 #[.pointer (some ⟨B, 0, none⟩)] w fun e w' => e = .returned (.string (recPiece r 2)) ∧ Below w.heap.size w w' := by
  obtain ⟨h1, h2, h3, h4, h5, h6, h7, h8, h9, h10, h11, h12, h13⟩ := hw
  have k7 := cell_regrown (cell_of_blk hb 7)
  have k8 := cell_regrown (cell_of_blk hb 8)
  have c0 := fun d os => Calls.regrown_of (wire_Int r.n (grow (redrawn w d) os) h8.1 h8.2)
  have c1 := fun d os => Calls.regrown_of (wire_Int r.m (grow (redrawn w d) os) h9.1 h9.2)
  have hz : ¬ 9223372036854775807 < (intB r.n).size + (intB r.m).size := by have := intB_size h8.1 h8.2; have := intB_size h9.1 h9.2; omega
  have HB := Lib.hid hb
  clear hb h1 h2 h3 h4 h5 h6 h7 h8 h9 h10 h11 h12 h13
  go_enter Try.func42, Try.ntmps42
  go_wp2_with fail
  refine wp_region_quiet_below (by kernel_rfl) (by kernel_rfl) ?_
  repeat (first | go_big_quiet_step (first | with_reducible exact c0 _ _ | with_reducible exact c1 _ _) | quiet_step (first | with_reducible exact c0 _ _ | with_reducible exact c1 _ _))
  refine wpQuiet_nil ?_
  intro _ hw'
  obtain ⟨⟨dq, osq⟩, hw''⟩ := hw'
  subst hw''
  go_wp2_with fail
  go_ret
  exact ⟨rfl, below_regrown w dq osq⟩

set_option maxRecDepth 100000 in
set_option maxHeartbeats 1000000 in
theorem rec_text4 (B : Nat) (r : GRec) (vv : Value) (w : World) (hw : r.wf) (hb : w.heap[B]? = some (.cells #[.int .i64 r.cls, .int .i64 r.kind, .int .u64 r.frm, .int .i64 r.time, .int .u64 r.key, .int .u64 r.key2, .int .u64 r.key3, .int .i64 r.n, .int .i64 r.m, .string r.a, .string r.b, .string r.c, vv] 25 (0, 0))) :
    Calls Try.prog 43 #[.pointer (some ⟨B, 0, none⟩)] w fun e w' => e = .returned (.string (recPiece r 3)) ∧ Below w.heap.size w w' := by
  obtain ⟨h1, h2, h3, h4, h5, h6, h7, h8, h9, h10, h11, h12, h13⟩ := hw
  have k9 := cell_regrown (cell_of_blk hb 9)
  have k10 := cell_regrown (cell_of_blk hb 10)
  have k11 := cell_regrown (cell_of_blk hb 11)
  have c0 := fun d os => Calls.regrown_of (wire_Text r.a (grow (redrawn w d) os) h10)
  have c1 := fun d os => Calls.regrown_of (wire_Text r.b (grow (redrawn w d) os) h11)
  have c2 := fun d os => Calls.regrown_of (wire_Text r.c (grow (redrawn w d) os) h12)
  have hz : ¬ 9223372036854775807 < (textB r.a).size + (textB r.b).size := by have := textB_size h10; have := textB_size h11; unfold okS at h10 h11; omega
  have hz2 : ¬ 9223372036854775807 < (textB r.a).size + (textB r.b).size + (textB r.c).size := by have := textB_size h10; have := textB_size h11; have := textB_size h12; unfold okS at h10 h11 h12; omega
  have HB := Lib.hid hb
  clear hb h1 h2 h3 h4 h5 h6 h7 h8 h9 h10 h11 h12 h13
  go_enter Try.func43, Try.ntmps43
  go_wp2_with fail
  refine wp_region_quiet_below (by kernel_rfl) (by kernel_rfl) ?_
  repeat (first | go_big_quiet_step (first | with_reducible exact c0 _ _ | with_reducible exact c1 _ _ | with_reducible exact c2 _ _) | quiet_step (first | with_reducible exact c0 _ _ | with_reducible exact c1 _ _ | with_reducible exact c2 _ _))
  refine wpQuiet_nil ?_
  intro _ hw'
  obtain ⟨⟨dq, osq⟩, hw''⟩ := hw'
  subst hw''
  go_wp2_with fail
  go_ret
  exact ⟨rfl, below_regrown w dq osq⟩

set_option maxRecDepth 100000 in
set_option maxHeartbeats 1000000 in
theorem rec_text5 (B : Nat) (r : GRec) (vv : Value) (S : Nat → Prop) (w : World) (hrow : Row w S 4 r.vars.length vv (varCells r.vars)) (hw : r.wf) (hb : w.heap[B]? = some (.cells #[.int .i64 r.cls, .int .i64 r.kind, .int .u64 r.frm, .int .i64 r.time, .int .u64 r.key, .int .u64 r.key2, .int .u64 r.key3, .int .i64 r.n, .int .i64 r.m, .string r.a, .string r.b, .string r.c, vv] 25 (0, 0))) :
    Calls Try.prog 45 #[.pointer (some ⟨B, 0, none⟩)] w fun e w' => e = .returned (.string (recPiece r 4)) ∧ Below w.heap.size w w' := by
  obtain ⟨h1, h2, h3, h4, h5, h6, h7, h8, h9, h10, h11, h12, h13⟩ := hw
  have kb := cell_of_blk hb 12
  have HC := Lib.hid (val_VarsBytes S r.vars r.vars.length vv w rfl hrow h13)
  obtain ⟨A, c, rfl, _, _⟩ := hrow.open_
  clear hrow hb
  go_enter Try.func45, Try.ntmps45
  go_wp2_with (go_at_call 46; refine HC.out.mono ?_; rintro e w1 ⟨rfl, hb1⟩)
  go_ret
  exact ⟨rfl, hb1⟩
end Go.Proofs.Ytcfdbdmefdffdaa
