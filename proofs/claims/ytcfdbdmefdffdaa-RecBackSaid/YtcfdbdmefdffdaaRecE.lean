/-
  Two records that are known; the walk of the law's 'shown'.
-/
import Derived.Test.YtcfdbdmefdffdaaRecD
set_option linter.unusedVariables false
set_option linter.unusedSimpArgs false
namespace Go.Proofs.Ytcfdbdmefdffdaa
open Go Go.RowKit Go.Proofs.Base
open Go.Sort (grow)

def rec1 : GRec := ⟨1, 7, 0, 0, 5, 0, 0, 0, 0, ⟨#[]⟩, ⟨#[]⟩, ⟨#[]⟩, []⟩
def rec0 : GRec := ⟨0, 0, 0, 0, 0, 0, 0, 0, 0, ⟨#[]⟩, ⟨#[]⟩, ⟨#[]⟩, []⟩
theorem rec1_B : recB rec1 = (⟨#[1,7,0,0,5,0,0,0,0,0,0,0,0]⟩, 0) := by kernel_rfl
theorem rec0_B : recB rec0 = (⟨#[]⟩, 1) := by kernel_rfl
theorem okS_empty : okS ⟨#[]⟩ := by show (0 : Nat) ≤ 140737488351232; decide
theorem rec1_wf : rec1.wf := ⟨⟨by decide, by decide⟩, ⟨by decide, by decide⟩, ⟨by decide, by decide⟩, ⟨by decide, by decide⟩, ⟨by decide, by decide⟩, ⟨by decide, by decide⟩, ⟨by decide, by decide⟩, ⟨by decide, by decide⟩, ⟨by decide, by decide⟩, okS_empty, okS_empty, okS_empty, fun x h => by cases h⟩
theorem rec0_wf : rec0.wf := ⟨⟨by decide, by decide⟩, ⟨by decide, by decide⟩, ⟨by decide, by decide⟩, ⟨by decide, by decide⟩, ⟨by decide, by decide⟩, ⟨by decide, by decide⟩, ⟨by decide, by decide⟩, ⟨by decide, by decide⟩, ⟨by decide, by decide⟩, okS_empty, okS_empty, okS_empty, fun x h => by cases h⟩

theorem rec1_Bytes (w : World) : Calls Try.prog 9 #[.agg #[.int .i64 1, .int .i64 7, .int .u64 0, .int .i64 0, .int .u64 5, .int .u64 0, .int .u64 0, .int .i64 0, .int .i64 0, .string ⟨#[]⟩, .string ⟨#[]⟩, .string ⟨#[]⟩, .slice none 0 0]] w fun e w' => e = .returned (.tuple #[.string ⟨#[1,7,0,0,5,0,0,0,0,0,0,0,0]⟩, .int .i64 0]) ∧ Below w.heap.size w w' := by
  have h := rec_Bytes rec1 (.slice none 0 0) (fun _ => False) w (Row.nil _ _ _) rec1_wf
  rw [rec1_B] at h
  exact h
theorem rec0_Bytes (w : World) : Calls Try.prog 9 #[.agg #[.int .i64 0, .int .i64 0, .int .u64 0, .int .i64 0, .int .u64 0, .int .u64 0, .int .u64 0, .int .i64 0, .int .i64 0, .string ⟨#[]⟩, .string ⟨#[]⟩, .string ⟨#[]⟩, .slice none 0 0]] w fun e w' => e = .returned (.tuple #[.string ⟨#[]⟩, .int .i64 1]) ∧ Below w.heap.size w w' := by
  have h := rec_Bytes rec0 (.slice none 0 0) (fun _ => False) w (Row.nil _ _ _) rec0_wf
  rw [rec0_B] at h
  exact h

set_option maxRecDepth 100000 in
set_option maxHeartbeats 1000000 in
theorem rec_shown (w : World) :
    Calls Try.prog 8 #[] w fun e w' => e = .returned (.bool true) ∧ Below w.heap.size w w' := by
  go_enter Try.func8, Try.ntmps8
  go_wp2_with (first | (go_at_call 9; refine (rec1_Bytes _).mono ?_; rintro e w1 ⟨rfl, hb1⟩) | (go_at_call 9; refine (rec0_Bytes _).mono ?_; rintro e w2 ⟨rfl, hb2⟩))
  go_ret
  exact ⟨rfl, below2 hb1 hb2⟩
end Go.Proofs.Ytcfdbdmefdffdaa
