/-
  The walks of rec.most, May and Bytes.
-/
import Derived.Test.YtcfdbdmefdffdaaRecB
set_option linter.unusedVariables false
set_option linter.unusedSimpArgs false
namespace Go.Proofs.Ytcfdbdmefdffdaa
open Go Go.RowKit Go.Proofs.Base
open Go.Sort (grow)

set_option maxRecDepth 100000 in
set_option maxHeartbeats 1000000 in
theorem rec_most (r : GRec) (vv : Value) (w : World) :
    Calls Try.prog 19 #[.agg #[.int .i64 r.cls, .int .i64 r.kind, .int .u64 r.frm, .int .i64 r.time, .int .u64 r.key, .int .u64 r.key2, .int .u64 r.key3, .int .i64 r.n, .int .i64 r.m, .string r.a, .string r.b, .string r.c, vv]] w fun e w' => e = .returned (.tuple #[.int .i64 (kindsM r.cls), .int .i64 (aMost r.cls r.kind), .int .i64 (bMost r.cls r.kind)]) ∧ Below w.heap.size w w' := by
  unfold kindsM aMost bMost
  have hbb : Below w.heap.size w (w.alloc (.cells #[.int .i64 r.cls, .int .i64 r.kind, .int .u64 r.frm, .int .i64 r.time, .int .u64 r.key, .int .u64 r.key2, .int .u64 r.key3, .int .i64 r.n, .int .i64 r.m, .string r.a, .string r.b, .string r.c, vv] 25)) := (Below.refl _ _).alloc (Nat.le_refl _) _
  have HB := Lib.hid hbb
  clear hbb
  by_cases h2 : r.cls = 2
  · have h1 : r.cls ≠ 1 := by omega
    have b2 := beq_t h2
    by_cases hk : r.kind = 1
    · have bk := beq_t hk
      rw [if_pos h2, if_neg (fun h => h1 h.1), if_pos ⟨h2, hk⟩]
      clear h1 h2 hk
      go_enter Try.func19, Try.ntmps19
      go_wp2_with fail
      go_ret3
      exact ⟨rfl, HB.out⟩
    · have bk := beq_f hk
      rw [if_pos h2, if_neg (fun h => h1 h.1), if_neg (fun h => hk h.2)]
      clear h1 h2 hk
      go_enter Try.func19, Try.ntmps19
      go_wp2_with fail
      go_ret3
      exact ⟨rfl, HB.out⟩
  · have b2 := beq_f h2
    by_cases h1 : r.cls = 1
    · have b1 := beq_t h1
      by_cases hk : r.kind = 1
      · have bk := beq_t hk
        rw [if_neg h2, if_pos ⟨h1, hk⟩, if_neg (fun h => h2 h.1)]
        clear h1 h2 hk
        go_enter Try.func19, Try.ntmps19
        go_wp2_with fail
        go_ret3
        exact ⟨rfl, HB.out⟩
      · have bk := beq_f hk
        rw [if_neg h2, if_neg (fun h => hk h.2), if_neg (fun h => h2 h.1)]
        clear h1 h2 hk
        go_enter Try.func19, Try.ntmps19
        go_wp2_with fail
        go_ret3
        exact ⟨rfl, HB.out⟩
    · have b1 := beq_f h1
      rw [if_neg h2, if_neg (fun h => h1 h.1), if_neg (fun h => h2 h.1)]
      clear h1 h2
      go_enter Try.func19, Try.ntmps19
      go_wp2_with fail
      go_ret3
      exact ⟨rfl, HB.out⟩
end Go.Proofs.Ytcfdbdmefdffdaa
