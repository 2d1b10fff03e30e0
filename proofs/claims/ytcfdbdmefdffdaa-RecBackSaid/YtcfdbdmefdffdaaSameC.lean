/-
  The walk of the reference's Same of records, all ways. Printed by gensamec.py.
-/
import Derived.Test.YtcfdbdmefdffdaaSameC0
import Derived.Test.YtcfdbdmefdffdaaSameC1
import Derived.Test.YtcfdbdmefdffdaaSameC2
import Derived.Test.YtcfdbdmefdffdaaSameC3
import Derived.Test.YtcfdbdmefdffdaaSameC4
import Derived.Test.YtcfdbdmefdffdaaSameC5
set_option linter.unusedVariables false
set_option linter.unusedSimpArgs false
namespace Go.Proofs.Ytcfdbdmefdffdaa
open Go Go.RowKit Go.Proofs.Base

theorem beqS_t {a b : ByteArray} (h : a = b) : (a.toList == b.toList) = true := by rw [h]; simp
theorem beqS_f {a b : ByteArray} (h : a ≠ b) : (a.toList == b.toList) = false := by
  rw [beq_eq_false_iff_ne]
  intro he
  rw [toList_toL, toList_toL] at he
  exact h (toL_inj he)
theorem same_f {r s : GRec} {t : Bool} (ht : t = true ↔ r = s) (h : r ≠ s) : t = false := by
  cases t
  · rfl
  · exact absurd (ht.1 rfl) h

theorem ref12_Same (r s : GRec) (vv uu : Value) (S : Nat → Prop) (t : Bool) (w : World) (h1 : Row w S 4 r.vars.length vv (varCells r.vars)) (h2 : Row w S 4 s.vars.length uu (varCells s.vars)) (ht : t = true ↔ r = s) :
    Calls Try.prog 14 #[.agg #[.int .i64 r.cls, .int .i64 r.kind, .int .u64 r.frm, .int .i64 r.time, .int .u64 r.key, .int .u64 r.key2, .int .u64 r.key3, .int .i64 r.n, .int .i64 r.m, .string r.a, .string r.b, .string r.c, vv], .agg #[.int .i64 s.cls, .int .i64 s.kind, .int .u64 s.frm, .int .i64 s.time, .int .u64 s.key, .int .u64 s.key2, .int .u64 s.key3, .int .i64 s.n, .int .i64 s.m, .string s.a, .string s.b, .string s.c, uu]] w fun e w' => e = .returned (.bool t) ∧ Below w.heap.size w w' := by
  obtain ⟨A1, c1, rfl, _, _⟩ := h1.open_
  obtain ⟨A2, c2, rfl, _, _⟩ := h2.open_
  by_cases ev : r.vars = s.vars
  rotate_left
  · rw [same_f ht (fun h => ev (congrArg GRec.vars h))]
    exact ref12_Same_0 r s A1 A2 c1 c2 S w h1 h2 ⟨fun h => (by cases h), fun h => absurd h ev⟩
  by_cases e0 : r.cls = s.cls
  rotate_left
  · rw [same_f ht (fun h => e0 (congrArg GRec.cls h))]
    exact ref12_Same_1 r s A1 A2 c1 c2 S w h1 h2 ⟨fun _ => ev, fun _ => rfl⟩  (beq_f e0)
  by_cases e1 : r.kind = s.kind
  rotate_left
  · rw [same_f ht (fun h => e1 (congrArg GRec.kind h))]
    exact ref12_Same_2 r s A1 A2 c1 c2 S w h1 h2 ⟨fun _ => ev, fun _ => rfl⟩ (beq_t e0) (beq_f e1)
  by_cases e2 : r.frm = s.frm
  rotate_left
  · rw [same_f ht (fun h => e2 (congrArg GRec.frm h))]
    exact ref12_Same_3 r s A1 A2 c1 c2 S w h1 h2 ⟨fun _ => ev, fun _ => rfl⟩ (beq_t e0) (beq_t e1) (beq_f e2)
  by_cases e3 : r.time = s.time
  rotate_left
  · rw [same_f ht (fun h => e3 (congrArg GRec.time h))]
    exact ref12_Same_4 r s A1 A2 c1 c2 S w h1 h2 ⟨fun _ => ev, fun _ => rfl⟩ (beq_t e0) (beq_t e1) (beq_t e2) (beq_f e3)
  by_cases e4 : r.key = s.key
  rotate_left
  · rw [same_f ht (fun h => e4 (congrArg GRec.key h))]
    exact ref12_Same_5 r s A1 A2 c1 c2 S w h1 h2 ⟨fun _ => ev, fun _ => rfl⟩ (beq_t e0) (beq_t e1) (beq_t e2) (beq_t e3) (beq_f e4)
  by_cases e5 : r.key2 = s.key2
  rotate_left
  · rw [same_f ht (fun h => e5 (congrArg GRec.key2 h))]
    exact ref12_Same_6 r s A1 A2 c1 c2 S w h1 h2 ⟨fun _ => ev, fun _ => rfl⟩ (beq_t e0) (beq_t e1) (beq_t e2) (beq_t e3) (beq_t e4) (beq_f e5)
  by_cases e6 : r.key3 = s.key3
  rotate_left
  · rw [same_f ht (fun h => e6 (congrArg GRec.key3 h))]
    exact ref12_Same_7 r s A1 A2 c1 c2 S w h1 h2 ⟨fun _ => ev, fun _ => rfl⟩ (beq_t e0) (beq_t e1) (beq_t e2) (beq_t e3) (beq_t e4) (beq_t e5) (beq_f e6)
  by_cases e7 : r.n = s.n
  rotate_left
  · rw [same_f ht (fun h => e7 (congrArg GRec.n h))]
    exact ref12_Same_8 r s A1 A2 c1 c2 S w h1 h2 ⟨fun _ => ev, fun _ => rfl⟩ (beq_t e0) (beq_t e1) (beq_t e2) (beq_t e3) (beq_t e4) (beq_t e5) (beq_t e6) (beq_f e7)
  by_cases e8 : r.m = s.m
  rotate_left
  · rw [same_f ht (fun h => e8 (congrArg GRec.m h))]
    exact ref12_Same_9 r s A1 A2 c1 c2 S w h1 h2 ⟨fun _ => ev, fun _ => rfl⟩ (beq_t e0) (beq_t e1) (beq_t e2) (beq_t e3) (beq_t e4) (beq_t e5) (beq_t e6) (beq_t e7) (beq_f e8)
  by_cases e9 : r.a = s.a
  rotate_left
  · rw [same_f ht (fun h => e9 (congrArg GRec.a h))]
    exact ref12_Same_10 r s A1 A2 c1 c2 S w h1 h2 ⟨fun _ => ev, fun _ => rfl⟩ (beq_t e0) (beq_t e1) (beq_t e2) (beq_t e3) (beq_t e4) (beq_t e5) (beq_t e6) (beq_t e7) (beq_t e8) (beqS_f e9)
  by_cases e10 : r.b = s.b
  rotate_left
  · rw [same_f ht (fun h => e10 (congrArg GRec.b h))]
    exact ref12_Same_11 r s A1 A2 c1 c2 S w h1 h2 ⟨fun _ => ev, fun _ => rfl⟩ (beq_t e0) (beq_t e1) (beq_t e2) (beq_t e3) (beq_t e4) (beq_t e5) (beq_t e6) (beq_t e7) (beq_t e8) (beqS_t e9) (beqS_f e10)
  by_cases e11 : r.c = s.c
  rotate_left
  · rw [same_f ht (fun h => e11 (congrArg GRec.c h))]
    exact ref12_Same_12 r s A1 A2 c1 c2 S w h1 h2 ⟨fun _ => ev, fun _ => rfl⟩ (beq_t e0) (beq_t e1) (beq_t e2) (beq_t e3) (beq_t e4) (beq_t e5) (beq_t e6) (beq_t e7) (beq_t e8) (beqS_t e9) (beqS_t e10) (beqS_f e11)
  have htt : t = true := ht.2 (by
    clear h1 h2 ht
    cases r; cases s
    simp only at *
    subst ev e0 e1 e2 e3 e4 e5 e6 e7 e8 e9 e10 e11
    rfl)
  rw [htt]
  exact ref12_Same_13 r s A1 A2 c1 c2 S w h1 h2 ⟨fun _ => ev, fun _ => rfl⟩ (beq_t e0) (beq_t e1) (beq_t e2) (beq_t e3) (beq_t e4) (beq_t e5) (beq_t e6) (beq_t e7) (beq_t e8) (beqS_t e9) (beqS_t e10) (beqS_t e11)
end Go.Proofs.Ytcfdbdmefdffdaa
