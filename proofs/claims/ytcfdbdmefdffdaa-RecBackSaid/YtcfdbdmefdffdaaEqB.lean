/-
  What '==' of records without their variables gives. Printed by geneq2.py.
-/
import Derived.Test.YtcfdbdmefdffdaaEq
import Derived.Test.YtcfdbdmefdffdaaRecP
set_option linter.unusedVariables false
set_option linter.unusedSimpArgs false
namespace Go.Proofs.Ytcfdbdmefdffdaa
open Go Go.RowKit Go.Proofs.Base

theorem und_bare : Try.prog.underlying 46 = some (.struct (Try.prog.fieldsOf 46)) := by kernel_rfl
theorem held_bare : Try.prog.stoodInHeld 46 = false := by kernel_rfl
theorem guard_bare : Try.prog.eqGuardType Try.prog.depth 46 = false := by kernel_rfl
theorem cells_u : Try.prog.cellsOf 22 = 1 := by kernel_rfl
theorem ite_ok {p : Prop} [Decidable p] (b : Bool) (w : World) : (if p then (Result.ok b w : Result Bool) else .ok false w) = .ok (decide p && b) w := by split <;> simp [*]
def bareSame (x y : GRec) : Bool := decide (x.cls = y.cls) && (decide (x.kind = y.kind) && (decide (x.time = y.time) && (decide (x.n = y.n) && (decide (x.m = y.m) && (decide (x.frm = y.frm) && (decide (x.key = y.key) && (decide (x.key2 = y.key2) && (decide (x.key3 = y.key3) && (decide (x.a.toList = y.a.toList) && (decide (x.b.toList = y.b.toList) && (decide (x.c.toList = y.c.toList))))))))))))

set_option maxRecDepth 10000 in
set_option maxHeartbeats 1000000 in
theorem eq_bare (d : Nat) (w : World) (x y : GRec) : (Op.equalIn (d + 2) 46 (.agg #[.int .i64 x.cls, .int .i64 x.kind, .int .i64 x.time, .int .i64 x.n, .int .i64 x.m, .int .u64 x.frm, .int .u64 x.key, .int .u64 x.key2, .int .u64 x.key3, .string x.a, .string x.b, .string x.c]) (.agg #[.int .i64 y.cls, .int .i64 y.kind, .int .i64 y.time, .int .i64 y.n, .int .i64 y.m, .int .u64 y.frm, .int .u64 y.key, .int .u64 y.key2, .int .u64 y.key3, .string y.a, .string y.b, .string y.c])).run Try.prog w = .ok (bareSame x y) w := by
  rw [run_equalIn_agg w _ _ _ _ und_bare held_bare]
  simp only [Program.fieldsOf, Try.underlying46]
  simp [Op.eqFields, go_sem, Try.underlying3, Try.underlying2, Try.underlying22, Try.underlying9, cells_s, cells_i, cells_i64, cells_u]
  have e0 : (Result.ok false w : Result Bool) = Result.ok false w := rfl
  have ite_last : ∀ (p : Prop) [Decidable p], (if p then (Result.ok true w : Result Bool) else .ok false w) = .ok (decide p) w := fun p _ => by split <;> simp [*]
  simp only [ite_last, ite_ok]
  rfl
theorem eql_bare (x y : GRec) (b : Bool) (h : bareSame x y = b) (w : World) : (binOp .eql 46 (.agg #[.int .i64 x.cls, .int .i64 x.kind, .int .i64 x.time, .int .i64 x.n, .int .i64 x.m, .int .u64 x.frm, .int .u64 x.key, .int .u64 x.key2, .int .u64 x.key3, .string x.a, .string x.b, .string x.c]) (.agg #[.int .i64 y.cls, .int .i64 y.kind, .int .i64 y.time, .int .i64 y.n, .int .i64 y.m, .int .u64 y.frm, .int .u64 y.key, .int .u64 y.key2, .int .u64 y.key3, .string y.a, .string y.b, .string y.c])).run Try.prog w = .ok (.bool b) w := by
  rw [run_eql_struct, eq_bare 9998, h]
  rfl
theorem bareSame_iff {x y : GRec} : bareSame x y = true ↔ { x with vars := [] } = { y with vars := [] } := by
  unfold bareSame
  simp only [Bool.and_eq_true, decide_eq_true_eq, toList_toL]
  constructor
  · rintro ⟨h0, h1, h2, h3, h4, h5, h6, h7, h8, h9, h10, h11⟩
    have h9 := toL_inj h9
    have h10 := toL_inj h10
    have h11 := toL_inj h11
    cases x; cases y
    simp only at *
    subst h0 h1 h2 h3 h4 h5 h6 h7 h8 h9 h10 h11
    rfl
  · intro h
    cases x; cases y
    simp only [GRec.mk.injEq] at h
    obtain ⟨h0, h1, h2, h3, h4, h5, h6, h7, h8, h9, h10, h11, h12⟩ := h
    subst h0 h1 h2 h3 h4 h5 h6 h7 h8 h9 h10 h11
    exact ⟨rfl, rfl, rfl, rfl, rfl, rfl, rfl, rfl, rfl, rfl, rfl, rfl⟩
theorem rec_same {x y : GRec} : x = y ↔ bareSame x y = true ∧ x.vars = y.vars := by
  rw [bareSame_iff]
  constructor
  · rintro rfl; exact ⟨rfl, rfl⟩
  · rintro ⟨h, hv⟩
    cases x; cases y
    simp only [GRec.mk.injEq] at *
    obtain ⟨h0, h1, h2, h3, h4, h5, h6, h7, h8, h9, h10, h11, h12⟩ := h
    exact ⟨h0, h1, h2, h3, h4, h5, h6, h7, h8, h9, h10, h11, hv⟩
end Go.Proofs.Ytcfdbdmefdffdaa
