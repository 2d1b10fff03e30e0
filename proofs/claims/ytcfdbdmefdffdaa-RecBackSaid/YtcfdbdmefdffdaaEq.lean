/-
  What '==' of values, variables and bare records gives.
-/
import Derived.Test.YtcfdbdmefdffdaaWire
import Derived.Test.YtcfdbdmefdffdaaValP
import Derived.Laws.StructEq
set_option linter.unusedVariables false
set_option linter.unusedSimpArgs false
namespace Go.Proofs.Ytcfdbdmefdffdaa
open Go Go.RowKit Go.Proofs.Base

theorem und_var : Try.prog.underlying 52 = some (.struct (Try.prog.fieldsOf 52)) := by kernel_rfl
theorem held_var : Try.prog.stoodInHeld 52 = false := by kernel_rfl
theorem guard_var : Try.prog.eqGuardType Try.prog.depth 52 = false := by kernel_rfl
theorem und_value : Try.prog.underlying 50 = some (.struct (Try.prog.fieldsOf 50)) := by kernel_rfl
theorem held_value : Try.prog.stoodInHeld 50 = false := by kernel_rfl
theorem cells_v : Try.prog.cellsOf 50 = 3 := by kernel_rfl
theorem cells_s : Try.prog.cellsOf 9 = 1 := by kernel_rfl
theorem cells_i : Try.prog.cellsOf 3 = 1 := by kernel_rfl
theorem cells_i64 : Try.prog.cellsOf 2 = 1 := by kernel_rfl

set_option maxRecDepth 10000 in
theorem eq_value (d : Nat) (w : World) (x y : GVal) : (Op.equalIn (d + 2) 50 (.agg #[.int .i64 x.k, .int .i64 x.n, .string x.s]) (.agg #[.int .i64 y.k, .int .i64 y.n, .string y.s])).run Try.prog w = .ok (x.k == y.k && (x.n == y.n && x.s.toList == y.s.toList)) w := by
  rw [run_equalIn_agg w _ _ _ _ und_value held_value]
  simp only [Program.fieldsOf, Try.underlying50]
  simp [Op.eqFields, go_sem, Try.underlying3, Try.underlying2, Try.underlying9, cells_s, cells_i, cells_i64]
  by_cases h1 : x.k = y.k <;> by_cases h2 : x.n = y.n <;> by_cases h3 : x.s.toList = y.s.toList <;> simp [h1, h2, h3]

set_option maxRecDepth 10000 in
theorem eq_var (d : Nat) (w : World) (x y : GVar) : (Op.equalIn (d + 3) 52 (.agg #[.string x.name, .int .i64 x.v.k, .int .i64 x.v.n, .string x.v.s]) (.agg #[.string y.name, .int .i64 y.v.k, .int .i64 y.v.n, .string y.v.s])).run Try.prog w = .ok (x.name.toList == y.name.toList && (x.v.k == y.v.k && (x.v.n == y.v.n && x.v.s.toList == y.v.s.toList))) w := by
  rw [run_equalIn_agg w _ _ _ _ und_var held_var]
  have hv := eq_value d w x.v y.v
  simp only [Program.fieldsOf, Try.underlying52]
  simp [Op.eqFields, go_sem, Try.underlying9, cells_s, cells_v, hv]
  by_cases h1 : x.name.toList = y.name.toList <;> by_cases h2 : x.v.k = y.v.k <;> by_cases h3 : x.v.n = y.v.n <;> by_cases h4 : x.v.s.toList = y.v.s.toList <;> simp [h1, h2, h3, h4]
theorem var_same (x y : GVar) : (x.name.toList == y.name.toList && (x.v.k == y.v.k && (x.v.n == y.v.n && x.v.s.toList == y.v.s.toList))) = true ↔ x = y := by
  simp only [Bool.and_eq_true, beq_iff_eq, toList_toL]
  constructor
  · rintro ⟨h1, h2, h3, h4⟩
    exact GVar.ext (toL_inj h1) (GVal.ext h2 h3 (toL_inj h4))
  · rintro rfl
    exact ⟨rfl, rfl, rfl, rfl⟩
theorem neq_var_f (x : GVar) (w : World) : (binOp .neq 52 (.agg #[.string x.name, .int .i64 x.v.k, .int .i64 x.v.n, .string x.v.s]) (.agg #[.string x.name, .int .i64 x.v.k, .int .i64 x.v.n, .string x.v.s])).run Try.prog w = .ok (.bool false) w := by
  rw [run_neq_struct, eq_var 9997]
  simp [(var_same x x).2 rfl]
theorem neq_var_t {x y : GVar} (h : x ≠ y) (w : World) : (binOp .neq 52 (.agg #[.string x.name, .int .i64 x.v.k, .int .i64 x.v.n, .string x.v.s]) (.agg #[.string y.name, .int .i64 y.v.k, .int .i64 y.v.n, .string y.v.s])).run Try.prog w = .ok (.bool true) w := by
  rw [run_neq_struct, eq_var 9997]
  have : (x.name.toList == y.name.toList && (x.v.k == y.v.k && (x.v.n == y.v.n && x.v.s.toList == y.v.s.toList))) = false := by
    rw [Bool.eq_false_iff]
    exact fun hh => h ((var_same x y).1 hh)
  rw [this]
  rfl
end Go.Proofs.Ytcfdbdmefdffdaa
