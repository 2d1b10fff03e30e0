/-
  What the bound of the second form gives: a slice's places, the State's.
-/
import Derived.Test.YtfjdllpacdobdaaGreatRows
import Derived.Test.YtfjdllpacdobdaaGreatQd182a0cbdca6
set_option linter.unusedVariables false
namespace Go.Proofs.YtfjdllpacdobdaaGreat
open Go Go.RowKit Go.Proofs.Base
namespace up
theorem one_le {H : Type} (d : DataW H) : 1 ≤ Rows.uptoBulk d := by
  cases d with
  | lit l => cases l <;> simp [Rows.uptoBulk]
  | nil => simp [Rows.uptoBulk]
  | ptr d => simp [Rows.uptoBulk]
  | slice elems spare => simp [Rows.uptoBulk]
  | agg parts => simp [Rows.uptoBulk]
  | iface t d => simp [Rows.uptoBulk]
  | map entries => simp [Rows.uptoBulk]
  | held h => simp [Rows.uptoBulk]
theorem length_le {H : Type} (l : List (DataW H)) : l.length ≤ Rows.uptoBulkAll l := by
  induction l with
  | nil => simp [Rows.uptoBulkAll]
  | cons x r ih => have := one_le x; simp only [Rows.uptoBulkAll, List.length_cons]; omega
section
variable {H : Type} {enc : TypeId × Value → H} {w : World} {base : Nat} {spare : Nat → Bool} {held : Bool}
theorem sl {n : Nat} {t e : TypeId} (hu : Tryz.prog.underlying t = some (.slice e)) {A : Option Addr} {len cap : Nat} {x : DataW H × List MemPlace} (h : DataW.trod enc Tryz.prog w base spare held n t [.slice A len cap] = some x) : len ≤ Rows.uptoBulk x.1 := by
  rcases Go.Deep.open_slice hu h with ⟨hcs, _⟩ | ⟨a, len', cap', m, n', D, Pl, hcs, _, hlc, hcm, hm, rfl, hi⟩
  · injection hcs with e1 _
    injection e1 with _ e2 _
    omega
  · injection hcs with e1 _
    injection e1 with _ e2 _
    subst e2
    have h1 := length_le ((List.range len).map D)
    rw [List.length_map, List.length_range] at h1
    simp only [Rows.uptoBulk]
    omega
set_option maxRecDepth 100000 in
set_option maxHeartbeats 1000000 in
theorem state {n : Nat} {v : StV} {x : DataW H × List MemPlace} (h : DataW.trod enc Tryz.prog w base spare held n 33 v.vals.toList = some x) : v.n7 + v.n6 + v.n11 ≤ Rows.uptoBulk x.1 := by
  obtain ⟨xs, m, _, rfl, hcl, hlen, hf⟩ := DataW.trod_struct Tryz.underlying33 h
  match xs, hlen with
  | [x0, x1, x2, x3, x4, x5, x6, x7, x8, x9, x10, x11], _ =>
    have g6 := sl Tryz.underlying26 (fld hf (i := 6) rfl rfl cellsO_sJob (c := [.slice v.A6 v.n6 v.c6]) rfl (x := x6) rfl)
    have g7 := sl Tryz.underlying27 (fld hf (i := 7) rfl rfl cellsO_sTim (c := [.slice v.A7 v.n7 v.c7]) rfl (x := x7) rfl)
    have g11 := sl Tryz.underlying31 (fld hf (i := 11) rfl rfl cellsO_sMsg (c := [.slice v.A11 v.n11 v.c11]) rfl (x := x11) rfl)
    simp only [List.map, Rows.uptoBulk, Rows.uptoBulkAll]
    omega
end
end up
end Go.Proofs.YtfjdllpacdobdaaGreat
