/-
  Merged from FpLst, FoMsg, FiMsg, FpMsg, Fe_deployed, Fe_entered, Fe_job, Fe_timer, Fe_sub, Fe_kept, Fe_listed, Fe_began, Fe_published.
-/
import Derived.Test.YtfjdllpacdobdaaGreatQ95306dab299a
import Derived.Test.YtfjdllpacdobdaaGreatQ454fd6378163
import Derived.Test.YtfjdllpacdobdaaGreatQ5e0e1d795d88
import Derived.Deep.LoopGhost
import Derived.Deep.RegionLaw
/-
  fold.put of Listed. Printed by gfold.py.
-/
set_option linter.unusedVariables false
set_option linter.unusedSimpArgs false
namespace Go.Proofs.YtfjdllpacdobdaaGreat
open Go Go.RowKit Go.Proofs.Base
open Go.Sort (grow)
end Go.Proofs.YtfjdllpacdobdaaGreat
/-
  Lists of Message: searched, copied. Printed by gfold.py.
-/
set_option linter.unusedVariables false
set_option linter.unusedSimpArgs false
namespace Go.Proofs.YtfjdllpacdobdaaGreat
open Go Go.RowKit Go.Proofs.Base
open Go.Sort (grow)
set_option maxRecDepth 100000 in
set_option maxHeartbeats 2000000 in
theorem clone_Msg (A : Option Addr) (n c : Nat) (l : List EMsg) (w : World) (S : Nat → Prop) (hl : l.length = n) (hby : n * 112 ≤ 140737488355328) (hr : Row w S 7 n (.slice A n c) (l.flatMap encMsg)) :
    Calls Tryz.prog 39 #[.slice A n c] w fun e w' => ∃ A' c', e = .returned (.slice A' n c') ∧ w'.ownsRow w.heap.size 87 7 (.slice A' n c') n (l.flatMap encMsg) ∧ Below w.heap.size w w' := by
  obtain ⟨i0, z, hi0, hz0, hz1, hz2, hzc⟩ := eMsg.hi
  have q : ∀ (w : World) (a : Option Addr) (n c n' c' : Nat), (binOp .eql 31 (.slice a n c) (.slice none n' c')).run Tryz.prog w = .ok (.bool a.isNone) w := fun w a n c n' c' => Lib.run_eql_slice_nil w _ _ a n c n' c' Tryz.underlying31
  obtain ⟨A', c', he, hnc, hcm, hlen, hnone, hsome⟩ := hr
  injection he with e1 _ e3
  subst e1 e3
  cases A with
  | none =>
    obtain ⟨rfl, rfl⟩ := hnone rfl
    obtain rfl : l = [] := List.eq_nil_of_length_eq_zero hl
    clear hsome hlen
    go_enter Tryz.func39, Tryz.ntmps39
    go_wp2
    go_ret
    exact ⟨none, 0, rfl, own_nil _ _ _ _, Below.refl _ _⟩
  | some ad =>
    have HC : Hid (∀ j u, (l.flatMap encMsg)[j]? = some u → w.cell? (ad.add j) = some u) := Lib.hid (fun j u hu => by
      rcases Nat.eq_zero_or_pos n with h0 | h0
      · subst h0
        obtain rfl : l = [] := List.eq_nil_of_length_eq_zero hl
        simp at hu
      · obtain ⟨b, o, hA, _, _, hc⟩ := hsome h0
        injection hA with hA
        subst hA
        rw [add_plain]
        exact hc j u hu)
    have HVL := Lib.hid hlen
    have H1 := Lib.hid (flat_one (enc := encMsg) oneMsg l)
    clear hsome hlen hnone hl
    go_enter Tryz.func39, Tryz.ntmps39
    go_wp2_with (at_builtin; refine wpList_append_own _ rfl _ _ 31 rfl w.heap.size 87 i0 z 7 112 Tryz.underlying31 hi0 hz0 hz1 hz2 hzc (by omega) _ _ _ rfl (World.ownsRow_made w #[] 0 (Nat.le_refl _) (Nat.zero_le _) (by simp)) ad n c (l.flatMap encMsg) rfl HVL.out (fun j u hj => Lib.cell?_alloc_some _ (HC.out j u hj)) H1.out (by simp only [maxLen]; omega) (by omega) (by simp) ?_; intro v' w1 hown hgrow hnil)
    go_ret
    have hown' : w1.ownsRow w.heap.size 87 7 v' n (l.flatMap encMsg) := by simpa using hown
    obtain ⟨A2, c2, rfl, _, _⟩ := (Row.of_own hown').open_
    exact ⟨A2, c2, rfl, hown', ((Below.refl _ w).alloc (Nat.le_refl _) _).grown hgrow (by simp) (by intro k hk; injection hk with hk; exact Nat.le_of_eq hk)⟩
end Go.Proofs.YtfjdllpacdobdaaGreat
/-
  slices.Insert of one Message. Printed by gfold.py out of XIns.
-/
set_option linter.unusedVariables false
set_option linter.unusedSimpArgs false
namespace Go.Proofs.YtfjdllpacdobdaaGreat
open Go Go.RowKit Go.Proofs.Base
end Go.Proofs.YtfjdllpacdobdaaGreat
/-
  fold.put of Message. Printed by gfold.py.
-/
set_option linter.unusedVariables false
set_option linter.unusedSimpArgs false
namespace Go.Proofs.YtfjdllpacdobdaaGreat
open Go Go.RowKit Go.Proofs.Base
open Go.Sort (grow)
end Go.Proofs.YtfjdllpacdobdaaGreat
/-
  fold.deployed. Printed by gfold2.py.
-/
set_option linter.unusedVariables false
set_option linter.unusedSimpArgs false
namespace Go.Proofs.YtfjdllpacdobdaaGreat
open Go Go.RowKit Go.Proofs.Base
open Go.Sort (grow)
end Go.Proofs.YtfjdllpacdobdaaGreat
/-
  fold.entered. Printed by gfold2.py.
-/
set_option linter.unusedVariables false
set_option linter.unusedSimpArgs false
namespace Go.Proofs.YtfjdllpacdobdaaGreat
open Go Go.RowKit Go.Proofs.Base
open Go.Sort (grow)
end Go.Proofs.YtfjdllpacdobdaaGreat
/-
  fold.job. Printed by gfold2.py.
-/
set_option linter.unusedVariables false
set_option linter.unusedSimpArgs false
namespace Go.Proofs.YtfjdllpacdobdaaGreat
open Go Go.RowKit Go.Proofs.Base
open Go.Sort (grow)
end Go.Proofs.YtfjdllpacdobdaaGreat
/-
  fold.timer. Printed by gfold2.py.
-/
set_option linter.unusedVariables false
set_option linter.unusedSimpArgs false
namespace Go.Proofs.YtfjdllpacdobdaaGreat
open Go Go.RowKit Go.Proofs.Base
open Go.Sort (grow)
end Go.Proofs.YtfjdllpacdobdaaGreat
/-
  fold.sub. Printed by gfold2.py.
-/
set_option linter.unusedVariables false
set_option linter.unusedSimpArgs false
namespace Go.Proofs.YtfjdllpacdobdaaGreat
open Go Go.RowKit Go.Proofs.Base
open Go.Sort (grow)
end Go.Proofs.YtfjdllpacdobdaaGreat
/-
  fold.kept. Printed by gfold2.py.
-/
set_option linter.unusedVariables false
set_option linter.unusedSimpArgs false
namespace Go.Proofs.YtfjdllpacdobdaaGreat
open Go Go.RowKit Go.Proofs.Base
open Go.Sort (grow)
end Go.Proofs.YtfjdllpacdobdaaGreat
/-
  fold.listed. Printed by gfold2.py.
-/
set_option linter.unusedVariables false
set_option linter.unusedSimpArgs false
namespace Go.Proofs.YtfjdllpacdobdaaGreat
open Go Go.RowKit Go.Proofs.Base
open Go.Sort (grow)
end Go.Proofs.YtfjdllpacdobdaaGreat
/-
  fold.began. Printed by gfold2.py.
-/
set_option linter.unusedVariables false
set_option linter.unusedSimpArgs false
namespace Go.Proofs.YtfjdllpacdobdaaGreat
open Go Go.RowKit Go.Proofs.Base
open Go.Sort (grow)
end Go.Proofs.YtfjdllpacdobdaaGreat
/-
  fold.published. Printed by gfold2.py.
-/
set_option linter.unusedVariables false
set_option linter.unusedSimpArgs false
namespace Go.Proofs.YtfjdllpacdobdaaGreat
open Go Go.RowKit Go.Proofs.Base
open Go.Sort (grow)
end Go.Proofs.YtfjdllpacdobdaaGreat
