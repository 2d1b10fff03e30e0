/-
  The walk of slices.Clone of variables that came in.
-/
import Derived.Test.YthhgfdejadbigaaDoorGen
import Derived.Test.YthhgfdejadbigaaDoorIns
import Derived.Lib.SliceRun
set_option linter.unusedVariables false
set_option linter.unusedSimpArgs false
namespace Go.Proofs.YthhgfdejadbigaaDoor
open Go Go.RowKit Go.Proofs.Base

theorem cells_of_reads {w : World} {ad : Addr} {l : List GVar} (h : ReadsV w (some ad) l) : ∀ j u, (varCells l)[j]? = some u → w.cell? (ad.add j) = some u := by
  intro j u hj
  have hlt : j < (varCells l).length := (List.getElem?_eq_some_iff.1 hj).1
  rw [varCells_len] at hlt
  have hk : j / 4 < l.length := by omega
  obtain ⟨ad', e, _, c0, c1, c2, c3⟩ := h (j / 4) hk
  injection e with e
  subst e
  obtain ⟨e0, e1, e2, e3⟩ := varCells_at hk
  have hadd : ∀ i, 0 < i → ad.add (j / 4 * 4 + i) = ⟨(ad.add (j / 4 * 4)).block, (ad.add (j / 4 * 4)).off + i, none⟩ := fun i hi => by
    unfold Addr.add
    by_cases hm : j / 4 * 4 = 0
    · simp [hm, Nat.ne_of_gt hi]
    · simp [hm, Nat.add_assoc]
  have hj4 : j = j / 4 * 4 + j % 4 := by omega
  have h4 : j % 4 = 0 ∨ j % 4 = 1 ∨ j % 4 = 2 ∨ j % 4 = 3 := by omega
  generalize hq : j / 4 = q at *
  rcases h4 with h4 | h4 | h4 | h4
  · rw [h4] at hj4; subst hj4; rw [e0] at hj; rw [← Option.some.inj hj, Nat.add_zero]; exact c0
  · rw [h4] at hj4; subst hj4; rw [e1] at hj; rw [← Option.some.inj hj, hadd 1 (by omega)]; exact c1
  · rw [h4] at hj4; subst hj4; rw [e2] at hj; rw [← Option.some.inj hj, hadd 2 (by omega)]; exact c2
  · rw [h4] at hj4; subst hj4; rw [e3] at hj; rw [← Option.some.inj hj, hadd 3 (by omega)]; exact c3
theorem varCells_one (l : List GVar) : ∀ u ∈ varCells l, u.oneCell' = true := by
  intro u hu
  obtain ⟨x, _, hx⟩ := List.mem_flatMap.1 hu
  unfold GVar.cells at hx
  simp only [List.mem_cons, List.not_mem_nil, or_false] at hx
  rcases hx with rfl | rfl | rfl | rfl <;> rfl
def ClonedTo (l : List GVar) (w : World) (e : Ending) (w' : World) : Prop := ∃ v', e = .returned v' ∧ w'.ownsRow w.heap.size 60 4 v' l.length (varCells l) ∧ Below w.heap.size w w'
set_option maxRecDepth 100000 in
set_option maxHeartbeats 2000000 in
theorem put_clone (A : Option Addr) (n c : Nat) (l : List GVar) (w : World) (hl : l.length = n) (hnc : n ≤ c) (hn : n ≤ 1000) (hr : ReadsV w A l) :
    Calls Tryd.prog 45 #[.slice A n c] w (ClonedTo l w) := by
  obtain ⟨i0, z, hi0, hz0, hz1, hz2, hzc⟩ := eVar.hi
  have q : ∀ (w : World) (a : Option Addr) (n c n' c' : Nat), (binOp .eql 29 (.slice a n c) (.slice none n' c')).run Tryd.prog w = .ok (.bool a.isNone) w := fun w a n c n' c' => Lib.run_eql_slice_nil w _ _ a n c n' c' Tryd.underlying29
  cases A with
  | none =>
    obtain rfl : l = [] := by
      cases l with
      | nil => rfl
      | cons x r => obtain ⟨ad, e, _⟩ := hr 0 (by simp); cases e
    obtain rfl : n = 0 := by simpa using hl.symm
    go_enter Tryd.func45, Tryd.ntmps45
    go_wp2
    go_ret
    exact ⟨_, rfl, own_nil _ _ _ _, Below.refl _ _⟩
  | some ad =>
    have HC := Lib.hid (cells_of_reads hr)
    have HL := Lib.hid hl
    have H1 := Lib.hid (varCells_one l)
    have HVL : Hid ((varCells l).length = n * 4) := Lib.hid (by rw [varCells_len, hl])
    have HAD : Hid (l ≠ [] → ad.block < w.heap.size) := Lib.hid (fun h => by
      have hp : 0 < l.length := List.length_pos_iff.2 h
      obtain ⟨ad', e, hlt, _⟩ := hr 0 hp
      injection e with e; rw [e]; exact hlt)
    clear hl hr
    go_enter Tryd.func45, Tryd.ntmps45
    go_wp2_with (at_builtin; refine wpList_append_own _ rfl _ _ 29 rfl w.heap.size 60 i0 z 4 48 Tryd.underlying29 hi0 hz0 hz1 hz2 hzc (by omega) _ _ _ rfl (World.ownsRow_made w #[] 0 (Nat.le_refl _) (Nat.zero_le _) (by simp)) ad n c (varCells l) rfl HVL.out (fun j u hj => Lib.cell?_alloc_some _ (HC.out j u hj)) H1.out (by simp only [maxLen]; omega) (by omega) (by simp) ?_; intro v' w1 hown hgrow hnil)
    go_ret
    refine ⟨v', rfl, ?_, ?_⟩
    · rw [HL.out]; simpa using hown
    · exact ((Below.refl _ w).alloc (Nat.le_refl _) _).grown hgrow (by simp) (by intro k hk; injection hk with hk; exact Nat.le_of_eq hk)
end Go.Proofs.YthhgfdejadbigaaDoor
