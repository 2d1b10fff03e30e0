/-
  Merged from FpLst, FoMsg, FiMsg, FpMsg, Fe_deployed, Fe_entered, Fe_job, Fe_timer, Fe_sub, Fe_kept, Fe_listed, Fe_began, Fe_published.
-/
import Derived.Test.YtgpkmellpllmgaaGreatQ39ed21976fe9
import Derived.Test.YtgpkmellpllmgaaGreatQ5ebf1c882415
import Derived.Test.YtgpkmellpllmgaaGreatQ7b67ab243e98
import Derived.Deep.LoopGhost
import Derived.Deep.RegionLaw
/-
  fold.put of Listed. Printed by gfold.py.
-/
set_option linter.unusedVariables false
set_option linter.unusedSimpArgs false
namespace Go.Proofs.YtgpkmellpllmgaaGreat
open Go Go.RowKit Go.Proofs.Base
open Go.Sort (grow)
set_option maxRecDepth 100000 in
theorem ord_Lst (y x : ELst) (w : World) : Calls Tryz.prog 114 #[.agg #[.int .u64 y.token, .int .u64 y.inst, .int .i64 y.node, .string y.name, .string y.key, .int .u64 y.message, .slice y.vA y.vN y.vC], .agg #[.int .u64 x.token, .int .u64 x.inst, .int .i64 x.node, .string x.name, .string x.key, .int .u64 x.message, .slice x.vA x.vN x.vC]] w fun e w' => e = .returned (.int .i64 (cmpLst y x)) ∧ Below w.heap.size w w' := by
  have hB : Below w.heap.size w ((w.alloc (.cells #[.int .u64 y.token, .int .u64 y.inst, .int .i64 y.node, .string y.name, .string y.key, .int .u64 y.message, .slice y.vA y.vN y.vC] 68)).alloc (.cells #[.int .u64 x.token, .int .u64 x.inst, .int .i64 x.node, .string x.name, .string x.key, .int .u64 x.message, .slice x.vA x.vN x.vC] 68)) := below_alloc (below_alloc (Below.refl _ _) _) _
  have HB := Lib.hid hB
  clear hB
  go_enter Tryz.func114, Tryz.ntmps114
  go_wp2_with (go_at_call 100; refine (ahead_c _ _ _ _ _).mono ?_; rintro e w' ⟨rfl, hb⟩)
  go_ret
  exact ⟨rfl, below2 HB.out hb⟩
set_option maxRecDepth 100000 in
theorem put1_Lst (B1 B2 : Nat) (y x : ELst) (w : World) (h1 : w.cell? ⟨B1, 0, none⟩ = some (.func (.func 114) #[] #[])) (h2 : w.heap[B2]? = some (.cells #[.int .u64 x.token, .int .u64 x.inst, .int .i64 x.node, .string x.name, .string x.key, .int .u64 x.message, .slice x.vA x.vN x.vC] 68 (0, 0))) :
    Calls Tryz.prog 174 (#[.agg #[.int .u64 y.token, .int .u64 y.inst, .int .i64 y.node, .string y.name, .string y.key, .int .u64 y.message, .slice y.vA y.vN y.vC]] ++ #[.pointer (some ⟨B1, 0, none⟩), .pointer (some ⟨B2, 0, none⟩)]) w fun e w' => e = .returned (.bool (decide (cmpLst y x = 0))) ∧ Below w.heap.size w w' := by
  have hB : Below w.heap.size w (w.alloc (.cells #[.int .u64 y.token, .int .u64 y.inst, .int .i64 y.node, .string y.name, .string y.key, .int .u64 y.message, .slice y.vA y.vN y.vC] 68)) := below_alloc (Below.refl _ _) _
  have hc := (hB.cell (p := ⟨B1, 0, none⟩) (World.block_lt_of_cell? w _ h1)).trans h1
  have hk := block_below hB h2
  have k0 := cell_of_blk hk 0
  have k1 := cell_of_blk hk 1
  have k2 := cell_of_blk hk 2
  have k3 := cell_of_blk hk 3
  have k4 := cell_of_blk hk 4
  have k5 := cell_of_blk hk 5
  have k6 := cell_of_blk hk 6
  have HB := Lib.hid hB
  obtain ⟨cc, hcc⟩ : ∃ cc, cc = cmpLst y x := ⟨_, rfl⟩
  have ho := fun w => ord_Lst y x w
  simp only [← hcc] at ho
  have HO := Lib.hid ho
  rw [← hcc]
  clear hB h1 h2 hk hcc ho
  go_enter Tryz.func174, Tryz.ntmps174
  go_wp2_with (go_at_call 114; refine (HO.out _).mono ?_; rintro e w' ⟨rfl, hb⟩)
  go_ret
  exact ⟨by first | rfl | (refine congrArg (fun b => Ending.returned (Value.bool b)) ?_; rw [Bool.eq_iff_iff]; simp), below2 HB.out hb⟩
set_option maxRecDepth 100000 in
theorem put2_Lst (B1 B2 : Nat) (y x : ELst) (w : World) (h1 : w.cell? ⟨B1, 0, none⟩ = some (.func (.func 114) #[] #[])) (h2 : w.heap[B2]? = some (.cells #[.int .u64 x.token, .int .u64 x.inst, .int .i64 x.node, .string x.name, .string x.key, .int .u64 x.message, .slice x.vA x.vN x.vC] 68 (0, 0))) :
    Calls Tryz.prog 175 (#[.agg #[.int .u64 y.token, .int .u64 y.inst, .int .i64 y.node, .string y.name, .string y.key, .int .u64 y.message, .slice y.vA y.vN y.vC]] ++ #[.pointer (some ⟨B1, 0, none⟩), .pointer (some ⟨B2, 0, none⟩)]) w fun e w' => e = .returned (.bool (decide (0 < cmpLst y x))) ∧ Below w.heap.size w w' := by
  have hB : Below w.heap.size w (w.alloc (.cells #[.int .u64 y.token, .int .u64 y.inst, .int .i64 y.node, .string y.name, .string y.key, .int .u64 y.message, .slice y.vA y.vN y.vC] 68)) := below_alloc (Below.refl _ _) _
  have hc := (hB.cell (p := ⟨B1, 0, none⟩) (World.block_lt_of_cell? w _ h1)).trans h1
  have hk := block_below hB h2
  have k0 := cell_of_blk hk 0
  have k1 := cell_of_blk hk 1
  have k2 := cell_of_blk hk 2
  have k3 := cell_of_blk hk 3
  have k4 := cell_of_blk hk 4
  have k5 := cell_of_blk hk 5
  have k6 := cell_of_blk hk 6
  have HB := Lib.hid hB
  obtain ⟨cc, hcc⟩ : ∃ cc, cc = cmpLst y x := ⟨_, rfl⟩
  have ho := fun w => ord_Lst y x w
  simp only [← hcc] at ho
  have HO := Lib.hid ho
  rw [← hcc]
  clear hB h1 h2 hk hcc ho
  go_enter Tryz.func175, Tryz.ntmps175
  go_wp2_with (go_at_call 114; refine (HO.out _).mono ?_; rintro e w' ⟨rfl, hb⟩)
  go_ret
  exact ⟨by first | rfl | (refine congrArg (fun b => Ending.returned (Value.bool b)) ?_; rw [Bool.eq_iff_iff]; simp), below2 HB.out hb⟩
set_option maxRecDepth 100000 in
set_option maxHeartbeats 4000000 in
theorem put_Lst (A : Option Addr) (n c : Nat) (x : ELst) (l : List ELst) (w : World) (S : Nat → Prop) (hl : l.length = n) (hby : (n + 1) * 88 ≤ 140737488355328) (hr : Row w S 7 n (.slice A n c) (l.flatMap encLst)) :
    Calls Tryz.prog 113 #[.slice A n c, .agg #[.int .u64 x.token, .int .u64 x.inst, .int .i64 x.node, .string x.name, .string x.key, .int .u64 x.message, .slice x.vA x.vN x.vC], .func (.func 114) #[] #[]] w fun e w' => ∃ A' c', e = .returned (.slice A' (putL cmpLst x l).length c') ∧ w'.ownsRow w.heap.size 68 7 (.slice A' (putL cmpLst x l).length c') (putL cmpLst x l).length ((putL cmpLst x l).flatMap encLst) ∧ Below w.heap.size w w' := by
  obtain ⟨N, hN⟩ : ∃ N, N = (w.alloc (.cells #[.int .u64 x.token, .int .u64 x.inst, .int .i64 x.node, .string x.name, .string x.key, .int .u64 x.message, .slice x.vA x.vN x.vC] 68)).alloc (.cells #[.func (.func 114) #[] #[]] 147) := ⟨_, rfl⟩
  have b0 : N.heap[w.heap.size]? = some (.cells #[.int .u64 x.token, .int .u64 x.inst, .int .i64 x.node, .string x.name, .string x.key, .int .u64 x.message, .slice x.vA x.vN x.vC] 68 (0, 0)) := by rw [hN]; exact blk_alloc (blk_new _) _
  have b1 : N.heap[w.heap.size + 1]? = some (.cells #[.func (.func 114) #[] #[]] 147 (0, 0)) := by rw [hN]; exact blk_new_of _ (by simp)
  have hB : Below w.heap.size w N := by rw [hN]; exact below_alloc (below_alloc (Below.refl _ _) _) _
  have hsz : N.heap.size = w.heap.size + 2 := by rw [hN]; simp
  have HN := Lib.hid hN
  have HB := Lib.hid hB
  have HSZ := Lib.hid hsz
  have HP1 : Hid (∀ W, Below N.heap.size N W → ∀ y ∈ l, Calls Tryz.prog 174 (#[.agg #[.int .u64 y.token, .int .u64 y.inst, .int .i64 y.node, .string y.name, .string y.key, .int .u64 y.message, .slice y.vA y.vN y.vC]] ++ #[.pointer (some ⟨w.heap.size + 1, 0, none⟩), .pointer (some ⟨w.heap.size, 0, none⟩)]) W fun e w' => e = .returned (.bool (decide (cmpLst y x = 0))) ∧ Below W.heap.size W w') :=
    Lib.hid (fun W hW y _ => put1_Lst _ _ y x W (cell_of_blk (block_below hW b1) 0) (block_below hW b0))
  have HP2 : Hid (∀ W, Below N.heap.size N W → ∀ y ∈ l, Calls Tryz.prog 175 (#[.agg #[.int .u64 y.token, .int .u64 y.inst, .int .i64 y.node, .string y.name, .string y.key, .int .u64 y.message, .slice y.vA y.vN y.vC]] ++ #[.pointer (some ⟨w.heap.size + 1, 0, none⟩), .pointer (some ⟨w.heap.size, 0, none⟩)]) W fun e w' => e = .returned (.bool (decide (0 < cmpLst y x))) ∧ Below W.heap.size W w') :=
    Lib.hid (fun W hW y _ => put2_Lst _ _ y x W (cell_of_blk (block_below hW b1) 0) (block_below hW b0))
  have HCL := Lib.hid (clone_Lst A n c l N S hl (by omega) (hr.below (hB)))
  have e1 : ∀ args w, (callFunc 174 args).run Tryz.prog w = .ok (.enter 174 args) w := enters_of Tryz.func174 (by kernel_rfl) rfl
  have e2 : ∀ args w, (callFunc 175 args).run Tryz.prog w = .ok (.enter 175 args) w := enters_of Tryz.func175 (by kernel_rfl) rfl
  have E1 := Lib.hid e1
  have E2 := Lib.hid e2
  have HK := Lib.hid b0
  have HL := Lib.hid hl
  have HBY := Lib.hid hby
  obtain ⟨A0, c0, he0, hnc0, hcm0⟩ := hr.open_
  injection he0 with q1 _ q3
  subst q1 q3
  clear hN b0 b1 hB hr hsz e1 e2
  have HPL : Hid (putL cmpLst x l = if 0 ≤ idxP (fun y => decide (cmpLst y x = 0)) l then l.set (idxP (fun y => decide (cmpLst y x = 0)) l).toNat x else l.take (spotL cmpLst x l) ++ x :: l.drop (spotL cmpLst x l)) := Lib.hid rfl
  generalize putL cmpLst x l = L at *
  have hi1 := idxP_spec (fun y => decide (cmpLst y x = 0)) l
  have hi2 := idxP_spec (fun y => decide (0 < cmpLst y x)) l
  have HSP : Hid (spotL cmpLst x l = if idxP (fun y => decide (0 < cmpLst y x)) l < 0 then l.length else (idxP (fun y => decide (0 < cmpLst y x)) l).toNat) := Lib.hid rfl
  rcases hi1 with ⟨h1, _⟩ | ⟨j, hj, h1, -, -⟩
  · -- a new one
    obtain ⟨sp, hsp⟩ : ∃ sp, sp = spotL cmpLst x l := ⟨_, rfl⟩
    have hLe : Hid (L = l.take sp ++ x :: l.drop sp) := Lib.hid (by rw [HPL.out, h1, if_neg (by decide), hsp])
    have hspn : sp ≤ n := by rw [hsp, ← hl]; exact spotL_le _ _ _
    have HLe := hLe
    have hLL : L.length = n + 1 := by
      rw [hLe.out, List.length_append, List.length_cons, List.length_take, List.length_drop, hl]; omega
    have HINS : Hid (∀ (w5 : World) A5 c5, w5.ownsRow N.heap.size 68 7 (.slice A5 n c5) n (l.flatMap encLst) → Below N.heap.size N w5 → Calls Tryz.prog 176 #[.slice A5 n c5, .int .i64 sp, .slice (some ⟨w5.heap.size, 0, none⟩) 1 1] (w5.alloc (.cells #[.int .u64 x.token, .int .u64 x.inst, .int .i64 x.node, .string x.name, .string x.key, .int .u64 x.message, .slice x.vA x.vN x.vC] 68)) fun e w' => ∃ A' c', e = .returned (.slice A' (n + 1) c') ∧ w'.ownsRow w.heap.size 68 7 (.slice A' (n + 1) c') (n + 1) (L.flatMap encLst) ∧ Below w.heap.size w w') := Lib.hid (fun w5 A5 c5 hown hb5 => by
      have hb5s := hb5.size
      have hNs := HSZ.out
      refine (ins_one_Lst w.heap.size _ n sp w5.heap.size (l.flatMap encLst) (encLst x) w (w5.alloc (.cells #[.int .u64 x.token, .int .u64 x.inst, .int .i64 x.node, .string x.name, .string x.key, .int .u64 x.message, .slice x.vA x.vN x.vC] 68)) hspn ((own_base hown (by omega)).alloc _) (blk_new _) (fun g hg => by have := (hown.lt g hg).2; omega) rfl (oneLst x) (flat_one oneLst l) (below_alloc (below2 HB.out hb5) _) (by simp; omega) HBY.out).mono ?_
      rintro e w6 ⟨v6, rfl, hown6, hb6⟩
      rw [flat_ins (enc := encLst) lenLst, ← HLe.out] at hown6
      obtain ⟨A6, c6, rfl, _, _⟩ := (Row.of_own hown6).open_
      exact ⟨A6, c6, rfl, hown6, hb6⟩)
    rw [hLL]
    clear HPL hLe
    rcases hi2 with ⟨h2, _⟩ | ⟨j, hj, h2, -, -⟩
    · have hspv : sp = n := by rw [hsp, HSP.out, h2, if_pos (by decide), hl]
      subst hspv
      clear hsp HSP hLL
      go_enter Tryz.func113, Tryz.ntmps113
      go_wp2_with fail
      rw [show (w.alloc (.cells #[.int .u64 x.token, .int .u64 x.inst, .int .i64 x.node, .string x.name, .string x.key, .int .u64 x.message, .slice x.vA x.vN x.vC] 68)).alloc (.cells #[.func (.func 114) #[] #[]] 147) = N from HN.out.symm]
      go_wp2_with (go_at_call 30; refine HCL.out.mono ?_; rintro e w1 ⟨A1, c1, rfl, hown, hb⟩; have HO1 := Lib.hid hown; have HB1 := Lib.hid hb; obtain ⟨_, _, _, hnc1, hcm1⟩ := (Row.of_own hown).open_; clear hown hb)
      refine (idx_Lst _ _ _ 174 _ l _ N _ _ E1.out HL.out (Row.of_own HO1.out) HB1.out HP1.out).mono ?_
      rintro e w2 ⟨rfl, hb⟩
      rw [h1]
      have HB2 := Lib.hid (below2 HB1.out hb)
      have HO2 := Lib.hid (own_mut HO1.out (Mut.of_below hb (fun _ => False)) (fun _ _ h => h))
      clear hb
      go_wp2_with fail
      refine (idx_Lst _ _ _ 175 _ l _ N _ _ E2.out HL.out (Row.of_own HO2.out) HB2.out HP2.out).mono ?_
      rintro e w3 ⟨rfl, hb⟩
      rw [h2]
      have HB3 := Lib.hid (below2 HB2.out hb)
      have HO3 := Lib.hid (own_mut HO2.out (Mut.of_below hb (fun _ => False)) (fun _ _ h => h))
      have hk3 := block_below HB3.out HK.out
      have k0 := cell_of_blk hk3 0; have k1 := cell_of_blk hk3 1; have k2 := cell_of_blk hk3 2; have k3 := cell_of_blk hk3 3; have k4 := cell_of_blk hk3 4; have k5 := cell_of_blk hk3 5; have k6 := cell_of_blk hk3 6
      clear hb hk3
      go_wp2_with (go_at_call 176; refine (HINS.out _ _ _ HO3.out HB3.out).mono ?_; rintro e w4 ⟨A4, c4, rfl, hown, hb⟩; have HO4 := Lib.hid hown; have HB4 := Lib.hid hb; clear hown hb)
      go_ret
      exact ⟨A4, c4, rfl, HO4.out, HB4.out⟩
    · have hspv : sp = j := by rw [hsp, HSP.out, h2, if_neg (by omega)]; simp
      subst hspv
      have hj0 : ¬ ((sp : Int) < 0) := by omega
      clear hsp HSP hLL
      go_enter Tryz.func113, Tryz.ntmps113
      go_wp2_with fail
      rw [show (w.alloc (.cells #[.int .u64 x.token, .int .u64 x.inst, .int .i64 x.node, .string x.name, .string x.key, .int .u64 x.message, .slice x.vA x.vN x.vC] 68)).alloc (.cells #[.func (.func 114) #[] #[]] 147) = N from HN.out.symm]
      go_wp2_with (go_at_call 30; refine HCL.out.mono ?_; rintro e w1 ⟨A1, c1, rfl, hown, hb⟩; have HO1 := Lib.hid hown; have HB1 := Lib.hid hb; obtain ⟨_, _, _, hnc1, hcm1⟩ := (Row.of_own hown).open_; clear hown hb)
      refine (idx_Lst _ _ _ 174 _ l _ N _ _ E1.out HL.out (Row.of_own HO1.out) HB1.out HP1.out).mono ?_
      rintro e w2 ⟨rfl, hb⟩
      rw [h1]
      have HB2 := Lib.hid (below2 HB1.out hb)
      have HO2 := Lib.hid (own_mut HO1.out (Mut.of_below hb (fun _ => False)) (fun _ _ h => h))
      clear hb
      go_wp2_with fail
      refine (idx_Lst _ _ _ 175 _ l _ N _ _ E2.out HL.out (Row.of_own HO2.out) HB2.out HP2.out).mono ?_
      rintro e w3 ⟨rfl, hb⟩
      rw [h2]
      have HB3 := Lib.hid (below2 HB2.out hb)
      have HO3 := Lib.hid (own_mut HO2.out (Mut.of_below hb (fun _ => False)) (fun _ _ h => h))
      have hk3 := block_below HB3.out HK.out
      have k0 := cell_of_blk hk3 0; have k1 := cell_of_blk hk3 1; have k2 := cell_of_blk hk3 2; have k3 := cell_of_blk hk3 3; have k4 := cell_of_blk hk3 4; have k5 := cell_of_blk hk3 5; have k6 := cell_of_blk hk3 6
      clear hb hk3
      go_wp2_with (go_at_call 176; refine (HINS.out _ _ _ HO3.out HB3.out).mono ?_; rintro e w4 ⟨A4, c4, rfl, hown, hb⟩; have HO4 := Lib.hid hown; have HB4 := Lib.hid hb; clear hown hb)
      go_ret
      exact ⟨A4, c4, rfl, HO4.out, HB4.out⟩
  · -- one that is there
    have hLe : Hid (L = l.set j x) := Lib.hid (by rw [HPL.out, h1, if_pos (by omega)]; simp)
    have hLL : L.length = n := by rw [hLe.out, List.length_set, hl]
    have hjn : j < n := by omega
    have hj0 : (0 : Int) ≤ (j : Int) := by omega
    have HFS := Lib.hid (flat_splice (enc := encLst) lenLst hj x)
    have HVL : Hid ((l.flatMap encLst).length = n * 7) := Lib.hid (by rw [flat_len (enc := encLst) lenLst, hl])
    rw [hLL]
    clear HPL hi2 HSP hj HP2
    go_enter Tryz.func113, Tryz.ntmps113
    go_wp2_with fail
    rw [show (w.alloc (.cells #[.int .u64 x.token, .int .u64 x.inst, .int .i64 x.node, .string x.name, .string x.key, .int .u64 x.message, .slice x.vA x.vN x.vC] 68)).alloc (.cells #[.func (.func 114) #[] #[]] 147) = N from HN.out.symm]
    go_wp2_with (go_at_call 30; refine HCL.out.mono ?_; rintro e w1 ⟨A1, c1, rfl, hown, hb⟩; have HO1 := Lib.hid hown; have HB1 := Lib.hid hb; obtain ⟨_, _, _, hnc1, hcm1⟩ := (Row.of_own hown).open_; clear hown hb)
    refine (idx_Lst _ _ _ 174 _ l _ N _ _ E1.out HL.out (Row.of_own HO1.out) HB1.out HP1.out).mono ?_
    rintro e w2 ⟨rfl, hb⟩
    rw [h1]
    have HB2 := Lib.hid (below2 HB1.out hb)
    have HO2 := Lib.hid (own_mut HO1.out (Mut.of_below hb (fun _ => False)) (fun _ _ h => h))
    have hk3 := block_below HB2.out HK.out
    have k0 := cell_of_blk hk3 0; have k1 := cell_of_blk hk3 1; have k2 := cell_of_blk hk3 2; have k3 := cell_of_blk hk3 3; have k4 := cell_of_blk hk3 4; have k5 := cell_of_blk hk3 5; have k6 := cell_of_blk hk3 6
    clear hb hk3
    obtain ⟨g, cap, cur, hv, hbg, hhg, hnc5, hcm5, hcs5, htk5⟩ := own_some HO2.out (by omega)
    injection hv with hv1 hv2 hv3
    subst hv1 hv3
    obtain ⟨u0, hu0⟩ : ∃ u, cur[j * 7]? = some u := ⟨_, Array.getElem?_eq_getElem (by omega)⟩; have j0 := (cell_of_blk hhg (j * 7)).trans hu0; have f0 := frozen_of_blk hhg (j * 7); clear hu0; obtain ⟨u1, hu1⟩ : ∃ u, cur[j * 7 + 1]? = some u := ⟨_, Array.getElem?_eq_getElem (by omega)⟩; have j1 := (cell_of_blk hhg (j * 7 + 1)).trans hu1; have f1 := frozen_of_blk hhg (j * 7 + 1); clear hu1; obtain ⟨u2, hu2⟩ : ∃ u, cur[j * 7 + 2]? = some u := ⟨_, Array.getElem?_eq_getElem (by omega)⟩; have j2 := (cell_of_blk hhg (j * 7 + 2)).trans hu2; have f2 := frozen_of_blk hhg (j * 7 + 2); clear hu2; obtain ⟨u3, hu3⟩ : ∃ u, cur[j * 7 + 3]? = some u := ⟨_, Array.getElem?_eq_getElem (by omega)⟩; have j3 := (cell_of_blk hhg (j * 7 + 3)).trans hu3; have f3 := frozen_of_blk hhg (j * 7 + 3); clear hu3; obtain ⟨u4, hu4⟩ : ∃ u, cur[j * 7 + 4]? = some u := ⟨_, Array.getElem?_eq_getElem (by omega)⟩; have j4 := (cell_of_blk hhg (j * 7 + 4)).trans hu4; have f4 := frozen_of_blk hhg (j * 7 + 4); clear hu4; obtain ⟨u5, hu5⟩ : ∃ u, cur[j * 7 + 5]? = some u := ⟨_, Array.getElem?_eq_getElem (by omega)⟩; have j5 := (cell_of_blk hhg (j * 7 + 5)).trans hu5; have f5 := frozen_of_blk hhg (j * 7 + 5); clear hu5; obtain ⟨u6, hu6⟩ : ∃ u, cur[j * 7 + 6]? = some u := ⟨_, Array.getElem?_eq_getElem (by omega)⟩; have j6 := (cell_of_blk hhg (j * 7 + 6)).trans hu6; have f6 := frozen_of_blk hhg (j * 7 + 6); clear hu6
    have HG := Lib.hid hhg
    have HTK := Lib.hid htk5
    have HCS := Lib.hid hcs5
    have HBG := Lib.hid hbg
    have HCM := Lib.hid hcm5
    clear hhg htk5 hcs5 hbg hcm5
    go_wp2_with fail
    go_ret
    have hg2 := set_blk (o := j * 7 + 6) (set_blk (o := j * 7 + 5) (set_blk (o := j * 7 + 4) (set_blk (o := j * 7 + 3) (set_blk (o := j * 7 + 2) (set_blk (o := j * 7 + 1) (set_blk (o := j * 7) (HG.out) (.int .u64 x.token)) (.int .u64 x.inst)) (.int .i64 x.node)) (.string x.name)) (.string x.key)) (.int .u64 x.message)) (.slice x.vA x.vN x.vC)
    have hbg := HBG.out
    have hNs := HSZ.out
    refine ⟨_, _, rfl, ?_, ?_⟩
    · refine ⟨by rw [flat_len (enc := encLst) lenLst, hLL], .inr ⟨g, _, _, rfl, by omega, hg2, hnc5, HCM.out, by simp only [Array.size_setIfInBounds]; have := HCS.out; omega, ?_⟩⟩
      rw [hLe.out, ← HFS.out, ← setAll_splice _ _ _ (by rw [HVL.out, lenLst]; omega), ← HTK.out]
      simp only [Array.toList_setIfInBounds, List.take_set]
      rfl
    · exact ((((((((below2 HB.out HB2.out)).setCell (p := ⟨g, j * 7, none⟩) (by show _ ≤ g; omega) _).setCell (p := ⟨g, j * 7 + 1, none⟩) (by show _ ≤ g; omega) _).setCell (p := ⟨g, j * 7 + 2, none⟩) (by show _ ≤ g; omega) _).setCell (p := ⟨g, j * 7 + 3, none⟩) (by show _ ≤ g; omega) _).setCell (p := ⟨g, j * 7 + 4, none⟩) (by show _ ≤ g; omega) _).setCell (p := ⟨g, j * 7 + 5, none⟩) (by show _ ≤ g; omega) _).setCell (p := ⟨g, j * 7 + 6, none⟩) (by show _ ≤ g; omega) _
end Go.Proofs.YtgpkmellpllmgaaGreat
/-
  Lists of Message: searched, copied. Printed by gfold.py.
-/
set_option linter.unusedVariables false
set_option linter.unusedSimpArgs false
namespace Go.Proofs.YtgpkmellpllmgaaGreat
open Go Go.RowKit Go.Proofs.Base
open Go.Sort (grow)
set_option maxRecDepth 100000 in
set_option maxHeartbeats 2000000 in
theorem clone_Msg (A : Option Addr) (n c : Nat) (l : List EMsg) (w : World) (S : Nat → Prop) (hl : l.length = n) (hby : n * 112 ≤ 140737488355328) (hr : Row w S 7 n (.slice A n c) (l.flatMap encMsg)) :
    Calls Tryz.prog 31 #[.slice A n c] w fun e w' => ∃ A' c', e = .returned (.slice A' n c') ∧ w'.ownsRow w.heap.size 64 7 (.slice A' n c') n (l.flatMap encMsg) ∧ Below w.heap.size w w' := by
  obtain ⟨i0, z, hi0, hz0, hz1, hz2, hzc⟩ := eMsg.hi
  have q : ∀ (w : World) (a : Option Addr) (n c n' c' : Nat), (binOp .eql 33 (.slice a n c) (.slice none n' c')).run Tryz.prog w = .ok (.bool a.isNone) w := fun w a n c n' c' => Lib.run_eql_slice_nil w _ _ a n c n' c' Tryz.underlying33
  obtain ⟨A', c', he, hnc, hcm, hlen, hnone, hsome⟩ := hr
  injection he with e1 _ e3
  subst e1 e3
  cases A with
  | none =>
    obtain ⟨rfl, rfl⟩ := hnone rfl
    obtain rfl : l = [] := List.eq_nil_of_length_eq_zero hl
    clear hsome hlen
    go_enter Tryz.func31, Tryz.ntmps31
    go_wp2
    go_ret
    exact ⟨none, 0, rfl, own_nil _ _ _ _, Below.refl _ _⟩
  | some ad =>
    have HC : Hid (∀ j u, (l.flatMap encMsg)[j]? = some u → w.cell? (ad.add j) = some u) := Lib.hid (fun j u hu => by
      rcases Nat.eq_zero_or_pos n with h0 | h0
      · subst h0
        obtain rfl : l = [] := List.eq_nil_of_length_eq_zero hl
        simp at hu
      · obtain ⟨b, o, hA, _, _, hc⟩ := hsome h0
        injection hA with hA
        subst hA
        rw [add_plain]
        exact hc j u hu)
    have HVL := Lib.hid hlen
    have H1 := Lib.hid (flat_one (enc := encMsg) oneMsg l)
    clear hsome hlen hnone hl
    go_enter Tryz.func31, Tryz.ntmps31
    go_wp2_with (at_builtin; refine wpList_append_own _ rfl _ _ 33 rfl w.heap.size 64 i0 z 7 112 Tryz.underlying33 hi0 hz0 hz1 hz2 hzc (by omega) _ _ _ rfl (World.ownsRow_made w #[] 0 (Nat.le_refl _) (Nat.zero_le _) (by simp)) ad n c (l.flatMap encMsg) rfl HVL.out (fun j u hj => Lib.cell?_alloc_some _ (HC.out j u hj)) H1.out (by simp only [maxLen]; omega) (by omega) (by simp) ?_; intro v' w1 hown hgrow hnil)
    go_ret
    have hown' : w1.ownsRow w.heap.size 64 7 v' n (l.flatMap encMsg) := by simpa using hown
    obtain ⟨A2, c2, rfl, _, _⟩ := (Row.of_own hown').open_
    exact ⟨A2, c2, rfl, hown', ((Below.refl _ w).alloc (Nat.le_refl _) _).grown hgrow (by simp) (by intro k hk; injection hk with hk; exact Nat.le_of_eq hk)⟩
set_option maxRecDepth 100000 in
set_option maxHeartbeats 1000000 in
theorem idx_Msg (A : Option Addr) (n c g : Nat) (lb : Array Value) (l : List EMsg) (p : EMsg → Bool) (w0 w : World) (S : Nat → Prop) (eg : ∀ args w, (callFunc g args).run Tryz.prog w = .ok (.enter g args) w) (hl : l.length = n) (hr : Row w S 7 n (.slice A n c) (l.flatMap encMsg)) (h0 : Below w0.heap.size w0 w)
    (hp : ∀ W, Below w0.heap.size w0 W → ∀ x ∈ l, Calls Tryz.prog g (#[.agg #[.int .u64 x.key, .string x.name, .string x.dest, .string x.id, .int .i64 x.till, .slice x.vA x.vN x.vC, .slice x.iA x.iN x.iC]] ++ lb) W fun e w' => e = .returned (.bool (p x)) ∧ Below W.heap.size W w') :
    Calls Tryz.prog 121 #[.slice A n c, .func (.func g) #[] lb] w fun e w' => e = .returned (.int .i64 (idxP p l)) ∧ Below w.heap.size w w' := by
  obtain ⟨A', c', he, hnc, hcm⟩ := hr.open_
  injection he with e1 _ e3
  subst e1 e3
  have HR := Lib.hid hr
  have HL := Lib.hid hl
  have H0 := Lib.hid h0
  have HP := Lib.hid hp
  clear hr hl h0 hp
  go_enter Tryz.func121, Tryz.ntmps121
  go_wp2_with fail
  go_loopw [5, 8] (fun _ i wr => ∃ k : Nat, k ≤ n ∧ i = .int .i64 k ∧ Hid (idxP p l = idxGoP p (l.drop k) k) ∧ Below w.heap.size w wr) (fun _ i _ => n - (intOf i).toNat)
  case atStart => exact ⟨0, by omega, rfl, Lib.hid rfl, Below.refl _ _⟩
  case round =>
    obtain ⟨k, hk, rfl, HK, hbl⟩ := hrel
    have HBL := Lib.hid hbl
    by_cases hkn : k < n
    · have hk1 : k < l.length := by rw [HL.out]; exact hkn
      obtain ⟨b, o, rfl, _, hlt, hc⟩ := HR.out.at_ (by omega)
      have c0 : wr.cell? ⟨b, o + k * 7, none⟩ = some (.int .u64 l[k].key) := (hbl.cell (p := ⟨b, o + k * 7, none⟩) hlt).trans (by simpa using hc k 0 _ ((flat_at (enc := encMsg) lenMsg hk1 0 (by decide)).trans rfl))
      have c1 : wr.cell? ⟨b, o + k * 7 + 1, none⟩ = some (.string l[k].name) := (hbl.cell (p := ⟨b, o + k * 7 + 1, none⟩) hlt).trans (by simpa using hc k 1 _ ((flat_at (enc := encMsg) lenMsg hk1 1 (by decide)).trans rfl))
      have c2 : wr.cell? ⟨b, o + k * 7 + 2, none⟩ = some (.string l[k].dest) := (hbl.cell (p := ⟨b, o + k * 7 + 2, none⟩) hlt).trans (by simpa using hc k 2 _ ((flat_at (enc := encMsg) lenMsg hk1 2 (by decide)).trans rfl))
      have c3 : wr.cell? ⟨b, o + k * 7 + 3, none⟩ = some (.string l[k].id) := (hbl.cell (p := ⟨b, o + k * 7 + 3, none⟩) hlt).trans (by simpa using hc k 3 _ ((flat_at (enc := encMsg) lenMsg hk1 3 (by decide)).trans rfl))
      have c4 : wr.cell? ⟨b, o + k * 7 + 4, none⟩ = some (.int .i64 l[k].till) := (hbl.cell (p := ⟨b, o + k * 7 + 4, none⟩) hlt).trans (by simpa using hc k 4 _ ((flat_at (enc := encMsg) lenMsg hk1 4 (by decide)).trans rfl))
      have c5 : wr.cell? ⟨b, o + k * 7 + 5, none⟩ = some (.slice l[k].vA l[k].vN l[k].vC) := (hbl.cell (p := ⟨b, o + k * 7 + 5, none⟩) hlt).trans (by simpa using hc k 5 _ ((flat_at (enc := encMsg) lenMsg hk1 5 (by decide)).trans rfl))
      have c6 : wr.cell? ⟨b, o + k * 7 + 6, none⟩ = some (.slice l[k].iA l[k].iN l[k].iC) := (hbl.cell (p := ⟨b, o + k * 7 + 6, none⟩) hlt).trans (by simpa using hc k 6 _ ((flat_at (enc := encMsg) lenMsg hk1 6 (by decide)).trans rfl))
      have hcall := HP.out wr (below2 H0.out hbl) l[k] (List.getElem_mem hk1)
      have hq := HK.out
      rw [List.drop_eq_getElem_cons hk1] at hq
      clear hc
      generalize l[k] = x at *
      have HQ := Lib.hid hq
      clear hq hbl HK
      by_cases hx : p x = true
      · rw [hx] at hcall
        have HX := Lib.hid hx
        clear hx
        go_wp2_with (go_at_fn g; refine hcall.mono ?_; rintro e w1 ⟨rfl, hb1⟩)
        go_ret
        refine ⟨?_, below2 HBL.out hb1⟩
        have e2 : idxGoP p (x :: l.drop (k + 1)) k = k := by show (if _ then _ else _) = _; rw [if_pos HX.out]
        rw [HQ.out, e2]; rfl
      · have hx2 : p x = false := by simpa using hx
        rw [hx2] at hcall
        have HQ2 : Hid (idxP p l = idxGoP p (l.drop (k + 1)) (k + 1)) := Lib.hid (by rw [HQ.out]; show (if _ then _ else _) = _; rw [if_neg hx])
        clear hx hx2
        go_wp2_with (go_at_fn g; refine hcall.mono ?_; rintro e w1 ⟨rfl, hb1⟩)
        go_roundw
        case rel => exact ⟨k + 1, by omega, by go_num, HQ2, below2 HBL.out hb1⟩
        case measure => simp [intOf]; omega
    · have HQ : Hid (idxP p l = -1) := Lib.hid (by rw [HK.out, List.drop_eq_nil_of_le (by rw [HL.out]; omega)]; rfl)
      clear HK
      go_wp2_with fail
      go_ret
      exact ⟨by rw [HQ.out]; rfl, hbl⟩
end Go.Proofs.YtgpkmellpllmgaaGreat
/-
  slices.Insert of one Message. Printed by gfold.py out of XIns.
-/
set_option linter.unusedVariables false
set_option linter.unusedSimpArgs false
namespace Go.Proofs.YtgpkmellpllmgaaGreat
open Go Go.RowKit Go.Proofs.Base
set_option maxRecDepth 100000 in
set_option maxHeartbeats 2000000 in
theorem ins_end_Msg (base : Nat) (v : Value) (n xb : Nat) (xs cs : List Value) (w0 w : World) (hown : w.ownsRow base 64 7 v n xs) (hx : w.heap[xb]? = some (.cells cs.toArray 64 (0, 0))) (hcs : cs.length = 7) (h1c : ∀ u ∈ cs, u.oneCell' = true)
    (hB : Below base w0 w) (hbase : base ≤ w.heap.size) (hbig : (n + 1) * 112 ≤ 140737488355328) :
    Calls Tryz.prog 179 #[v, .int .i64 n, .slice (some ⟨xb, 0, none⟩) 1 1] w fun e w' => ∃ v', e = .returned v' ∧ w'.ownsRow base 64 7 v' (n + 1) (xs ++ cs) ∧ Below base w0 w' := by
  obtain ⟨i0, z, hi, hz0, hz1, hz2, hzc⟩ := eMsg.hi
  have HO := Lib.hid hown
  have HX := Lib.hid (World.news_of_block (cs := cs.toArray) (t := 64) (fr := (0, 0)) hx)
  have HCS := Lib.hid hcs
  have H1C := Lib.hid h1c
  have HB := Lib.hid hB
  have hvn : ∃ A c, v = .slice A n c ∧ n ≤ c ∧ c ≤ 9223372036854775807 := by
    obtain ⟨_, h2⟩ := id hown
    have hl0 := hown.1
    clear hown HO
    rcases h2 with ⟨rfl, hn0⟩ | ⟨g, cap, cur, rfl, hb, hh, hnc, hcm, _⟩
    · obtain rfl : n = 0 := by rw [hn0] at hl0; simp at hl0; omega
      exact ⟨none, 0, rfl, Nat.le_refl _, by omega⟩
    · exact ⟨_, _, rfl, hnc, by simpa [maxLen] using hcm⟩
  obtain ⟨A, c, rfl, hnc, hc⟩ := hvn
  clear hown hx hcs h1c hB
  go_enter Tryz.func179, Tryz.ntmps179
  go_wp2_with (at_builtin; refine wpList_append_own_at _ rfl _ _ 33 rfl base 64 i0 z 7 112 eMsg.ht hi hz0 hz1 hz2 hzc (by omega) _ n xs rfl HO.out ⟨xb, 0, none⟩ 1 1 cs rfl (by rw [HCS.out]) (by simpa using HX.out) H1C.out (by simp only [maxLen]; omega) hbig hbase ?_; intro v1 w1 hown1 hg1 _ _)
  all_goals (go_ret; exact ⟨v1, rfl, hown1, HB.out.grown hg1 hbase (fun k hk => (HO.out.lt k hk).1)⟩)
theorem zeros_len_Msg (z : Value) (m : Nat) (hz : z.cells.size = 7) : (Builtin.zeroCells z.cells m).toList.length = m * 7 := by
  rw [Array.length_toList, size_zeroCells, hz]
set_option maxRecDepth 100000 in
set_option maxHeartbeats 4000000 in
theorem ins_grow_Msg (base g cap n i xb m vc : Nat) (xs cs : List Value) (w0 w : World) (hi : i < n) (hm0 : 0 < m) (hcap : cap < n + m) (hown : w.ownsRow base 64 7 (.slice (some ⟨g, 0, none⟩) n cap) n xs) (hx : w.heap[xb]? = some (.cells cs.toArray 64 (0, 0))) (hcs : cs.length = m * 7) (h1c : ∀ u ∈ cs, u.oneCell' = true) (h1x : ∀ u ∈ xs, u.oneCell' = true)
    (hB : Below base w0 w) (hbase : base ≤ w.heap.size) (hbig : (n + m) * 112 ≤ 140737488355328) :
    Calls Tryz.prog 179 #[.slice (some ⟨g, 0, none⟩) n cap, .int .i64 i, .slice (some ⟨xb, 0, none⟩) m vc] w fun e w' => ∃ v', e = .returned v' ∧ w'.ownsRow base 64 7 v' (n + m) (xs.take (i * 7) ++ cs ++ xs.drop (i * 7)) ∧ Below base w0 w' := by
  obtain ⟨i0, z, hi0, hz0, hz1, hz2, hzc⟩ := eMsg.hi
  have hnc : n ≤ cap := by
    rcases hown.2 with ⟨h, _⟩ | ⟨g', cap', cur, he, _, _, hnc, _⟩
    · cases h
    · injection he with _ _ e3; omega
  have hxl := hown.1
  have hgr : ∀ ty, (Builtin.append_ #[33, 3] ty #[.slice (some ⟨g, 0, none⟩) i cap, .int .i64 ((n + m - i : Nat) : Int)]).run Tryz.prog w = _ := fun ty =>
    run_append_zeros_grows w base 33 3 ty 64 i0 z 7 112 eMsg.ht Tryz.underlying3 hi0 hz0 hz1 hz2 hzc (by omega) (by omega) g i cap (xs.take (i * 7)) (own_take hown (Nat.le_of_lt hi)) .i64 (n + m - i) (by omega) (by omega) (by rw [show i + (n + m - i) = n + m by omega]; exact hbig) hbase
  rw [show i + (n + m - i) = n + m by omega] at hgr
  have hge := grownCap_ge w (n + m) cap 64
  have hcm : grownCap w (n + m) cap 64 ≤ maxLen := grownCap_le_maxLen w (n + m) cap 64 (by simp only [maxLen]; omega)
  generalize grownCap w (n + m) cap 64 = k at *
  generalize hCUR : (xs.take (i * 7)).toArray ++ Builtin.zeroCells z.cells (n + m - i) ++ Builtin.zeroCells z.cells (k - (n + m)) = CUR at hgr
  have hCl : CUR.toList = xs.take (i * 7) ++ (Builtin.zeroCells z.cells (n + m - i)).toList ++ (Builtin.zeroCells z.cells (k - (n + m))).toList := by rw [← hCUR]; simp
  have htl : (xs.take (i * 7)).length = i * 7 := by rw [List.length_take, hxl]; omega
  have hdl : (xs.drop (i * 7)).length = (n - i) * 7 := by rw [List.length_drop, hxl]; omega
  have hCs : CUR.size = k * 7 := by
    rw [← Array.length_toList, hCl, List.length_append, List.length_append, htl, zeros_len_Msg z _ hzc, zeros_len_Msg z _ hzc]; omega
  have hW1 : (w.drew.alloc (.cells CUR 64)).heap[w.heap.size]? = some (.cells CUR 64 (0, 0)) := heap_alloc_new w.drew _
  have hb1 : Below base w0 (w.drew.alloc (.cells CUR 64)) := (show Below base w0 w.drew from ⟨hB.os, hB.tape, hB.output, hB.size, hB.block⟩).alloc hbase _
  have hxb := lt_of_blk hx
  have hx1 : (w.drew.alloc (.cells CUR 64)).heap[xb]? = some (.cells cs.toArray 64 (0, 0)) := (heap_alloc_old w.drew _ hxb).trans hx
  generalize hWW : w.drew.alloc (.cells CUR 64) = W1 at *
  have hc1 : ∀ ty dc, (Builtin.copy_ #[33, 33] ty #[.slice (some ⟨w.heap.size, i * 7, none⟩) (n + m - i) dc, .slice (some ⟨xb, 0, none⟩) m vc]).run Tryz.prog W1 = .ok (goInt (m : Int)) (W1.setRow w.heap.size (splice CUR.toList (i * 7) cs).toArray) := fun ty dc =>
    run_copy_wide W1 _ _ ty 64 7 w.heap.size (i * 7) (n + m - i) dc ⟨xb, 0, none⟩ m vc m CUR 64 cs eMsg.ht sMsg hW1 (by simp only [Nat.min_def]; split <;> omega) (by omega) (by simpa using World.news_of_block (cs := cs.toArray) (t := 64) (fr := (0, 0)) hx1) (by omega) h1c
  have hW2 := setRow_heap W1 w.heap.size CUR (splice CUR.toList (i * 7) cs).toArray 64 (0, 0) hW1
  have hb2 : Below base w0 (W1.setRow w.heap.size (splice CUR.toList (i * 7) cs).toArray) := below_setRow hb1 hbase _
  have hg2 : ∀ j v, (xs.drop (i * 7))[j]? = some v → (W1.setRow w.heap.size (splice CUR.toList (i * 7) cs).toArray).cell? ((⟨g, i * 7, none⟩ : Addr).add j) = some v := by
    intro j v hj
    have hglt := (hown.lt g rfl).2
    have h1 : w.cell? ((⟨g, 0, none⟩ : Addr).add (i * 7 + j)) = some v := hown.cells rfl (i * 7 + j) v (by rw [List.getElem?_drop] at hj; exact hj)
    rw [add_plain] at h1 ⊢
    rw [Nat.zero_add] at h1
    have h2 : (W1.setRow w.heap.size (splice CUR.toList (i * 7) cs).toArray).heap[g]? = w.heap[g]? := by
      rw [setRow_other _ _ _ _ (by omega), ← hWW]
      exact heap_alloc_old w.drew _ hglt
    exact (World.cell?_of_block (w := w) (a := ⟨g, i * 7 + j, none⟩) h2).trans h1
  generalize hW3 : W1.setRow w.heap.size (splice CUR.toList (i * 7) cs).toArray = W2 at *
  have hsl : (splice CUR.toList (i * 7) cs).length = k * 7 := by rw [length_splice CUR.toList (i * 7) cs (by rw [hcs, Array.length_toList, hCs]; omega), Array.length_toList, hCs]
  have hc2 : ∀ W : World, (∀ b, W.heap[b]? = W2.heap[b]?) → (∀ x, W.cell? x = W2.cell? x) → ∀ ty dc sc, (Builtin.copy_ #[33, 33] ty #[.slice (some ⟨w.heap.size, (i + m) * 7, none⟩) (n + m - (i + m)) dc, .slice (some ⟨g, i * 7, none⟩) (n - i) sc]).run Tryz.prog W = .ok (goInt ((n - i : Nat) : Int)) (W.setRow w.heap.size (splice (splice CUR.toList (i * 7) cs) ((i + m) * 7) (xs.drop (i * 7))).toArray) := fun W hWb hWc ty dc sc => by
    have h := run_copy_wide (P := Tryz.prog) W 33 33 ty 64 7 w.heap.size ((i + m) * 7) (n + m - (i + m)) dc ⟨g, i * 7, none⟩ (n - i) sc (n - i) (splice CUR.toList (i * 7) cs).toArray 64 (xs.drop (i * 7)) eMsg.ht sMsg ((hWb _).trans hW2) (by simp only [Nat.min_def]; split <;> omega) hdl (fun j v hj => (hWc _).trans (hg2 j v hj)) (by simp only [List.size_toArray]; rw [hsl, hdl]; omega) (fun u hu => h1x u (List.mem_of_mem_drop hu))
    rw [List.toList_toArray] at h
    exact h
  have hfin : (splice (splice CUR.toList (i * 7) cs) ((i + m) * 7) (xs.drop (i * 7))) = xs.take (i * 7) ++ cs ++ xs.drop (i * 7) ++ (Builtin.zeroCells z.cells (k - (n + m))).toList := by
    rw [hCl, show (i + m) * 7 = i * 7 + m * 7 by omega]
    exact ins_list (n := n * 7) (m * 7) hxl (by omega) hcs (by rw [zeros_len_Msg z _ hzc]; omega) _
  have hout : ∀ W : World, W.heap[w.heap.size]? = some (.cells (splice (splice CUR.toList (i * 7) cs) ((i + m) * 7) (xs.drop (i * 7))).toArray 64 (0, 0)) → W.ownsRow base 64 7 (.slice (some ⟨w.heap.size, 0, none⟩) (n + m) k) (n + m) (xs.take (i * 7) ++ cs ++ xs.drop (i * 7)) := by
    intro W hW
    have hl : (xs.take (i * 7) ++ cs ++ xs.drop (i * 7)).length = (n + m) * 7 := by rw [List.length_append, List.length_append, htl, hcs, hdl]; omega
    refine ⟨hl, .inr ⟨_, _, _, rfl, hbase, hW, hge, hcm, ?_, ?_⟩⟩
    · simp only [List.size_toArray]; rw [length_splice _ _ _ (by rw [hsl, hdl]; omega), hsl]
    · rw [hfin, ← hl, List.take_left]
  have q1 : IntKind.i64.wrap ((n : Int) + m) = (n : Int) + m := by rw [IntKind.wrap_i64]; omega
  have q2 : IntKind.i64.wrap ((i : Int) + m) = (i : Int) + m := by rw [IntKind.wrap_i64]; omega
  have q3 : ((n : Int) + m - i) = ((n + m - i : Nat) : Int) := by omega
  have q4 : ((n : Int) == (i : Int)) = false := beq_f (by omega)
  have q5 : ((i : Int) == (n : Int)) = false := beq_f (by omega)
  have q6 : ((i : Int) + m).toNat = i + m := by omega
  have HB2 := Lib.hid hb2
  have HC1 := Lib.hid hc1
  have HC2 := Lib.hid hc2
  have HGR := Lib.hid hgr
  have HOUT := Lib.hid hout
  have HW2 := Lib.hid hW2
  have hck : i < k := by omega
  have kb1 : (0 : Int) ≤ (i : Int) + (m : Int) := by omega
  have kb2 : ¬ (k = i + m) := by omega
  have kb3 : (i : Int) ≤ (n : Int) + (m : Int) := by omega
  have kb4 : ¬ (cap = i) := by omega
  have kb5 : ¬ (k = i) := by omega
  have kb6 : i ≤ n := by omega
  have hz1 : ¬ ((m : Int) = 0) := by omega
  clear hc1 hc2 hgr hfin hsl hg2 hb2 hW2 hx1 hxb hb1 hW1 hCl hCs htl hdl hown hx h1c h1x hB hxl hz0 hz1 hz2 hzc hi0 hcs hCUR hbig hWW hW3
  unfold maxLen at hcm
  go_enter Tryz.func179, Tryz.ntmps179
  go_wp2_with (first | (at_builtin; with_reducible refine Lib.wpList_append_run _ rfl _ _ 33 3 rfl _ _ rfl rfl _ _ (HGR.out _) ?_) | (with_reducible refine wpList_copy_runI _ rfl _ _ 33 33 rfl _ _ rfl rfl (HC1.out _ _) ?_))
  go_region_law (refine step_copy_runI rfl _ _ 33 33 rfl _ _ (by simp [Act.eval, Act.put]) (by simp [Act.eval, Act.put]) (HC2.out W2.drew (fun _ => rfl) (fun _ => rfl) _ (k - (i + m)) (cap - i)) ?_)
  go_wp2_with fail
  go_ret
  refine ⟨_, rfl, by simpa [List.append_assoc] using HOUT.out _ (setRow_heap W2.drew _ _ _ 64 (0, 0) HW2.out), ?_⟩
  exact below_setRow (show Below base w0 W2.drew from ⟨HB2.out.os, HB2.out.tape, HB2.out.output, HB2.out.size, HB2.out.block⟩) hbase _
set_option maxRecDepth 100000 in
set_option maxHeartbeats 4000000 in
theorem ins_room_Msg (base g cap n i xb m vc : Nat) (xs cs : List Value) (w0 w : World) (hi : i < n) (hm0 : 0 < m) (hcap : n + m ≤ cap) (hown : w.ownsRow base 64 7 (.slice (some ⟨g, 0, none⟩) n cap) n xs) (hx : w.heap[xb]? = some (.cells cs.toArray 64 (0, 0))) (hxg : xb ≠ g) (hcs : cs.length = m * 7) (h1c : ∀ u ∈ cs, u.oneCell' = true) (h1x : ∀ u ∈ xs, u.oneCell' = true)
    (hB : Below base w0 w) :
    Calls Tryz.prog 179 #[.slice (some ⟨g, 0, none⟩) n cap, .int .i64 i, .slice (some ⟨xb, 0, none⟩) m vc] w fun e w' => ∃ v', e = .returned v' ∧ w'.ownsRow base 64 7 v' (n + m) (xs.take (i * 7) ++ cs ++ xs.drop (i * 7)) ∧ Below base w0 w' := by
  have hxl := hown.1
  obtain ⟨cur, hbg, hg, hcm, hcsz, htk⟩ : ∃ cur : Array Value, base ≤ g ∧ w.heap[g]? = some (.cells cur 64 (0, 0)) ∧ cap ≤ maxLen ∧ cur.size = cap * 7 ∧ cur.toList.take (n * 7) = xs := by
    rcases hown.2 with ⟨h, _⟩ | ⟨g', cap', cur, he, hb, hh, hnc, hcm, hcs, htk⟩
    · cases h
    · injection he with e1 e2 e3
      injection e1 with e1
      injection e1 with e1
      subst e1 e3
      exact ⟨cur, hb, hh, hcm, by omega, htk⟩
  have hdl : (xs.drop (i * 7)).length = (n - i) * 7 := by rw [List.length_drop, hxl]; omega
  have hov : ∀ lb cb, (callFunc 207 #[.slice (some ⟨xb, 0, none⟩) m vc, .slice (some ⟨g, (i + m) * 7, none⟩) lb cb]).run Tryz.prog w = .ok (.value (.bool false)) w := fun lb cb => by
    rw [run_callFunc_extern Tryz.func207 (by kernel_rfl) (by kernel_rfl) (by kernel_rfl) (e := Extern.SlicesOverlaps.overlaps #[33, 33] #[4]) (by kernel_rfl),
      Lib.run_overlaps_apart w 33 4 64 Tryz.underlying33 7 Tryz.sizeOf64 ⟨xb, 0, none⟩ ⟨g, (i + m) * 7, none⟩ m vc lb cb hxg 64 64 cs.toArray.size cur.size (by simp [World.shape?, hx]) (by simp [World.shape?, hg]) (by omega) (frozen_of_blk hx _) (frozen_of_blk hx _)]
    rfl
  have hg1 := setRow_heap w.drew g cur (splice cur.toList ((i + m) * 7) (xs.drop (i * 7))).toArray 64 (0, 0) hg
  have hc1 : ∀ ty dc sc, (Builtin.copy_ #[33, 33] ty #[.slice (some ⟨g, (i + m) * 7, none⟩) (n + m - (i + m)) dc, .slice (some ⟨g, i * 7, none⟩) (n + m - i) sc]).run Tryz.prog w.drew = .ok (goInt ((n - i : Nat) : Int)) (w.drew.setRow g (splice cur.toList ((i + m) * 7) (xs.drop (i * 7))).toArray) := fun ty dc sc =>
    run_copy_wide (P := Tryz.prog) w.drew 33 33 ty 64 7 g ((i + m) * 7) (n + m - (i + m)) dc ⟨g, i * 7, none⟩ (n + m - i) sc (n - i) cur 64 (xs.drop (i * 7)) eMsg.ht sMsg hg (by simp only [Nat.min_def]; split <;> omega) hdl
      (fun j v hj => by
        have h1 : w.cell? ((⟨g, 0, none⟩ : Addr).add (i * 7 + j)) = some v := hown.cells rfl (i * 7 + j) v (by rw [List.getElem?_drop] at hj; exact hj)
        rw [add_plain] at h1 ⊢
        rw [Nat.zero_add] at h1
        exact h1) (by rw [hdl, hcsz]; omega) (fun u hu => h1x u (List.mem_of_mem_drop hu))
  have hxb := lt_of_blk hx
  have hx1 : (w.drew.setRow g (splice cur.toList ((i + m) * 7) (xs.drop (i * 7))).toArray).heap[xb]? = some (.cells cs.toArray 64 (0, 0)) := (setRow_other w.drew g xb _ hxg).trans hx
  have hbd : Below base w0 (w.drew.setRow g (splice cur.toList ((i + m) * 7) (xs.drop (i * 7))).toArray) := below_setRow (show Below base w0 w.drew from ⟨hB.os, hB.tape, hB.output, hB.size, hB.block⟩) hbg _
  generalize hWW : w.drew.setRow g (splice cur.toList ((i + m) * 7) (xs.drop (i * 7))).toArray = W1 at *
  have hsl : (splice cur.toList ((i + m) * 7) (xs.drop (i * 7))).length = cap * 7 := by rw [length_splice cur.toList ((i + m) * 7) (xs.drop (i * 7)) (by rw [hdl, Array.length_toList, hcsz]; omega), Array.length_toList, hcsz]
  have hc2 : ∀ ty dc, (Builtin.copy_ #[33, 33] ty #[.slice (some ⟨g, i * 7, none⟩) (n + m - i) dc, .slice (some ⟨xb, 0, none⟩) m vc]).run Tryz.prog W1 = .ok (goInt (m : Int)) (W1.setRow g (splice (splice cur.toList ((i + m) * 7) (xs.drop (i * 7))) (i * 7) cs).toArray) := fun ty dc => by
    have h := run_copy_wide (P := Tryz.prog) W1 33 33 ty 64 7 g (i * 7) (n + m - i) dc ⟨xb, 0, none⟩ m vc m (splice cur.toList ((i + m) * 7) (xs.drop (i * 7))).toArray 64 cs eMsg.ht sMsg hg1 (by simp only [Nat.min_def]; split <;> omega) hcs (by simpa using World.news_of_block (cs := cs.toArray) (t := 64) (fr := (0, 0)) hx1) (by simp only [List.size_toArray]; rw [hsl, hcs]; omega) h1c
    rw [List.toList_toArray] at h
    exact h
  have hg2 := setRow_heap W1 g _ (splice (splice cur.toList ((i + m) * 7) (xs.drop (i * 7))) (i * 7) cs).toArray 64 (0, 0) hg1
  have hb2 := below_setRow hbd hbg (splice (splice cur.toList ((i + m) * 7) (xs.drop (i * 7))) (i * 7) cs).toArray
  have hout : (W1.setRow g (splice (splice cur.toList ((i + m) * 7) (xs.drop (i * 7))) (i * 7) cs).toArray).ownsRow base 64 7 (.slice (some ⟨g, 0, none⟩) (n + m) cap) (n + m) (xs.take (i * 7) ++ cs ++ xs.drop (i * 7)) := by
    have htl : (xs.take (i * 7)).length = i * 7 := by rw [List.length_take, hxl]; omega
    have hl : (xs.take (i * 7) ++ cs ++ xs.drop (i * 7)).length = (n + m) * 7 := by rw [List.length_append, List.length_append, htl, hcs, hdl]; omega
    refine ⟨hl, .inr ⟨_, _, _, rfl, hbg, hg2, hcap, hcm, ?_, ?_⟩⟩
    · simp only [List.size_toArray]; rw [length_splice _ _ _ (by rw [hsl, hcs]; omega), hsl]
    · have h := ins_list2 (xs := xs) (cs := cs) (cur := cur.toList) (i := i * 7) (n := n * 7) (m * 7) htk (by rw [Array.length_toList, hcsz]; omega) (by omega) hcs
      rw [show i * 7 + m * 7 = (i + m) * 7 by omega, show n * 7 + m * 7 = (n + m) * 7 by omega] at h
      exact h
  generalize hWW2 : W1.setRow g (splice (splice cur.toList ((i + m) * 7) (xs.drop (i * 7))) (i * 7) cs).toArray = W2 at *
  have HB2 := Lib.hid hb2
  have HC1 := Lib.hid hc1
  have HC2 := Lib.hid hc2
  have HOV := Lib.hid hov
  have HOUT := Lib.hid hout
  have hck : i < cap := by omega
  have q1 : IntKind.i64.wrap ((n : Int) + m) = (n : Int) + m := by rw [IntKind.wrap_i64]; unfold maxLen at hcm; omega
  have q2 : IntKind.i64.wrap ((i : Int) + m) = (i : Int) + m := by rw [IntKind.wrap_i64]; unfold maxLen at hcm; omega
  have q5 : ((i : Int) == (n : Int)) = false := beq_f (by omega)
  have q6 : ((i : Int) + m).toNat = i + m := by omega
  have q7 : ((n : Int) + m).toNat = n + m := by omega
  have kb1 : (0 : Int) ≤ (i : Int) + (m : Int) := by omega
  have kb2 : ¬ (cap = i + m) := by omega
  have kb3 : (i : Int) ≤ (n : Int) + (m : Int) := by omega
  have kb4 : ¬ (cap = i) := by omega
  have kb6 : i ≤ n := by omega
  have hz1 : ¬ ((m : Int) = 0) := by omega
  clear hb2 hc1 hc2 hov hout hown hx h1c h1x hB hxl hcs hWW hWW2 hg hg1 hg2 hcsz htk hdl hxb hx1 hbd hsl
  unfold maxLen at hcm
  go_enter Tryz.func179, Tryz.ntmps179
  go_wp2_with (simp only [HOV.out])
  go_region_law (refine step_copy_runI rfl _ _ 33 33 rfl _ _ (by simp [Act.eval, Act.put]) (by simp [Act.eval, Act.put]) (HC1.out _ (cap - (i + m)) (cap - i)) ?_)
  go_wp2_with (with_reducible refine wpList_copy_runI _ rfl _ _ 33 33 rfl _ _ rfl rfl (HC2.out _ _) ?_)
  go_ret
  exact ⟨_, rfl, by simpa [List.append_assoc] using HOUT.out, HB2.out⟩
theorem ins_one_Msg (base : Nat) (v : Value) (n i xb : Nat) (xs cs : List Value) (w0 w : World) (hi : i ≤ n) (hown : w.ownsRow base 64 7 v n xs) (hx : w.heap[xb]? = some (.cells cs.toArray 64 (0, 0))) (hxv : ∀ g, v.ownBlock = some g → xb ≠ g) (hcs : cs.length = 7) (h1c : ∀ u ∈ cs, u.oneCell' = true) (h1x : ∀ u ∈ xs, u.oneCell' = true)
    (hB : Below base w0 w) (hbase : base ≤ w.heap.size) (hbig : (n + 1) * 112 ≤ 140737488355328) :
    Calls Tryz.prog 179 #[v, .int .i64 i, .slice (some ⟨xb, 0, none⟩) 1 1] w fun e w' => ∃ v', e = .returned v' ∧ w'.ownsRow base 64 7 v' (n + 1) (xs.take (i * 7) ++ cs ++ xs.drop (i * 7)) ∧ Below base w0 w' := by
  by_cases he : i = n
  · subst he
    have hxl := hown.1
    have h := ins_end_Msg base v i xb xs cs w0 w hown hx hcs h1c hB hbase hbig
    rw [List.take_of_length_le (by omega), List.drop_of_length_le (by omega), List.append_nil]
    exact h
  · have hlt : i < n := by omega
    have h2 := hown.2
    rcases h2 with ⟨_, hn0⟩ | ⟨g, cap, cur, rfl, hb, hh, hnc, hcm, _⟩
    · have := hown.1; rw [hn0] at this; simp at this; omega
    · by_cases hc : n + 1 ≤ cap
      · exact ins_room_Msg base g cap n i xb 1 1 xs cs w0 w hlt (by omega) hc hown hx (hxv g rfl) (by omega) h1c h1x hB
      · exact ins_grow_Msg base g cap n i xb 1 1 xs cs w0 w hlt (by omega) (by omega) hown hx (by omega) h1c h1x hB hbase hbig
end Go.Proofs.YtgpkmellpllmgaaGreat
/-
  fold.put of Message. Printed by gfold.py.
-/
set_option linter.unusedVariables false
set_option linter.unusedSimpArgs false
namespace Go.Proofs.YtgpkmellpllmgaaGreat
open Go Go.RowKit Go.Proofs.Base
open Go.Sort (grow)
set_option maxRecDepth 100000 in
theorem ord_Msg (y x : EMsg) (w : World) : Calls Tryz.prog 116 #[.agg #[.int .u64 y.key, .string y.name, .string y.dest, .string y.id, .int .i64 y.till, .slice y.vA y.vN y.vC, .slice y.iA y.iN y.iC], .agg #[.int .u64 x.key, .string x.name, .string x.dest, .string x.id, .int .i64 x.till, .slice x.vA x.vN x.vC, .slice x.iA x.iN x.iC]] w fun e w' => e = .returned (.int .i64 (cmpMsg y x)) ∧ Below w.heap.size w w' := by
  have hB : Below w.heap.size w ((w.alloc (.cells #[.int .u64 y.key, .string y.name, .string y.dest, .string y.id, .int .i64 y.till, .slice y.vA y.vN y.vC, .slice y.iA y.iN y.iC] 64)).alloc (.cells #[.int .u64 x.key, .string x.name, .string x.dest, .string x.id, .int .i64 x.till, .slice x.vA x.vN x.vC, .slice x.iA x.iN x.iC] 64)) := below_alloc (below_alloc (Below.refl _ _) _) _
  have HB := Lib.hid hB
  clear hB
  go_enter Tryz.func116, Tryz.ntmps116
  go_wp2_with (go_at_call 83; refine (cmp_u64 _ _ _).mono ?_; rintro e w' ⟨rfl, rfl⟩)
  go_ret
  exact ⟨rfl, HB.out⟩
set_option maxRecDepth 100000 in
theorem put1_Msg (B1 B2 : Nat) (y x : EMsg) (w : World) (h1 : w.cell? ⟨B1, 0, none⟩ = some (.func (.func 116) #[] #[])) (h2 : w.heap[B2]? = some (.cells #[.int .u64 x.key, .string x.name, .string x.dest, .string x.id, .int .i64 x.till, .slice x.vA x.vN x.vC, .slice x.iA x.iN x.iC] 64 (0, 0))) :
    Calls Tryz.prog 177 (#[.agg #[.int .u64 y.key, .string y.name, .string y.dest, .string y.id, .int .i64 y.till, .slice y.vA y.vN y.vC, .slice y.iA y.iN y.iC]] ++ #[.pointer (some ⟨B1, 0, none⟩), .pointer (some ⟨B2, 0, none⟩)]) w fun e w' => e = .returned (.bool (decide (cmpMsg y x = 0))) ∧ Below w.heap.size w w' := by
  have hB : Below w.heap.size w (w.alloc (.cells #[.int .u64 y.key, .string y.name, .string y.dest, .string y.id, .int .i64 y.till, .slice y.vA y.vN y.vC, .slice y.iA y.iN y.iC] 64)) := below_alloc (Below.refl _ _) _
  have hc := (hB.cell (p := ⟨B1, 0, none⟩) (World.block_lt_of_cell? w _ h1)).trans h1
  have hk := block_below hB h2
  have k0 := cell_of_blk hk 0
  have k1 := cell_of_blk hk 1
  have k2 := cell_of_blk hk 2
  have k3 := cell_of_blk hk 3
  have k4 := cell_of_blk hk 4
  have k5 := cell_of_blk hk 5
  have k6 := cell_of_blk hk 6
  have HB := Lib.hid hB
  obtain ⟨cc, hcc⟩ : ∃ cc, cc = cmpMsg y x := ⟨_, rfl⟩
  have ho := fun w => ord_Msg y x w
  simp only [← hcc] at ho
  have HO := Lib.hid ho
  rw [← hcc]
  clear hB h1 h2 hk hcc ho
  go_enter Tryz.func177, Tryz.ntmps177
  go_wp2_with (go_at_call 116; refine (HO.out _).mono ?_; rintro e w' ⟨rfl, hb⟩)
  go_ret
  exact ⟨by first | rfl | (refine congrArg (fun b => Ending.returned (Value.bool b)) ?_; rw [Bool.eq_iff_iff]; simp), below2 HB.out hb⟩
set_option maxRecDepth 100000 in
theorem put2_Msg (B1 B2 : Nat) (y x : EMsg) (w : World) (h1 : w.cell? ⟨B1, 0, none⟩ = some (.func (.func 116) #[] #[])) (h2 : w.heap[B2]? = some (.cells #[.int .u64 x.key, .string x.name, .string x.dest, .string x.id, .int .i64 x.till, .slice x.vA x.vN x.vC, .slice x.iA x.iN x.iC] 64 (0, 0))) :
    Calls Tryz.prog 178 (#[.agg #[.int .u64 y.key, .string y.name, .string y.dest, .string y.id, .int .i64 y.till, .slice y.vA y.vN y.vC, .slice y.iA y.iN y.iC]] ++ #[.pointer (some ⟨B1, 0, none⟩), .pointer (some ⟨B2, 0, none⟩)]) w fun e w' => e = .returned (.bool (decide (0 < cmpMsg y x))) ∧ Below w.heap.size w w' := by
  have hB : Below w.heap.size w (w.alloc (.cells #[.int .u64 y.key, .string y.name, .string y.dest, .string y.id, .int .i64 y.till, .slice y.vA y.vN y.vC, .slice y.iA y.iN y.iC] 64)) := below_alloc (Below.refl _ _) _
  have hc := (hB.cell (p := ⟨B1, 0, none⟩) (World.block_lt_of_cell? w _ h1)).trans h1
  have hk := block_below hB h2
  have k0 := cell_of_blk hk 0
  have k1 := cell_of_blk hk 1
  have k2 := cell_of_blk hk 2
  have k3 := cell_of_blk hk 3
  have k4 := cell_of_blk hk 4
  have k5 := cell_of_blk hk 5
  have k6 := cell_of_blk hk 6
  have HB := Lib.hid hB
  obtain ⟨cc, hcc⟩ : ∃ cc, cc = cmpMsg y x := ⟨_, rfl⟩
  have ho := fun w => ord_Msg y x w
  simp only [← hcc] at ho
  have HO := Lib.hid ho
  rw [← hcc]
  clear hB h1 h2 hk hcc ho
  go_enter Tryz.func178, Tryz.ntmps178
  go_wp2_with (go_at_call 116; refine (HO.out _).mono ?_; rintro e w' ⟨rfl, hb⟩)
  go_ret
  exact ⟨by first | rfl | (refine congrArg (fun b => Ending.returned (Value.bool b)) ?_; rw [Bool.eq_iff_iff]; simp), below2 HB.out hb⟩
set_option maxRecDepth 100000 in
set_option maxHeartbeats 4000000 in
theorem put_Msg (A : Option Addr) (n c : Nat) (x : EMsg) (l : List EMsg) (w : World) (S : Nat → Prop) (hl : l.length = n) (hby : (n + 1) * 112 ≤ 140737488355328) (hr : Row w S 7 n (.slice A n c) (l.flatMap encMsg)) :
    Calls Tryz.prog 115 #[.slice A n c, .agg #[.int .u64 x.key, .string x.name, .string x.dest, .string x.id, .int .i64 x.till, .slice x.vA x.vN x.vC, .slice x.iA x.iN x.iC], .func (.func 116) #[] #[]] w fun e w' => ∃ A' c', e = .returned (.slice A' (putL cmpMsg x l).length c') ∧ w'.ownsRow w.heap.size 64 7 (.slice A' (putL cmpMsg x l).length c') (putL cmpMsg x l).length ((putL cmpMsg x l).flatMap encMsg) ∧ Below w.heap.size w w' := by
  obtain ⟨N, hN⟩ : ∃ N, N = (w.alloc (.cells #[.int .u64 x.key, .string x.name, .string x.dest, .string x.id, .int .i64 x.till, .slice x.vA x.vN x.vC, .slice x.iA x.iN x.iC] 64)).alloc (.cells #[.func (.func 116) #[] #[]] 149) := ⟨_, rfl⟩
  have b0 : N.heap[w.heap.size]? = some (.cells #[.int .u64 x.key, .string x.name, .string x.dest, .string x.id, .int .i64 x.till, .slice x.vA x.vN x.vC, .slice x.iA x.iN x.iC] 64 (0, 0)) := by rw [hN]; exact blk_alloc (blk_new _) _
  have b1 : N.heap[w.heap.size + 1]? = some (.cells #[.func (.func 116) #[] #[]] 149 (0, 0)) := by rw [hN]; exact blk_new_of _ (by simp)
  have hB : Below w.heap.size w N := by rw [hN]; exact below_alloc (below_alloc (Below.refl _ _) _) _
  have hsz : N.heap.size = w.heap.size + 2 := by rw [hN]; simp
  have HN := Lib.hid hN
  have HB := Lib.hid hB
  have HSZ := Lib.hid hsz
  have HP1 : Hid (∀ W, Below N.heap.size N W → ∀ y ∈ l, Calls Tryz.prog 177 (#[.agg #[.int .u64 y.key, .string y.name, .string y.dest, .string y.id, .int .i64 y.till, .slice y.vA y.vN y.vC, .slice y.iA y.iN y.iC]] ++ #[.pointer (some ⟨w.heap.size + 1, 0, none⟩), .pointer (some ⟨w.heap.size, 0, none⟩)]) W fun e w' => e = .returned (.bool (decide (cmpMsg y x = 0))) ∧ Below W.heap.size W w') :=
    Lib.hid (fun W hW y _ => put1_Msg _ _ y x W (cell_of_blk (block_below hW b1) 0) (block_below hW b0))
  have HP2 : Hid (∀ W, Below N.heap.size N W → ∀ y ∈ l, Calls Tryz.prog 178 (#[.agg #[.int .u64 y.key, .string y.name, .string y.dest, .string y.id, .int .i64 y.till, .slice y.vA y.vN y.vC, .slice y.iA y.iN y.iC]] ++ #[.pointer (some ⟨w.heap.size + 1, 0, none⟩), .pointer (some ⟨w.heap.size, 0, none⟩)]) W fun e w' => e = .returned (.bool (decide (0 < cmpMsg y x))) ∧ Below W.heap.size W w') :=
    Lib.hid (fun W hW y _ => put2_Msg _ _ y x W (cell_of_blk (block_below hW b1) 0) (block_below hW b0))
  have HCL := Lib.hid (clone_Msg A n c l N S hl (by omega) (hr.below (hB)))
  have e1 : ∀ args w, (callFunc 177 args).run Tryz.prog w = .ok (.enter 177 args) w := enters_of Tryz.func177 (by kernel_rfl) rfl
  have e2 : ∀ args w, (callFunc 178 args).run Tryz.prog w = .ok (.enter 178 args) w := enters_of Tryz.func178 (by kernel_rfl) rfl
  have E1 := Lib.hid e1
  have E2 := Lib.hid e2
  have HK := Lib.hid b0
  have HL := Lib.hid hl
  have HBY := Lib.hid hby
  obtain ⟨A0, c0, he0, hnc0, hcm0⟩ := hr.open_
  injection he0 with q1 _ q3
  subst q1 q3
  clear hN b0 b1 hB hr hsz e1 e2
  have HPL : Hid (putL cmpMsg x l = if 0 ≤ idxP (fun y => decide (cmpMsg y x = 0)) l then l.set (idxP (fun y => decide (cmpMsg y x = 0)) l).toNat x else l.take (spotL cmpMsg x l) ++ x :: l.drop (spotL cmpMsg x l)) := Lib.hid rfl
  generalize putL cmpMsg x l = L at *
  have hi1 := idxP_spec (fun y => decide (cmpMsg y x = 0)) l
  have hi2 := idxP_spec (fun y => decide (0 < cmpMsg y x)) l
  have HSP : Hid (spotL cmpMsg x l = if idxP (fun y => decide (0 < cmpMsg y x)) l < 0 then l.length else (idxP (fun y => decide (0 < cmpMsg y x)) l).toNat) := Lib.hid rfl
  rcases hi1 with ⟨h1, _⟩ | ⟨j, hj, h1, -, -⟩
  · -- a new one
    obtain ⟨sp, hsp⟩ : ∃ sp, sp = spotL cmpMsg x l := ⟨_, rfl⟩
    have hLe : Hid (L = l.take sp ++ x :: l.drop sp) := Lib.hid (by rw [HPL.out, h1, if_neg (by decide), hsp])
    have hspn : sp ≤ n := by rw [hsp, ← hl]; exact spotL_le _ _ _
    have HLe := hLe
    have hLL : L.length = n + 1 := by
      rw [hLe.out, List.length_append, List.length_cons, List.length_take, List.length_drop, hl]; omega
    have HINS : Hid (∀ (w5 : World) A5 c5, w5.ownsRow N.heap.size 64 7 (.slice A5 n c5) n (l.flatMap encMsg) → Below N.heap.size N w5 → Calls Tryz.prog 179 #[.slice A5 n c5, .int .i64 sp, .slice (some ⟨w5.heap.size, 0, none⟩) 1 1] (w5.alloc (.cells #[.int .u64 x.key, .string x.name, .string x.dest, .string x.id, .int .i64 x.till, .slice x.vA x.vN x.vC, .slice x.iA x.iN x.iC] 64)) fun e w' => ∃ A' c', e = .returned (.slice A' (n + 1) c') ∧ w'.ownsRow w.heap.size 64 7 (.slice A' (n + 1) c') (n + 1) (L.flatMap encMsg) ∧ Below w.heap.size w w') := Lib.hid (fun w5 A5 c5 hown hb5 => by
      have hb5s := hb5.size
      have hNs := HSZ.out
      refine (ins_one_Msg w.heap.size _ n sp w5.heap.size (l.flatMap encMsg) (encMsg x) w (w5.alloc (.cells #[.int .u64 x.key, .string x.name, .string x.dest, .string x.id, .int .i64 x.till, .slice x.vA x.vN x.vC, .slice x.iA x.iN x.iC] 64)) hspn ((own_base hown (by omega)).alloc _) (blk_new _) (fun g hg => by have := (hown.lt g hg).2; omega) rfl (oneMsg x) (flat_one oneMsg l) (below_alloc (below2 HB.out hb5) _) (by simp; omega) HBY.out).mono ?_
      rintro e w6 ⟨v6, rfl, hown6, hb6⟩
      rw [flat_ins (enc := encMsg) lenMsg, ← HLe.out] at hown6
      obtain ⟨A6, c6, rfl, _, _⟩ := (Row.of_own hown6).open_
      exact ⟨A6, c6, rfl, hown6, hb6⟩)
    rw [hLL]
    clear HPL hLe
    rcases hi2 with ⟨h2, _⟩ | ⟨j, hj, h2, -, -⟩
    · have hspv : sp = n := by rw [hsp, HSP.out, h2, if_pos (by decide), hl]
      subst hspv
      clear hsp HSP hLL
      go_enter Tryz.func115, Tryz.ntmps115
      go_wp2_with fail
      rw [show (w.alloc (.cells #[.int .u64 x.key, .string x.name, .string x.dest, .string x.id, .int .i64 x.till, .slice x.vA x.vN x.vC, .slice x.iA x.iN x.iC] 64)).alloc (.cells #[.func (.func 116) #[] #[]] 149) = N from HN.out.symm]
      go_wp2_with (go_at_call 31; refine HCL.out.mono ?_; rintro e w1 ⟨A1, c1, rfl, hown, hb⟩; have HO1 := Lib.hid hown; have HB1 := Lib.hid hb; obtain ⟨_, _, _, hnc1, hcm1⟩ := (Row.of_own hown).open_; clear hown hb)
      refine (idx_Msg _ _ _ 177 _ l _ N _ _ E1.out HL.out (Row.of_own HO1.out) HB1.out HP1.out).mono ?_
      rintro e w2 ⟨rfl, hb⟩
      rw [h1]
      have HB2 := Lib.hid (below2 HB1.out hb)
      have HO2 := Lib.hid (own_mut HO1.out (Mut.of_below hb (fun _ => False)) (fun _ _ h => h))
      clear hb
      go_wp2_with fail
      refine (idx_Msg _ _ _ 178 _ l _ N _ _ E2.out HL.out (Row.of_own HO2.out) HB2.out HP2.out).mono ?_
      rintro e w3 ⟨rfl, hb⟩
      rw [h2]
      have HB3 := Lib.hid (below2 HB2.out hb)
      have HO3 := Lib.hid (own_mut HO2.out (Mut.of_below hb (fun _ => False)) (fun _ _ h => h))
      have hk3 := block_below HB3.out HK.out
      have k0 := cell_of_blk hk3 0; have k1 := cell_of_blk hk3 1; have k2 := cell_of_blk hk3 2; have k3 := cell_of_blk hk3 3; have k4 := cell_of_blk hk3 4; have k5 := cell_of_blk hk3 5; have k6 := cell_of_blk hk3 6
      clear hb hk3
      go_wp2_with (go_at_call 179; refine (HINS.out _ _ _ HO3.out HB3.out).mono ?_; rintro e w4 ⟨A4, c4, rfl, hown, hb⟩; have HO4 := Lib.hid hown; have HB4 := Lib.hid hb; clear hown hb)
      go_ret
      exact ⟨A4, c4, rfl, HO4.out, HB4.out⟩
    · have hspv : sp = j := by rw [hsp, HSP.out, h2, if_neg (by omega)]; simp
      subst hspv
      have hj0 : ¬ ((sp : Int) < 0) := by omega
      clear hsp HSP hLL
      go_enter Tryz.func115, Tryz.ntmps115
      go_wp2_with fail
      rw [show (w.alloc (.cells #[.int .u64 x.key, .string x.name, .string x.dest, .string x.id, .int .i64 x.till, .slice x.vA x.vN x.vC, .slice x.iA x.iN x.iC] 64)).alloc (.cells #[.func (.func 116) #[] #[]] 149) = N from HN.out.symm]
      go_wp2_with (go_at_call 31; refine HCL.out.mono ?_; rintro e w1 ⟨A1, c1, rfl, hown, hb⟩; have HO1 := Lib.hid hown; have HB1 := Lib.hid hb; obtain ⟨_, _, _, hnc1, hcm1⟩ := (Row.of_own hown).open_; clear hown hb)
      refine (idx_Msg _ _ _ 177 _ l _ N _ _ E1.out HL.out (Row.of_own HO1.out) HB1.out HP1.out).mono ?_
      rintro e w2 ⟨rfl, hb⟩
      rw [h1]
      have HB2 := Lib.hid (below2 HB1.out hb)
      have HO2 := Lib.hid (own_mut HO1.out (Mut.of_below hb (fun _ => False)) (fun _ _ h => h))
      clear hb
      go_wp2_with fail
      refine (idx_Msg _ _ _ 178 _ l _ N _ _ E2.out HL.out (Row.of_own HO2.out) HB2.out HP2.out).mono ?_
      rintro e w3 ⟨rfl, hb⟩
      rw [h2]
      have HB3 := Lib.hid (below2 HB2.out hb)
      have HO3 := Lib.hid (own_mut HO2.out (Mut.of_below hb (fun _ => False)) (fun _ _ h => h))
      have hk3 := block_below HB3.out HK.out
      have k0 := cell_of_blk hk3 0; have k1 := cell_of_blk hk3 1; have k2 := cell_of_blk hk3 2; have k3 := cell_of_blk hk3 3; have k4 := cell_of_blk hk3 4; have k5 := cell_of_blk hk3 5; have k6 := cell_of_blk hk3 6
      clear hb hk3
      go_wp2_with (go_at_call 179; refine (HINS.out _ _ _ HO3.out HB3.out).mono ?_; rintro e w4 ⟨A4, c4, rfl, hown, hb⟩; have HO4 := Lib.hid hown; have HB4 := Lib.hid hb; clear hown hb)
      go_ret
      exact ⟨A4, c4, rfl, HO4.out, HB4.out⟩
  · -- one that is there
    have hLe : Hid (L = l.set j x) := Lib.hid (by rw [HPL.out, h1, if_pos (by omega)]; simp)
    have hLL : L.length = n := by rw [hLe.out, List.length_set, hl]
    have hjn : j < n := by omega
    have hj0 : (0 : Int) ≤ (j : Int) := by omega
    have HFS := Lib.hid (flat_splice (enc := encMsg) lenMsg hj x)
    have HVL : Hid ((l.flatMap encMsg).length = n * 7) := Lib.hid (by rw [flat_len (enc := encMsg) lenMsg, hl])
    rw [hLL]
    clear HPL hi2 HSP hj HP2
    go_enter Tryz.func115, Tryz.ntmps115
    go_wp2_with fail
    rw [show (w.alloc (.cells #[.int .u64 x.key, .string x.name, .string x.dest, .string x.id, .int .i64 x.till, .slice x.vA x.vN x.vC, .slice x.iA x.iN x.iC] 64)).alloc (.cells #[.func (.func 116) #[] #[]] 149) = N from HN.out.symm]
    go_wp2_with (go_at_call 31; refine HCL.out.mono ?_; rintro e w1 ⟨A1, c1, rfl, hown, hb⟩; have HO1 := Lib.hid hown; have HB1 := Lib.hid hb; obtain ⟨_, _, _, hnc1, hcm1⟩ := (Row.of_own hown).open_; clear hown hb)
    refine (idx_Msg _ _ _ 177 _ l _ N _ _ E1.out HL.out (Row.of_own HO1.out) HB1.out HP1.out).mono ?_
    rintro e w2 ⟨rfl, hb⟩
    rw [h1]
    have HB2 := Lib.hid (below2 HB1.out hb)
    have HO2 := Lib.hid (own_mut HO1.out (Mut.of_below hb (fun _ => False)) (fun _ _ h => h))
    have hk3 := block_below HB2.out HK.out
    have k0 := cell_of_blk hk3 0; have k1 := cell_of_blk hk3 1; have k2 := cell_of_blk hk3 2; have k3 := cell_of_blk hk3 3; have k4 := cell_of_blk hk3 4; have k5 := cell_of_blk hk3 5; have k6 := cell_of_blk hk3 6
    clear hb hk3
    obtain ⟨g, cap, cur, hv, hbg, hhg, hnc5, hcm5, hcs5, htk5⟩ := own_some HO2.out (by omega)
    injection hv with hv1 hv2 hv3
    subst hv1 hv3
    obtain ⟨u0, hu0⟩ : ∃ u, cur[j * 7]? = some u := ⟨_, Array.getElem?_eq_getElem (by omega)⟩; have j0 := (cell_of_blk hhg (j * 7)).trans hu0; have f0 := frozen_of_blk hhg (j * 7); clear hu0; obtain ⟨u1, hu1⟩ : ∃ u, cur[j * 7 + 1]? = some u := ⟨_, Array.getElem?_eq_getElem (by omega)⟩; have j1 := (cell_of_blk hhg (j * 7 + 1)).trans hu1; have f1 := frozen_of_blk hhg (j * 7 + 1); clear hu1; obtain ⟨u2, hu2⟩ : ∃ u, cur[j * 7 + 2]? = some u := ⟨_, Array.getElem?_eq_getElem (by omega)⟩; have j2 := (cell_of_blk hhg (j * 7 + 2)).trans hu2; have f2 := frozen_of_blk hhg (j * 7 + 2); clear hu2; obtain ⟨u3, hu3⟩ : ∃ u, cur[j * 7 + 3]? = some u := ⟨_, Array.getElem?_eq_getElem (by omega)⟩; have j3 := (cell_of_blk hhg (j * 7 + 3)).trans hu3; have f3 := frozen_of_blk hhg (j * 7 + 3); clear hu3; obtain ⟨u4, hu4⟩ : ∃ u, cur[j * 7 + 4]? = some u := ⟨_, Array.getElem?_eq_getElem (by omega)⟩; have j4 := (cell_of_blk hhg (j * 7 + 4)).trans hu4; have f4 := frozen_of_blk hhg (j * 7 + 4); clear hu4; obtain ⟨u5, hu5⟩ : ∃ u, cur[j * 7 + 5]? = some u := ⟨_, Array.getElem?_eq_getElem (by omega)⟩; have j5 := (cell_of_blk hhg (j * 7 + 5)).trans hu5; have f5 := frozen_of_blk hhg (j * 7 + 5); clear hu5; obtain ⟨u6, hu6⟩ : ∃ u, cur[j * 7 + 6]? = some u := ⟨_, Array.getElem?_eq_getElem (by omega)⟩; have j6 := (cell_of_blk hhg (j * 7 + 6)).trans hu6; have f6 := frozen_of_blk hhg (j * 7 + 6); clear hu6
    have HG := Lib.hid hhg
    have HTK := Lib.hid htk5
    have HCS := Lib.hid hcs5
    have HBG := Lib.hid hbg
    have HCM := Lib.hid hcm5
    clear hhg htk5 hcs5 hbg hcm5
    go_wp2_with fail
    go_ret
    have hg2 := set_blk (o := j * 7 + 6) (set_blk (o := j * 7 + 5) (set_blk (o := j * 7 + 4) (set_blk (o := j * 7 + 3) (set_blk (o := j * 7 + 2) (set_blk (o := j * 7 + 1) (set_blk (o := j * 7) (HG.out) (.int .u64 x.key)) (.string x.name)) (.string x.dest)) (.string x.id)) (.int .i64 x.till)) (.slice x.vA x.vN x.vC)) (.slice x.iA x.iN x.iC)
    have hbg := HBG.out
    have hNs := HSZ.out
    refine ⟨_, _, rfl, ?_, ?_⟩
    · refine ⟨by rw [flat_len (enc := encMsg) lenMsg, hLL], .inr ⟨g, _, _, rfl, by omega, hg2, hnc5, HCM.out, by simp only [Array.size_setIfInBounds]; have := HCS.out; omega, ?_⟩⟩
      rw [hLe.out, ← HFS.out, ← setAll_splice _ _ _ (by rw [HVL.out, lenMsg]; omega), ← HTK.out]
      simp only [Array.toList_setIfInBounds, List.take_set]
      rfl
    · exact ((((((((below2 HB.out HB2.out)).setCell (p := ⟨g, j * 7, none⟩) (by show _ ≤ g; omega) _).setCell (p := ⟨g, j * 7 + 1, none⟩) (by show _ ≤ g; omega) _).setCell (p := ⟨g, j * 7 + 2, none⟩) (by show _ ≤ g; omega) _).setCell (p := ⟨g, j * 7 + 3, none⟩) (by show _ ≤ g; omega) _).setCell (p := ⟨g, j * 7 + 4, none⟩) (by show _ ≤ g; omega) _).setCell (p := ⟨g, j * 7 + 5, none⟩) (by show _ ≤ g; omega) _).setCell (p := ⟨g, j * 7 + 6, none⟩) (by show _ ≤ g; omega) _
end Go.Proofs.YtgpkmellpllmgaaGreat
/-
  fold.deployed. Printed by gfold2.py.
-/
set_option linter.unusedVariables false
set_option linter.unusedSimpArgs false
namespace Go.Proofs.YtgpkmellpllmgaaGreat
open Go Go.RowKit Go.Proofs.Base
open Go.Sort (grow)
set_option maxRecDepth 100000 in
set_option maxHeartbeats 4000000 in
theorem ev_deployed (Pp Dd Mm : Int) (A3 : Option Addr) (n3 c3 : Nat) (A4 : Option Addr) (n4 c4 : Nat) (A5 : Option Addr) (n5 c5 : Nat) (A6 : Option Addr) (n6 c6 : Nat) (A7 : Option Addr) (n7 c7 : Nat) (A8 : Option Addr) (n8 c8 : Nat) (A9 : Option Addr) (n9 c9 : Nat) (A10 : Option Addr) (n10 c10 : Nat) (A11 : Option Addr) (n11 c11 : Nat) (r : GRec) (vA : Option Addr) (vN vC : Nat) (l : List EProc) (w : World) (S : Nat → Prop) (hl : l.length = n3) (hby : (n3 + 1) * 32 ≤ 140737488355328) (hr : Row w S 2 n3 (.slice A3 n3 c3) (l.flatMap encProc)) :
    Calls Tryz.prog 54 #[.agg #[.int .u64 Pp, .int .u64 Dd, .int .u64 Mm, .slice A3 n3 c3, .slice A4 n4 c4, .slice A5 n5 c5, .slice A6 n6 c6, .slice A7 n7 c7, .slice A8 n8 c8, .slice A9 n9 c9, .slice A10 n10 c10, .slice A11 n11 c11], .agg #[.int .i64 r.cls, .int .i64 r.kind, .int .u64 r.frm, .int .i64 r.time, .int .u64 r.key, .int .u64 r.key2, .int .u64 r.key3, .int .i64 r.n, .int .i64 r.m, .string r.a, .string r.b, .string r.c, .slice vA vN vC]] w fun e w' => ∃ A' c' Ln, e = .returned (.agg #[.int .u64 Pp, .int .u64 Dd, .int .u64 Mm, .slice A' Ln c', .slice A4 n4 c4, .slice A5 n5 c5, .slice A6 n6 c6, .slice A7 n7 c7, .slice A8 n8 c8, .slice A9 n9 c9, .slice A10 n10 c10, .slice A11 n11 c11]) ∧ Ln = (putL cmpProc ⟨r.a, r.b⟩ l).length ∧ w'.ownsRow w.heap.size 70 2 (.slice A' Ln c') Ln ((putL cmpProc ⟨r.a, r.b⟩ l).flatMap encProc) ∧ Below w.heap.size w w' := by
  obtain ⟨N, hN⟩ : ∃ N, N = ((w.alloc (.cells #[.int .u64 Pp, .int .u64 Dd, .int .u64 Mm, .slice A3 n3 c3, .slice A4 n4 c4, .slice A5 n5 c5, .slice A6 n6 c6, .slice A7 n7 c7, .slice A8 n8 c8, .slice A9 n9 c9, .slice A10 n10 c10, .slice A11 n11 c11] 35)).alloc (.cells #[.int .i64 r.cls, .int .i64 r.kind, .int .u64 r.frm, .int .i64 r.time, .int .u64 r.key, .int .u64 r.key2, .int .u64 r.key3, .int .i64 r.n, .int .i64 r.m, .string r.a, .string r.b, .string r.c, .slice vA vN vC] 39)).alloc (.cells #[.int .u64 0, .int .u64 0, .int .u64 0, .slice none 0 0, .slice none 0 0, .slice none 0 0, .slice none 0 0, .slice none 0 0, .slice none 0 0, .slice none 0 0, .slice none 0 0, .slice none 0 0] 35) := ⟨_, rfl⟩
  have b0 : N.heap[w.heap.size]? = some (.cells #[.int .u64 Pp, .int .u64 Dd, .int .u64 Mm, .slice A3 n3 c3, .slice A4 n4 c4, .slice A5 n5 c5, .slice A6 n6 c6, .slice A7 n7 c7, .slice A8 n8 c8, .slice A9 n9 c9, .slice A10 n10 c10, .slice A11 n11 c11] 35 (0, 0)) := by rw [hN]; exact blk_alloc (blk_alloc (blk_new _) _) _
  have b1 : recB N (w.heap.size + 1) r vA vN vC := by rw [hN]; exact blk_alloc (blk_new_of _ (by simp)) _
  have b2 : N.heap[w.heap.size + 1 + 1]? = some (.cells #[.int .u64 0, .int .u64 0, .int .u64 0, .slice none 0 0, .slice none 0 0, .slice none 0 0, .slice none 0 0, .slice none 0 0, .slice none 0 0, .slice none 0 0, .slice none 0 0, .slice none 0 0] 35 (0, 0)) := by rw [hN]; exact blk_new_of _ (by simp)
  have hB : Below w.heap.size w N := by rw [hN]; exact below_alloc (below_alloc (below_alloc (Below.refl _ _) _) _) _
  have hsz : N.heap.size = w.heap.size + 3 := by rw [hN]; simp
  have HN := Lib.hid hN
  have HB := Lib.hid hB
  have HSZ := Lib.hid hsz
  have K0 := Lib.hid b0
  have K1 := Lib.hid b1
  have K2 := Lib.hid b2
  have HPUT := Lib.hid (put_Proc A3 n3 c3 ⟨r.a, r.b⟩ l N S hl hby (hr.below hB))
  clear hN hB hsz b0 b1 b2 hr hl
  have k0 := K0.out
  have k1 := K1.out
  go_enter Tryz.func54, Tryz.ntmps54
  go_wp2_with fail
  rw [show ((w.alloc (.cells #[.int .u64 Pp, .int .u64 Dd, .int .u64 Mm, .slice A3 n3 c3, .slice A4 n4 c4, .slice A5 n5 c5, .slice A6 n6 c6, .slice A7 n7 c7, .slice A8 n8 c8, .slice A9 n9 c9, .slice A10 n10 c10, .slice A11 n11 c11] 35)).alloc (.cells #[.int .i64 r.cls, .int .i64 r.kind, .int .u64 r.frm, .int .i64 r.time, .int .u64 r.key, .int .u64 r.key2, .int .u64 r.key3, .int .i64 r.n, .int .i64 r.m, .string r.a, .string r.b, .string r.c, .slice vA vN vC] 39)).alloc (.cells #[.int .u64 0, .int .u64 0, .int .u64 0, .slice none 0 0, .slice none 0 0, .slice none 0 0, .slice none 0 0, .slice none 0 0, .slice none 0 0, .slice none 0 0, .slice none 0 0, .slice none 0 0] 35) = N from HN.out.symm]
  have s0 := cell_of_blk k0 0
  have s1 := cell_of_blk k0 1
  have s2 := cell_of_blk k0 2
  have s3 := cell_of_blk k0 3
  have s4 := cell_of_blk k0 4
  have s5 := cell_of_blk k0 5
  have s6 := cell_of_blk k0 6
  have s7 := cell_of_blk k0 7
  have s8 := cell_of_blk k0 8
  have s9 := cell_of_blk k0 9
  have s10 := cell_of_blk k0 10
  have s11 := cell_of_blk k0 11
  have q0 := cell_of_blk k1 0
  have q1 := cell_of_blk k1 1
  have q2 := cell_of_blk k1 2
  have q3 := cell_of_blk k1 3
  have q4 := cell_of_blk k1 4
  have q5 := cell_of_blk k1 5
  have q6 := cell_of_blk k1 6
  have q7 := cell_of_blk k1 7
  have q8 := cell_of_blk k1 8
  have q9 := cell_of_blk k1 9
  have q10 := cell_of_blk k1 10
  have q11 := cell_of_blk k1 11
  have q12 := cell_of_blk k1 12
  clear k0 k1
  go_wp2_with fail
  refine HPUT.out.mono ?_
  rintro e w1 ⟨A', c', rfl, hown, hb⟩
  generalize hLn : (putL cmpProc ⟨r.a, r.b⟩ l).length = Ln at *
  have HLN := Lib.hid hLn
  have HO := Lib.hid hown
  have HWB := Lib.hid (below2 HB.out hb)
  have k0 := block_below hb K0.out
  have k2 := block_below hb K2.out
  clear hLn hown s0 s1 s2 s3 s4 s5 s6 s7 s8 s9 s10 s11 q0 q1 q2 q3 q4 q5 q6 q7 q8 q9 q10 q11 q12
  have s0 := cell_of_blk k0 0
  have s1 := cell_of_blk k0 1
  have s2 := cell_of_blk k0 2
  have s3 := cell_of_blk k0 3
  have s4 := cell_of_blk k0 4
  have s5 := cell_of_blk k0 5
  have s6 := cell_of_blk k0 6
  have s7 := cell_of_blk k0 7
  have s8 := cell_of_blk k0 8
  have s9 := cell_of_blk k0 9
  have s10 := cell_of_blk k0 10
  have s11 := cell_of_blk k0 11
  have f0 := frozen_of_blk k0 0
  have f1 := frozen_of_blk k0 1
  have f2 := frozen_of_blk k0 2
  have f3 := frozen_of_blk k0 3
  have f4 := frozen_of_blk k0 4
  have f5 := frozen_of_blk k0 5
  have f6 := frozen_of_blk k0 6
  have f7 := frozen_of_blk k0 7
  have f8 := frozen_of_blk k0 8
  have f9 := frozen_of_blk k0 9
  have f10 := frozen_of_blk k0 10
  have f11 := frozen_of_blk k0 11
  have z0 := cell_of_blk k2 0
  have z1 := cell_of_blk k2 1
  have z2 := cell_of_blk k2 2
  have z3 := cell_of_blk k2 3
  have z4 := cell_of_blk k2 4
  have z5 := cell_of_blk k2 5
  have z6 := cell_of_blk k2 6
  have z7 := cell_of_blk k2 7
  have z8 := cell_of_blk k2 8
  have z9 := cell_of_blk k2 9
  have z10 := cell_of_blk k2 10
  have z11 := cell_of_blk k2 11
  have g0 := frozen_of_blk k2 0
  have g1 := frozen_of_blk k2 1
  have g2 := frozen_of_blk k2 2
  have g3 := frozen_of_blk k2 3
  have g4 := frozen_of_blk k2 4
  have g5 := frozen_of_blk k2 5
  have g6 := frozen_of_blk k2 6
  have g7 := frozen_of_blk k2 7
  have g8 := frozen_of_blk k2 8
  have g9 := frozen_of_blk k2 9
  have g10 := frozen_of_blk k2 10
  have g11 := frozen_of_blk k2 11
  have KZ := Lib.hid k2
  have KS := Lib.hid k0
  clear hb k0 k2
  go_wp2_with fail
  generalize hWE : World.setCell (World.setCell (World.setCell (World.setCell (World.setCell (World.setCell (World.setCell (World.setCell (World.setCell (World.setCell (World.setCell (World.setCell (World.setCell (_) _ _) _ _) _ _) _ _) _ _) _ _) _ _) _ _) _ _) _ _) _ _) _ _) _ _ = WE
  have ho : WE.heap[w.heap.size + 1 + 1]? = some (.cells #[.int .u64 Pp, .int .u64 Dd, .int .u64 Mm, .slice A' Ln c', .slice A4 n4 c4, .slice A5 n5 c5, .slice A6 n6 c6, .slice A7 n7 c7, .slice A8 n8 c8, .slice A9 n9 c9, .slice A10 n10 c10, .slice A11 n11 c11] 35 (0, 0)) := by rw [← hWE]; exact set_blk12 (blk_set_other (b := w.heap.size) (o := 3) (KZ.out) (by omega)) (.int .u64 Pp) (.int .u64 Dd) (.int .u64 Mm) (.slice A' Ln c') (.slice A4 n4 c4) (.slice A5 n5 c5) (.slice A6 n6 c6) (.slice A7 n7 c7) (.slice A8 n8 c8) (.slice A9 n9 c9) (.slice A10 n10 c10) (.slice A11 n11 c11)
  have hbe : Below w.heap.size w WE := by rw [← hWE]; exact (((((((((((((HWB.out).setCell (p := ⟨w.heap.size, 3, none⟩) (Nat.le_refl _) _).setCell (p := ⟨w.heap.size + 1 + 1, 0, none⟩) (by show _ ≤ _ + 1 + 1; omega) _).setCell (p := ⟨w.heap.size + 1 + 1, 1, none⟩) (by show _ ≤ _ + 1 + 1; omega) _).setCell (p := ⟨w.heap.size + 1 + 1, 2, none⟩) (by show _ ≤ _ + 1 + 1; omega) _).setCell (p := ⟨w.heap.size + 1 + 1, 3, none⟩) (by show _ ≤ _ + 1 + 1; omega) _).setCell (p := ⟨w.heap.size + 1 + 1, 4, none⟩) (by show _ ≤ _ + 1 + 1; omega) _).setCell (p := ⟨w.heap.size + 1 + 1, 5, none⟩) (by show _ ≤ _ + 1 + 1; omega) _).setCell (p := ⟨w.heap.size + 1 + 1, 6, none⟩) (by show _ ≤ _ + 1 + 1; omega) _).setCell (p := ⟨w.heap.size + 1 + 1, 7, none⟩) (by show _ ≤ _ + 1 + 1; omega) _).setCell (p := ⟨w.heap.size + 1 + 1, 8, none⟩) (by show _ ≤ _ + 1 + 1; omega) _).setCell (p := ⟨w.heap.size + 1 + 1, 9, none⟩) (by show _ ≤ _ + 1 + 1; omega) _).setCell (p := ⟨w.heap.size + 1 + 1, 10, none⟩) (by show _ ≤ _ + 1 + 1; omega) _).setCell (p := ⟨w.heap.size + 1 + 1, 11, none⟩) (by show _ ≤ _ + 1 + 1; omega) _
  have hmu : Mut (fun b => b = w.heap.size ∨ b = w.heap.size + 1 + 1) w1 WE := by
    rw [← hWE]
    exact Mut.setCell (T := fun b => b = w.heap.size ∨ b = w.heap.size + 1 + 1) (Mut.setCell (T := fun b => b = w.heap.size ∨ b = w.heap.size + 1 + 1) (Mut.setCell (T := fun b => b = w.heap.size ∨ b = w.heap.size + 1 + 1) (Mut.setCell (T := fun b => b = w.heap.size ∨ b = w.heap.size + 1 + 1) (Mut.setCell (T := fun b => b = w.heap.size ∨ b = w.heap.size + 1 + 1) (Mut.setCell (T := fun b => b = w.heap.size ∨ b = w.heap.size + 1 + 1) (Mut.setCell (T := fun b => b = w.heap.size ∨ b = w.heap.size + 1 + 1) (Mut.setCell (T := fun b => b = w.heap.size ∨ b = w.heap.size + 1 + 1) (Mut.setCell (T := fun b => b = w.heap.size ∨ b = w.heap.size + 1 + 1) (Mut.setCell (T := fun b => b = w.heap.size ∨ b = w.heap.size + 1 + 1) (Mut.setCell (T := fun b => b = w.heap.size ∨ b = w.heap.size + 1 + 1) (Mut.setCell (T := fun b => b = w.heap.size ∨ b = w.heap.size + 1 + 1) (Mut.setCell (T := fun b => b = w.heap.size ∨ b = w.heap.size + 1 + 1) (Mut.refl _ _) (p := ⟨w.heap.size, 3, none⟩) (fun _ => .inl rfl) _) (p := ⟨w.heap.size + 1 + 1, 0, none⟩) (fun _ => .inr rfl) _) (p := ⟨w.heap.size + 1 + 1, 1, none⟩) (fun _ => .inr rfl) _) (p := ⟨w.heap.size + 1 + 1, 2, none⟩) (fun _ => .inr rfl) _) (p := ⟨w.heap.size + 1 + 1, 3, none⟩) (fun _ => .inr rfl) _) (p := ⟨w.heap.size + 1 + 1, 4, none⟩) (fun _ => .inr rfl) _) (p := ⟨w.heap.size + 1 + 1, 5, none⟩) (fun _ => .inr rfl) _) (p := ⟨w.heap.size + 1 + 1, 6, none⟩) (fun _ => .inr rfl) _) (p := ⟨w.heap.size + 1 + 1, 7, none⟩) (fun _ => .inr rfl) _) (p := ⟨w.heap.size + 1 + 1, 8, none⟩) (fun _ => .inr rfl) _) (p := ⟨w.heap.size + 1 + 1, 9, none⟩) (fun _ => .inr rfl) _) (p := ⟨w.heap.size + 1 + 1, 10, none⟩) (fun _ => .inr rfl) _) (p := ⟨w.heap.size + 1 + 1, 11, none⟩) (fun _ => .inr rfl) _
  have r0 := cell_of_blk ho 0
  have r1 := cell_of_blk ho 1
  have r2 := cell_of_blk ho 2
  have r3 := cell_of_blk ho 3
  have r4 := cell_of_blk ho 4
  have r5 := cell_of_blk ho 5
  have r6 := cell_of_blk ho 6
  have r7 := cell_of_blk ho 7
  have r8 := cell_of_blk ho 8
  have r9 := cell_of_blk ho 9
  have r10 := cell_of_blk ho 10
  have r11 := cell_of_blk ho 11
  have hNs := HSZ.out
  have hon := own_base (own_mut HO.out hmu (fun b hb h => by have := (HO.out.lt b hb).1; omega)) (show w.heap.size ≤ N.heap.size by omega)
  refine bodyPost_ret (v := .agg #[.int .u64 Pp, .int .u64 Dd, .int .u64 Mm, .slice A' Ln c', .slice A4 n4 c4, .slice A5 n5 c5, .slice A6 n6 c6, .slice A7 n7 c7, .slice A8 n8 c8, .slice A9 n9 c9, .slice A10 n10 c10, .slice A11 n11 c11]) (by simp [results, Tryz.results54, go_sem, r0, r1, r2, r3, r4, r5, r6, r7, r8, r9, r10, r11]) rfl ⟨A', c', Ln, rfl, HLN.out.symm, hon, hbe⟩
end Go.Proofs.YtgpkmellpllmgaaGreat
/-
  fold.entered. Printed by gfold2.py.
-/
set_option linter.unusedVariables false
set_option linter.unusedSimpArgs false
namespace Go.Proofs.YtgpkmellpllmgaaGreat
open Go Go.RowKit Go.Proofs.Base
open Go.Sort (grow)
set_option maxRecDepth 100000 in
set_option maxHeartbeats 4000000 in
theorem ev_entered (Pp Dd Mm : Int) (A3 : Option Addr) (n3 c3 : Nat) (A4 : Option Addr) (n4 c4 : Nat) (A5 : Option Addr) (n5 c5 : Nat) (A6 : Option Addr) (n6 c6 : Nat) (A7 : Option Addr) (n7 c7 : Nat) (A8 : Option Addr) (n8 c8 : Nat) (A9 : Option Addr) (n9 c9 : Nat) (A10 : Option Addr) (n10 c10 : Nat) (A11 : Option Addr) (n11 c11 : Nat) (r : GRec) (vA : Option Addr) (vN vC : Nat) (l : List ETok) (w : World) (S : Nat → Prop) (hl : l.length = n5) (hby : (n5 + 1) * 56 ≤ 140737488355328) (hr : Row w S 6 n5 (.slice A5 n5 c5) (l.flatMap encTok)) :
    Calls Tryz.prog 56 #[.agg #[.int .u64 Pp, .int .u64 Dd, .int .u64 Mm, .slice A3 n3 c3, .slice A4 n4 c4, .slice A5 n5 c5, .slice A6 n6 c6, .slice A7 n7 c7, .slice A8 n8 c8, .slice A9 n9 c9, .slice A10 n10 c10, .slice A11 n11 c11], .agg #[.int .i64 r.cls, .int .i64 r.kind, .int .u64 r.frm, .int .i64 r.time, .int .u64 r.key, .int .u64 r.key2, .int .u64 r.key3, .int .i64 r.n, .int .i64 r.m, .string r.a, .string r.b, .string r.c, .slice vA vN vC]] w fun e w' => ∃ A' c' Ln, e = .returned (.agg #[.int .u64 Pp, .int .u64 Dd, .int .u64 (IntKind.u64.wrap (Mm + 1)), .slice A3 n3 c3, .slice A4 n4 c4, .slice A' Ln c', .slice A6 n6 c6, .slice A7 n7 c7, .slice A8 n8 c8, .slice A9 n9 c9, .slice A10 n10 c10, .slice A11 n11 c11]) ∧ Ln = (putL cmpTok ⟨r.key, r.key2, r.key3, r.n, r.m, ⟨#[]⟩⟩ l).length ∧ w'.ownsRow w.heap.size 42 6 (.slice A' Ln c') Ln ((putL cmpTok ⟨r.key, r.key2, r.key3, r.n, r.m, ⟨#[]⟩⟩ l).flatMap encTok) ∧ Below w.heap.size w w' := by
  obtain ⟨N, hN⟩ : ∃ N, N = ((w.alloc (.cells #[.int .u64 Pp, .int .u64 Dd, .int .u64 Mm, .slice A3 n3 c3, .slice A4 n4 c4, .slice A5 n5 c5, .slice A6 n6 c6, .slice A7 n7 c7, .slice A8 n8 c8, .slice A9 n9 c9, .slice A10 n10 c10, .slice A11 n11 c11] 35)).alloc (.cells #[.int .i64 r.cls, .int .i64 r.kind, .int .u64 r.frm, .int .i64 r.time, .int .u64 r.key, .int .u64 r.key2, .int .u64 r.key3, .int .i64 r.n, .int .i64 r.m, .string r.a, .string r.b, .string r.c, .slice vA vN vC] 39)).alloc (.cells #[.int .u64 0, .int .u64 0, .int .u64 0, .slice none 0 0, .slice none 0 0, .slice none 0 0, .slice none 0 0, .slice none 0 0, .slice none 0 0, .slice none 0 0, .slice none 0 0, .slice none 0 0] 35) := ⟨_, rfl⟩
  have b0 : N.heap[w.heap.size]? = some (.cells #[.int .u64 Pp, .int .u64 Dd, .int .u64 Mm, .slice A3 n3 c3, .slice A4 n4 c4, .slice A5 n5 c5, .slice A6 n6 c6, .slice A7 n7 c7, .slice A8 n8 c8, .slice A9 n9 c9, .slice A10 n10 c10, .slice A11 n11 c11] 35 (0, 0)) := by rw [hN]; exact blk_alloc (blk_alloc (blk_new _) _) _
  have b1 : recB N (w.heap.size + 1) r vA vN vC := by rw [hN]; exact blk_alloc (blk_new_of _ (by simp)) _
  have b2 : N.heap[w.heap.size + 1 + 1]? = some (.cells #[.int .u64 0, .int .u64 0, .int .u64 0, .slice none 0 0, .slice none 0 0, .slice none 0 0, .slice none 0 0, .slice none 0 0, .slice none 0 0, .slice none 0 0, .slice none 0 0, .slice none 0 0] 35 (0, 0)) := by rw [hN]; exact blk_new_of _ (by simp)
  have hB : Below w.heap.size w N := by rw [hN]; exact below_alloc (below_alloc (below_alloc (Below.refl _ _) _) _) _
  have hsz : N.heap.size = w.heap.size + 3 := by rw [hN]; simp
  have HN := Lib.hid hN
  have HB := Lib.hid hB
  have HSZ := Lib.hid hsz
  have K0 := Lib.hid b0
  have K1 := Lib.hid b1
  have K2 := Lib.hid b2
  have HPUT := Lib.hid (put_Tok A5 n5 c5 ⟨r.key, r.key2, r.key3, r.n, r.m, ⟨#[]⟩⟩ l N S hl hby (hr.below hB))
  clear hN hB hsz b0 b1 b2 hr hl
  have k0 := K0.out
  have k1 := K1.out
  go_enter Tryz.func56, Tryz.ntmps56
  go_wp2_with fail
  rw [show ((w.alloc (.cells #[.int .u64 Pp, .int .u64 Dd, .int .u64 Mm, .slice A3 n3 c3, .slice A4 n4 c4, .slice A5 n5 c5, .slice A6 n6 c6, .slice A7 n7 c7, .slice A8 n8 c8, .slice A9 n9 c9, .slice A10 n10 c10, .slice A11 n11 c11] 35)).alloc (.cells #[.int .i64 r.cls, .int .i64 r.kind, .int .u64 r.frm, .int .i64 r.time, .int .u64 r.key, .int .u64 r.key2, .int .u64 r.key3, .int .i64 r.n, .int .i64 r.m, .string r.a, .string r.b, .string r.c, .slice vA vN vC] 39)).alloc (.cells #[.int .u64 0, .int .u64 0, .int .u64 0, .slice none 0 0, .slice none 0 0, .slice none 0 0, .slice none 0 0, .slice none 0 0, .slice none 0 0, .slice none 0 0, .slice none 0 0, .slice none 0 0] 35) = N from HN.out.symm]
  have s0 := cell_of_blk k0 0
  have s1 := cell_of_blk k0 1
  have s2 := cell_of_blk k0 2
  have s3 := cell_of_blk k0 3
  have s4 := cell_of_blk k0 4
  have s5 := cell_of_blk k0 5
  have s6 := cell_of_blk k0 6
  have s7 := cell_of_blk k0 7
  have s8 := cell_of_blk k0 8
  have s9 := cell_of_blk k0 9
  have s10 := cell_of_blk k0 10
  have s11 := cell_of_blk k0 11
  have q0 := cell_of_blk k1 0
  have q1 := cell_of_blk k1 1
  have q2 := cell_of_blk k1 2
  have q3 := cell_of_blk k1 3
  have q4 := cell_of_blk k1 4
  have q5 := cell_of_blk k1 5
  have q6 := cell_of_blk k1 6
  have q7 := cell_of_blk k1 7
  have q8 := cell_of_blk k1 8
  have q9 := cell_of_blk k1 9
  have q10 := cell_of_blk k1 10
  have q11 := cell_of_blk k1 11
  have q12 := cell_of_blk k1 12
  clear k0 k1
  go_wp2_with fail
  refine HPUT.out.mono ?_
  rintro e w1 ⟨A', c', rfl, hown, hb⟩
  generalize hLn : (putL cmpTok ⟨r.key, r.key2, r.key3, r.n, r.m, ⟨#[]⟩⟩ l).length = Ln at *
  have HLN := Lib.hid hLn
  have HO := Lib.hid hown
  have HWB := Lib.hid (below2 HB.out hb)
  have k0 := block_below hb K0.out
  have k2 := block_below hb K2.out
  clear hLn hown s0 s1 s2 s3 s4 s5 s6 s7 s8 s9 s10 s11 q0 q1 q2 q3 q4 q5 q6 q7 q8 q9 q10 q11 q12
  have s0 := cell_of_blk k0 0
  have s1 := cell_of_blk k0 1
  have s2 := cell_of_blk k0 2
  have s3 := cell_of_blk k0 3
  have s4 := cell_of_blk k0 4
  have s5 := cell_of_blk k0 5
  have s6 := cell_of_blk k0 6
  have s7 := cell_of_blk k0 7
  have s8 := cell_of_blk k0 8
  have s9 := cell_of_blk k0 9
  have s10 := cell_of_blk k0 10
  have s11 := cell_of_blk k0 11
  have f0 := frozen_of_blk k0 0
  have f1 := frozen_of_blk k0 1
  have f2 := frozen_of_blk k0 2
  have f3 := frozen_of_blk k0 3
  have f4 := frozen_of_blk k0 4
  have f5 := frozen_of_blk k0 5
  have f6 := frozen_of_blk k0 6
  have f7 := frozen_of_blk k0 7
  have f8 := frozen_of_blk k0 8
  have f9 := frozen_of_blk k0 9
  have f10 := frozen_of_blk k0 10
  have f11 := frozen_of_blk k0 11
  have z0 := cell_of_blk k2 0
  have z1 := cell_of_blk k2 1
  have z2 := cell_of_blk k2 2
  have z3 := cell_of_blk k2 3
  have z4 := cell_of_blk k2 4
  have z5 := cell_of_blk k2 5
  have z6 := cell_of_blk k2 6
  have z7 := cell_of_blk k2 7
  have z8 := cell_of_blk k2 8
  have z9 := cell_of_blk k2 9
  have z10 := cell_of_blk k2 10
  have z11 := cell_of_blk k2 11
  have g0 := frozen_of_blk k2 0
  have g1 := frozen_of_blk k2 1
  have g2 := frozen_of_blk k2 2
  have g3 := frozen_of_blk k2 3
  have g4 := frozen_of_blk k2 4
  have g5 := frozen_of_blk k2 5
  have g6 := frozen_of_blk k2 6
  have g7 := frozen_of_blk k2 7
  have g8 := frozen_of_blk k2 8
  have g9 := frozen_of_blk k2 9
  have g10 := frozen_of_blk k2 10
  have g11 := frozen_of_blk k2 11
  have KZ := Lib.hid k2
  have KS := Lib.hid k0
  clear hb k0 k2
  go_wp2_with fail
  generalize hWE : World.setCell (World.setCell (World.setCell (World.setCell (World.setCell (World.setCell (World.setCell (World.setCell (World.setCell (World.setCell (World.setCell (World.setCell (World.setCell (World.setCell (_) _ _) _ _) _ _) _ _) _ _) _ _) _ _) _ _) _ _) _ _) _ _) _ _) _ _) _ _ = WE
  have ho : WE.heap[w.heap.size + 1 + 1]? = some (.cells #[.int .u64 Pp, .int .u64 Dd, .int .u64 (IntKind.u64.wrap (Mm + 1)), .slice A3 n3 c3, .slice A4 n4 c4, .slice A' Ln c', .slice A6 n6 c6, .slice A7 n7 c7, .slice A8 n8 c8, .slice A9 n9 c9, .slice A10 n10 c10, .slice A11 n11 c11] 35 (0, 0)) := by rw [← hWE]; exact set_blk12 (blk_set_other (b := w.heap.size) (o := 2) (blk_set_other (b := w.heap.size) (o := 5) (KZ.out) (by omega)) (by omega)) (.int .u64 Pp) (.int .u64 Dd) (.int .u64 (IntKind.u64.wrap (Mm + 1))) (.slice A3 n3 c3) (.slice A4 n4 c4) (.slice A' Ln c') (.slice A6 n6 c6) (.slice A7 n7 c7) (.slice A8 n8 c8) (.slice A9 n9 c9) (.slice A10 n10 c10) (.slice A11 n11 c11)
  have hbe : Below w.heap.size w WE := by rw [← hWE]; exact ((((((((((((((HWB.out).setCell (p := ⟨w.heap.size, 5, none⟩) (Nat.le_refl _) _).setCell (p := ⟨w.heap.size, 2, none⟩) (Nat.le_refl _) _).setCell (p := ⟨w.heap.size + 1 + 1, 0, none⟩) (by show _ ≤ _ + 1 + 1; omega) _).setCell (p := ⟨w.heap.size + 1 + 1, 1, none⟩) (by show _ ≤ _ + 1 + 1; omega) _).setCell (p := ⟨w.heap.size + 1 + 1, 2, none⟩) (by show _ ≤ _ + 1 + 1; omega) _).setCell (p := ⟨w.heap.size + 1 + 1, 3, none⟩) (by show _ ≤ _ + 1 + 1; omega) _).setCell (p := ⟨w.heap.size + 1 + 1, 4, none⟩) (by show _ ≤ _ + 1 + 1; omega) _).setCell (p := ⟨w.heap.size + 1 + 1, 5, none⟩) (by show _ ≤ _ + 1 + 1; omega) _).setCell (p := ⟨w.heap.size + 1 + 1, 6, none⟩) (by show _ ≤ _ + 1 + 1; omega) _).setCell (p := ⟨w.heap.size + 1 + 1, 7, none⟩) (by show _ ≤ _ + 1 + 1; omega) _).setCell (p := ⟨w.heap.size + 1 + 1, 8, none⟩) (by show _ ≤ _ + 1 + 1; omega) _).setCell (p := ⟨w.heap.size + 1 + 1, 9, none⟩) (by show _ ≤ _ + 1 + 1; omega) _).setCell (p := ⟨w.heap.size + 1 + 1, 10, none⟩) (by show _ ≤ _ + 1 + 1; omega) _).setCell (p := ⟨w.heap.size + 1 + 1, 11, none⟩) (by show _ ≤ _ + 1 + 1; omega) _
  have hmu : Mut (fun b => b = w.heap.size ∨ b = w.heap.size + 1 + 1) w1 WE := by
    rw [← hWE]
    exact Mut.setCell (T := fun b => b = w.heap.size ∨ b = w.heap.size + 1 + 1) (Mut.setCell (T := fun b => b = w.heap.size ∨ b = w.heap.size + 1 + 1) (Mut.setCell (T := fun b => b = w.heap.size ∨ b = w.heap.size + 1 + 1) (Mut.setCell (T := fun b => b = w.heap.size ∨ b = w.heap.size + 1 + 1) (Mut.setCell (T := fun b => b = w.heap.size ∨ b = w.heap.size + 1 + 1) (Mut.setCell (T := fun b => b = w.heap.size ∨ b = w.heap.size + 1 + 1) (Mut.setCell (T := fun b => b = w.heap.size ∨ b = w.heap.size + 1 + 1) (Mut.setCell (T := fun b => b = w.heap.size ∨ b = w.heap.size + 1 + 1) (Mut.setCell (T := fun b => b = w.heap.size ∨ b = w.heap.size + 1 + 1) (Mut.setCell (T := fun b => b = w.heap.size ∨ b = w.heap.size + 1 + 1) (Mut.setCell (T := fun b => b = w.heap.size ∨ b = w.heap.size + 1 + 1) (Mut.setCell (T := fun b => b = w.heap.size ∨ b = w.heap.size + 1 + 1) (Mut.setCell (T := fun b => b = w.heap.size ∨ b = w.heap.size + 1 + 1) (Mut.setCell (T := fun b => b = w.heap.size ∨ b = w.heap.size + 1 + 1) (Mut.refl _ _) (p := ⟨w.heap.size, 5, none⟩) (fun _ => .inl rfl) _) (p := ⟨w.heap.size, 2, none⟩) (fun _ => .inl rfl) _) (p := ⟨w.heap.size + 1 + 1, 0, none⟩) (fun _ => .inr rfl) _) (p := ⟨w.heap.size + 1 + 1, 1, none⟩) (fun _ => .inr rfl) _) (p := ⟨w.heap.size + 1 + 1, 2, none⟩) (fun _ => .inr rfl) _) (p := ⟨w.heap.size + 1 + 1, 3, none⟩) (fun _ => .inr rfl) _) (p := ⟨w.heap.size + 1 + 1, 4, none⟩) (fun _ => .inr rfl) _) (p := ⟨w.heap.size + 1 + 1, 5, none⟩) (fun _ => .inr rfl) _) (p := ⟨w.heap.size + 1 + 1, 6, none⟩) (fun _ => .inr rfl) _) (p := ⟨w.heap.size + 1 + 1, 7, none⟩) (fun _ => .inr rfl) _) (p := ⟨w.heap.size + 1 + 1, 8, none⟩) (fun _ => .inr rfl) _) (p := ⟨w.heap.size + 1 + 1, 9, none⟩) (fun _ => .inr rfl) _) (p := ⟨w.heap.size + 1 + 1, 10, none⟩) (fun _ => .inr rfl) _) (p := ⟨w.heap.size + 1 + 1, 11, none⟩) (fun _ => .inr rfl) _
  have r0 := cell_of_blk ho 0
  have r1 := cell_of_blk ho 1
  have r2 := cell_of_blk ho 2
  have r3 := cell_of_blk ho 3
  have r4 := cell_of_blk ho 4
  have r5 := cell_of_blk ho 5
  have r6 := cell_of_blk ho 6
  have r7 := cell_of_blk ho 7
  have r8 := cell_of_blk ho 8
  have r9 := cell_of_blk ho 9
  have r10 := cell_of_blk ho 10
  have r11 := cell_of_blk ho 11
  have hNs := HSZ.out
  have hon := own_base (own_mut HO.out hmu (fun b hb h => by have := (HO.out.lt b hb).1; omega)) (show w.heap.size ≤ N.heap.size by omega)
  refine bodyPost_ret (v := .agg #[.int .u64 Pp, .int .u64 Dd, .int .u64 (IntKind.u64.wrap (Mm + 1)), .slice A3 n3 c3, .slice A4 n4 c4, .slice A' Ln c', .slice A6 n6 c6, .slice A7 n7 c7, .slice A8 n8 c8, .slice A9 n9 c9, .slice A10 n10 c10, .slice A11 n11 c11]) (by simp [results, Tryz.results56, go_sem, r0, r1, r2, r3, r4, r5, r6, r7, r8, r9, r10, r11]) rfl ⟨A', c', Ln, rfl, HLN.out.symm, hon, hbe⟩
end Go.Proofs.YtgpkmellpllmgaaGreat
/-
  fold.job. Printed by gfold2.py.
-/
set_option linter.unusedVariables false
set_option linter.unusedSimpArgs false
namespace Go.Proofs.YtgpkmellpllmgaaGreat
open Go Go.RowKit Go.Proofs.Base
open Go.Sort (grow)
set_option maxRecDepth 100000 in
set_option maxHeartbeats 4000000 in
theorem ev_job (Pp Dd Mm : Int) (A3 : Option Addr) (n3 c3 : Nat) (A4 : Option Addr) (n4 c4 : Nat) (A5 : Option Addr) (n5 c5 : Nat) (A6 : Option Addr) (n6 c6 : Nat) (A7 : Option Addr) (n7 c7 : Nat) (A8 : Option Addr) (n8 c8 : Nat) (A9 : Option Addr) (n9 c9 : Nat) (A10 : Option Addr) (n10 c10 : Nat) (A11 : Option Addr) (n11 c11 : Nat) (r : GRec) (vA : Option Addr) (vN vC : Nat) (l : List EJob) (w : World) (S : Nat → Prop) (hl : l.length = n6) (hby : (n6 + 1) * 64 ≤ 140737488355328) (hr : Row w S 6 n6 (.slice A6 n6 c6) (l.flatMap encJob)) :
    Calls Tryz.prog 58 #[.agg #[.int .u64 Pp, .int .u64 Dd, .int .u64 Mm, .slice A3 n3 c3, .slice A4 n4 c4, .slice A5 n5 c5, .slice A6 n6 c6, .slice A7 n7 c7, .slice A8 n8 c8, .slice A9 n9 c9, .slice A10 n10 c10, .slice A11 n11 c11], .agg #[.int .i64 r.cls, .int .i64 r.kind, .int .u64 r.frm, .int .i64 r.time, .int .u64 r.key, .int .u64 r.key2, .int .u64 r.key3, .int .i64 r.n, .int .i64 r.m, .string r.a, .string r.b, .string r.c, .slice vA vN vC]] w fun e w' => ∃ A' c' Ln, e = .returned (.agg #[.int .u64 Pp, .int .u64 Dd, .int .u64 (IntKind.u64.wrap (Mm + 1)), .slice A3 n3 c3, .slice A4 n4 c4, .slice A5 n5 c5, .slice A' Ln c', .slice A7 n7 c7, .slice A8 n8 c8, .slice A9 n9 c9, .slice A10 n10 c10, .slice A11 n11 c11]) ∧ Ln = (putL cmpJob ⟨r.key, r.key2, r.a, r.n, ⟨#[]⟩, 0⟩ l).length ∧ w'.ownsRow w.heap.size 52 6 (.slice A' Ln c') Ln ((putL cmpJob ⟨r.key, r.key2, r.a, r.n, ⟨#[]⟩, 0⟩ l).flatMap encJob) ∧ Below w.heap.size w w' := by
  obtain ⟨N, hN⟩ : ∃ N, N = ((w.alloc (.cells #[.int .u64 Pp, .int .u64 Dd, .int .u64 Mm, .slice A3 n3 c3, .slice A4 n4 c4, .slice A5 n5 c5, .slice A6 n6 c6, .slice A7 n7 c7, .slice A8 n8 c8, .slice A9 n9 c9, .slice A10 n10 c10, .slice A11 n11 c11] 35)).alloc (.cells #[.int .i64 r.cls, .int .i64 r.kind, .int .u64 r.frm, .int .i64 r.time, .int .u64 r.key, .int .u64 r.key2, .int .u64 r.key3, .int .i64 r.n, .int .i64 r.m, .string r.a, .string r.b, .string r.c, .slice vA vN vC] 39)).alloc (.cells #[.int .u64 0, .int .u64 0, .int .u64 0, .slice none 0 0, .slice none 0 0, .slice none 0 0, .slice none 0 0, .slice none 0 0, .slice none 0 0, .slice none 0 0, .slice none 0 0, .slice none 0 0] 35) := ⟨_, rfl⟩
  have b0 : N.heap[w.heap.size]? = some (.cells #[.int .u64 Pp, .int .u64 Dd, .int .u64 Mm, .slice A3 n3 c3, .slice A4 n4 c4, .slice A5 n5 c5, .slice A6 n6 c6, .slice A7 n7 c7, .slice A8 n8 c8, .slice A9 n9 c9, .slice A10 n10 c10, .slice A11 n11 c11] 35 (0, 0)) := by rw [hN]; exact blk_alloc (blk_alloc (blk_new _) _) _
  have b1 : recB N (w.heap.size + 1) r vA vN vC := by rw [hN]; exact blk_alloc (blk_new_of _ (by simp)) _
  have b2 : N.heap[w.heap.size + 1 + 1]? = some (.cells #[.int .u64 0, .int .u64 0, .int .u64 0, .slice none 0 0, .slice none 0 0, .slice none 0 0, .slice none 0 0, .slice none 0 0, .slice none 0 0, .slice none 0 0, .slice none 0 0, .slice none 0 0] 35 (0, 0)) := by rw [hN]; exact blk_new_of _ (by simp)
  have hB : Below w.heap.size w N := by rw [hN]; exact below_alloc (below_alloc (below_alloc (Below.refl _ _) _) _) _
  have hsz : N.heap.size = w.heap.size + 3 := by rw [hN]; simp
  have HN := Lib.hid hN
  have HB := Lib.hid hB
  have HSZ := Lib.hid hsz
  have K0 := Lib.hid b0
  have K1 := Lib.hid b1
  have K2 := Lib.hid b2
  have HPUT := Lib.hid (put_Job A6 n6 c6 ⟨r.key, r.key2, r.a, r.n, ⟨#[]⟩, 0⟩ l N S hl hby (hr.below hB))
  clear hN hB hsz b0 b1 b2 hr hl
  have k0 := K0.out
  have k1 := K1.out
  go_enter Tryz.func58, Tryz.ntmps58
  go_wp2_with fail
  rw [show ((w.alloc (.cells #[.int .u64 Pp, .int .u64 Dd, .int .u64 Mm, .slice A3 n3 c3, .slice A4 n4 c4, .slice A5 n5 c5, .slice A6 n6 c6, .slice A7 n7 c7, .slice A8 n8 c8, .slice A9 n9 c9, .slice A10 n10 c10, .slice A11 n11 c11] 35)).alloc (.cells #[.int .i64 r.cls, .int .i64 r.kind, .int .u64 r.frm, .int .i64 r.time, .int .u64 r.key, .int .u64 r.key2, .int .u64 r.key3, .int .i64 r.n, .int .i64 r.m, .string r.a, .string r.b, .string r.c, .slice vA vN vC] 39)).alloc (.cells #[.int .u64 0, .int .u64 0, .int .u64 0, .slice none 0 0, .slice none 0 0, .slice none 0 0, .slice none 0 0, .slice none 0 0, .slice none 0 0, .slice none 0 0, .slice none 0 0, .slice none 0 0] 35) = N from HN.out.symm]
  have s0 := cell_of_blk k0 0
  have s1 := cell_of_blk k0 1
  have s2 := cell_of_blk k0 2
  have s3 := cell_of_blk k0 3
  have s4 := cell_of_blk k0 4
  have s5 := cell_of_blk k0 5
  have s6 := cell_of_blk k0 6
  have s7 := cell_of_blk k0 7
  have s8 := cell_of_blk k0 8
  have s9 := cell_of_blk k0 9
  have s10 := cell_of_blk k0 10
  have s11 := cell_of_blk k0 11
  have q0 := cell_of_blk k1 0
  have q1 := cell_of_blk k1 1
  have q2 := cell_of_blk k1 2
  have q3 := cell_of_blk k1 3
  have q4 := cell_of_blk k1 4
  have q5 := cell_of_blk k1 5
  have q6 := cell_of_blk k1 6
  have q7 := cell_of_blk k1 7
  have q8 := cell_of_blk k1 8
  have q9 := cell_of_blk k1 9
  have q10 := cell_of_blk k1 10
  have q11 := cell_of_blk k1 11
  have q12 := cell_of_blk k1 12
  clear k0 k1
  go_wp2_with fail
  refine HPUT.out.mono ?_
  rintro e w1 ⟨A', c', rfl, hown, hb⟩
  generalize hLn : (putL cmpJob ⟨r.key, r.key2, r.a, r.n, ⟨#[]⟩, 0⟩ l).length = Ln at *
  have HLN := Lib.hid hLn
  have HO := Lib.hid hown
  have HWB := Lib.hid (below2 HB.out hb)
  have k0 := block_below hb K0.out
  have k2 := block_below hb K2.out
  clear hLn hown s0 s1 s2 s3 s4 s5 s6 s7 s8 s9 s10 s11 q0 q1 q2 q3 q4 q5 q6 q7 q8 q9 q10 q11 q12
  have s0 := cell_of_blk k0 0
  have s1 := cell_of_blk k0 1
  have s2 := cell_of_blk k0 2
  have s3 := cell_of_blk k0 3
  have s4 := cell_of_blk k0 4
  have s5 := cell_of_blk k0 5
  have s6 := cell_of_blk k0 6
  have s7 := cell_of_blk k0 7
  have s8 := cell_of_blk k0 8
  have s9 := cell_of_blk k0 9
  have s10 := cell_of_blk k0 10
  have s11 := cell_of_blk k0 11
  have f0 := frozen_of_blk k0 0
  have f1 := frozen_of_blk k0 1
  have f2 := frozen_of_blk k0 2
  have f3 := frozen_of_blk k0 3
  have f4 := frozen_of_blk k0 4
  have f5 := frozen_of_blk k0 5
  have f6 := frozen_of_blk k0 6
  have f7 := frozen_of_blk k0 7
  have f8 := frozen_of_blk k0 8
  have f9 := frozen_of_blk k0 9
  have f10 := frozen_of_blk k0 10
  have f11 := frozen_of_blk k0 11
  have z0 := cell_of_blk k2 0
  have z1 := cell_of_blk k2 1
  have z2 := cell_of_blk k2 2
  have z3 := cell_of_blk k2 3
  have z4 := cell_of_blk k2 4
  have z5 := cell_of_blk k2 5
  have z6 := cell_of_blk k2 6
  have z7 := cell_of_blk k2 7
  have z8 := cell_of_blk k2 8
  have z9 := cell_of_blk k2 9
  have z10 := cell_of_blk k2 10
  have z11 := cell_of_blk k2 11
  have g0 := frozen_of_blk k2 0
  have g1 := frozen_of_blk k2 1
  have g2 := frozen_of_blk k2 2
  have g3 := frozen_of_blk k2 3
  have g4 := frozen_of_blk k2 4
  have g5 := frozen_of_blk k2 5
  have g6 := frozen_of_blk k2 6
  have g7 := frozen_of_blk k2 7
  have g8 := frozen_of_blk k2 8
  have g9 := frozen_of_blk k2 9
  have g10 := frozen_of_blk k2 10
  have g11 := frozen_of_blk k2 11
  have KZ := Lib.hid k2
  have KS := Lib.hid k0
  clear hb k0 k2
  go_wp2_with fail
  generalize hWE : World.setCell (World.setCell (World.setCell (World.setCell (World.setCell (World.setCell (World.setCell (World.setCell (World.setCell (World.setCell (World.setCell (World.setCell (World.setCell (World.setCell (_) _ _) _ _) _ _) _ _) _ _) _ _) _ _) _ _) _ _) _ _) _ _) _ _) _ _) _ _ = WE
  have ho : WE.heap[w.heap.size + 1 + 1]? = some (.cells #[.int .u64 Pp, .int .u64 Dd, .int .u64 (IntKind.u64.wrap (Mm + 1)), .slice A3 n3 c3, .slice A4 n4 c4, .slice A5 n5 c5, .slice A' Ln c', .slice A7 n7 c7, .slice A8 n8 c8, .slice A9 n9 c9, .slice A10 n10 c10, .slice A11 n11 c11] 35 (0, 0)) := by rw [← hWE]; exact set_blk12 (blk_set_other (b := w.heap.size) (o := 2) (blk_set_other (b := w.heap.size) (o := 6) (KZ.out) (by omega)) (by omega)) (.int .u64 Pp) (.int .u64 Dd) (.int .u64 (IntKind.u64.wrap (Mm + 1))) (.slice A3 n3 c3) (.slice A4 n4 c4) (.slice A5 n5 c5) (.slice A' Ln c') (.slice A7 n7 c7) (.slice A8 n8 c8) (.slice A9 n9 c9) (.slice A10 n10 c10) (.slice A11 n11 c11)
  have hbe : Below w.heap.size w WE := by rw [← hWE]; exact ((((((((((((((HWB.out).setCell (p := ⟨w.heap.size, 6, none⟩) (Nat.le_refl _) _).setCell (p := ⟨w.heap.size, 2, none⟩) (Nat.le_refl _) _).setCell (p := ⟨w.heap.size + 1 + 1, 0, none⟩) (by show _ ≤ _ + 1 + 1; omega) _).setCell (p := ⟨w.heap.size + 1 + 1, 1, none⟩) (by show _ ≤ _ + 1 + 1; omega) _).setCell (p := ⟨w.heap.size + 1 + 1, 2, none⟩) (by show _ ≤ _ + 1 + 1; omega) _).setCell (p := ⟨w.heap.size + 1 + 1, 3, none⟩) (by show _ ≤ _ + 1 + 1; omega) _).setCell (p := ⟨w.heap.size + 1 + 1, 4, none⟩) (by show _ ≤ _ + 1 + 1; omega) _).setCell (p := ⟨w.heap.size + 1 + 1, 5, none⟩) (by show _ ≤ _ + 1 + 1; omega) _).setCell (p := ⟨w.heap.size + 1 + 1, 6, none⟩) (by show _ ≤ _ + 1 + 1; omega) _).setCell (p := ⟨w.heap.size + 1 + 1, 7, none⟩) (by show _ ≤ _ + 1 + 1; omega) _).setCell (p := ⟨w.heap.size + 1 + 1, 8, none⟩) (by show _ ≤ _ + 1 + 1; omega) _).setCell (p := ⟨w.heap.size + 1 + 1, 9, none⟩) (by show _ ≤ _ + 1 + 1; omega) _).setCell (p := ⟨w.heap.size + 1 + 1, 10, none⟩) (by show _ ≤ _ + 1 + 1; omega) _).setCell (p := ⟨w.heap.size + 1 + 1, 11, none⟩) (by show _ ≤ _ + 1 + 1; omega) _
  have hmu : Mut (fun b => b = w.heap.size ∨ b = w.heap.size + 1 + 1) w1 WE := by
    rw [← hWE]
    exact Mut.setCell (T := fun b => b = w.heap.size ∨ b = w.heap.size + 1 + 1) (Mut.setCell (T := fun b => b = w.heap.size ∨ b = w.heap.size + 1 + 1) (Mut.setCell (T := fun b => b = w.heap.size ∨ b = w.heap.size + 1 + 1) (Mut.setCell (T := fun b => b = w.heap.size ∨ b = w.heap.size + 1 + 1) (Mut.setCell (T := fun b => b = w.heap.size ∨ b = w.heap.size + 1 + 1) (Mut.setCell (T := fun b => b = w.heap.size ∨ b = w.heap.size + 1 + 1) (Mut.setCell (T := fun b => b = w.heap.size ∨ b = w.heap.size + 1 + 1) (Mut.setCell (T := fun b => b = w.heap.size ∨ b = w.heap.size + 1 + 1) (Mut.setCell (T := fun b => b = w.heap.size ∨ b = w.heap.size + 1 + 1) (Mut.setCell (T := fun b => b = w.heap.size ∨ b = w.heap.size + 1 + 1) (Mut.setCell (T := fun b => b = w.heap.size ∨ b = w.heap.size + 1 + 1) (Mut.setCell (T := fun b => b = w.heap.size ∨ b = w.heap.size + 1 + 1) (Mut.setCell (T := fun b => b = w.heap.size ∨ b = w.heap.size + 1 + 1) (Mut.setCell (T := fun b => b = w.heap.size ∨ b = w.heap.size + 1 + 1) (Mut.refl _ _) (p := ⟨w.heap.size, 6, none⟩) (fun _ => .inl rfl) _) (p := ⟨w.heap.size, 2, none⟩) (fun _ => .inl rfl) _) (p := ⟨w.heap.size + 1 + 1, 0, none⟩) (fun _ => .inr rfl) _) (p := ⟨w.heap.size + 1 + 1, 1, none⟩) (fun _ => .inr rfl) _) (p := ⟨w.heap.size + 1 + 1, 2, none⟩) (fun _ => .inr rfl) _) (p := ⟨w.heap.size + 1 + 1, 3, none⟩) (fun _ => .inr rfl) _) (p := ⟨w.heap.size + 1 + 1, 4, none⟩) (fun _ => .inr rfl) _) (p := ⟨w.heap.size + 1 + 1, 5, none⟩) (fun _ => .inr rfl) _) (p := ⟨w.heap.size + 1 + 1, 6, none⟩) (fun _ => .inr rfl) _) (p := ⟨w.heap.size + 1 + 1, 7, none⟩) (fun _ => .inr rfl) _) (p := ⟨w.heap.size + 1 + 1, 8, none⟩) (fun _ => .inr rfl) _) (p := ⟨w.heap.size + 1 + 1, 9, none⟩) (fun _ => .inr rfl) _) (p := ⟨w.heap.size + 1 + 1, 10, none⟩) (fun _ => .inr rfl) _) (p := ⟨w.heap.size + 1 + 1, 11, none⟩) (fun _ => .inr rfl) _
  have r0 := cell_of_blk ho 0
  have r1 := cell_of_blk ho 1
  have r2 := cell_of_blk ho 2
  have r3 := cell_of_blk ho 3
  have r4 := cell_of_blk ho 4
  have r5 := cell_of_blk ho 5
  have r6 := cell_of_blk ho 6
  have r7 := cell_of_blk ho 7
  have r8 := cell_of_blk ho 8
  have r9 := cell_of_blk ho 9
  have r10 := cell_of_blk ho 10
  have r11 := cell_of_blk ho 11
  have hNs := HSZ.out
  have hon := own_base (own_mut HO.out hmu (fun b hb h => by have := (HO.out.lt b hb).1; omega)) (show w.heap.size ≤ N.heap.size by omega)
  refine bodyPost_ret (v := .agg #[.int .u64 Pp, .int .u64 Dd, .int .u64 (IntKind.u64.wrap (Mm + 1)), .slice A3 n3 c3, .slice A4 n4 c4, .slice A5 n5 c5, .slice A' Ln c', .slice A7 n7 c7, .slice A8 n8 c8, .slice A9 n9 c9, .slice A10 n10 c10, .slice A11 n11 c11]) (by simp [results, Tryz.results58, go_sem, r0, r1, r2, r3, r4, r5, r6, r7, r8, r9, r10, r11]) rfl ⟨A', c', Ln, rfl, HLN.out.symm, hon, hbe⟩
end Go.Proofs.YtgpkmellpllmgaaGreat
/-
  fold.timer. Printed by gfold2.py.
-/
set_option linter.unusedVariables false
set_option linter.unusedSimpArgs false
namespace Go.Proofs.YtgpkmellpllmgaaGreat
open Go Go.RowKit Go.Proofs.Base
open Go.Sort (grow)
set_option maxRecDepth 100000 in
set_option maxHeartbeats 4000000 in
theorem ev_timer (Pp Dd Mm : Int) (A3 : Option Addr) (n3 c3 : Nat) (A4 : Option Addr) (n4 c4 : Nat) (A5 : Option Addr) (n5 c5 : Nat) (A6 : Option Addr) (n6 c6 : Nat) (A7 : Option Addr) (n7 c7 : Nat) (A8 : Option Addr) (n8 c8 : Nat) (A9 : Option Addr) (n9 c9 : Nat) (A10 : Option Addr) (n10 c10 : Nat) (A11 : Option Addr) (n11 c11 : Nat) (r : GRec) (vA : Option Addr) (vN vC : Nat) (l : List ETim) (w : World) (S : Nat → Prop) (hl : l.length = n7) (hby : (n7 + 1) * 24 ≤ 140737488355328) (hr : Row w S 3 n7 (.slice A7 n7 c7) (l.flatMap encTim)) :
    Calls Tryz.prog 62 #[.agg #[.int .u64 Pp, .int .u64 Dd, .int .u64 Mm, .slice A3 n3 c3, .slice A4 n4 c4, .slice A5 n5 c5, .slice A6 n6 c6, .slice A7 n7 c7, .slice A8 n8 c8, .slice A9 n9 c9, .slice A10 n10 c10, .slice A11 n11 c11], .agg #[.int .i64 r.cls, .int .i64 r.kind, .int .u64 r.frm, .int .i64 r.time, .int .u64 r.key, .int .u64 r.key2, .int .u64 r.key3, .int .i64 r.n, .int .i64 r.m, .string r.a, .string r.b, .string r.c, .slice vA vN vC]] w fun e w' => ∃ A' c' Ln, e = .returned (.agg #[.int .u64 Pp, .int .u64 Dd, .int .u64 Mm, .slice A3 n3 c3, .slice A4 n4 c4, .slice A5 n5 c5, .slice A6 n6 c6, .slice A' Ln c', .slice A8 n8 c8, .slice A9 n9 c9, .slice A10 n10 c10, .slice A11 n11 c11]) ∧ Ln = (putL cmpTim ⟨r.key, r.n, r.m⟩ l).length ∧ w'.ownsRow w.heap.size 66 3 (.slice A' Ln c') Ln ((putL cmpTim ⟨r.key, r.n, r.m⟩ l).flatMap encTim) ∧ Below w.heap.size w w' := by
  obtain ⟨N, hN⟩ : ∃ N, N = ((w.alloc (.cells #[.int .u64 Pp, .int .u64 Dd, .int .u64 Mm, .slice A3 n3 c3, .slice A4 n4 c4, .slice A5 n5 c5, .slice A6 n6 c6, .slice A7 n7 c7, .slice A8 n8 c8, .slice A9 n9 c9, .slice A10 n10 c10, .slice A11 n11 c11] 35)).alloc (.cells #[.int .i64 r.cls, .int .i64 r.kind, .int .u64 r.frm, .int .i64 r.time, .int .u64 r.key, .int .u64 r.key2, .int .u64 r.key3, .int .i64 r.n, .int .i64 r.m, .string r.a, .string r.b, .string r.c, .slice vA vN vC] 39)).alloc (.cells #[.int .u64 0, .int .u64 0, .int .u64 0, .slice none 0 0, .slice none 0 0, .slice none 0 0, .slice none 0 0, .slice none 0 0, .slice none 0 0, .slice none 0 0, .slice none 0 0, .slice none 0 0] 35) := ⟨_, rfl⟩
  have b0 : N.heap[w.heap.size]? = some (.cells #[.int .u64 Pp, .int .u64 Dd, .int .u64 Mm, .slice A3 n3 c3, .slice A4 n4 c4, .slice A5 n5 c5, .slice A6 n6 c6, .slice A7 n7 c7, .slice A8 n8 c8, .slice A9 n9 c9, .slice A10 n10 c10, .slice A11 n11 c11] 35 (0, 0)) := by rw [hN]; exact blk_alloc (blk_alloc (blk_new _) _) _
  have b1 : recB N (w.heap.size + 1) r vA vN vC := by rw [hN]; exact blk_alloc (blk_new_of _ (by simp)) _
  have b2 : N.heap[w.heap.size + 1 + 1]? = some (.cells #[.int .u64 0, .int .u64 0, .int .u64 0, .slice none 0 0, .slice none 0 0, .slice none 0 0, .slice none 0 0, .slice none 0 0, .slice none 0 0, .slice none 0 0, .slice none 0 0, .slice none 0 0] 35 (0, 0)) := by rw [hN]; exact blk_new_of _ (by simp)
  have hB : Below w.heap.size w N := by rw [hN]; exact below_alloc (below_alloc (below_alloc (Below.refl _ _) _) _) _
  have hsz : N.heap.size = w.heap.size + 3 := by rw [hN]; simp
  have HN := Lib.hid hN
  have HB := Lib.hid hB
  have HSZ := Lib.hid hsz
  have K0 := Lib.hid b0
  have K1 := Lib.hid b1
  have K2 := Lib.hid b2
  have HPUT := Lib.hid (put_Tim A7 n7 c7 ⟨r.key, r.n, r.m⟩ l N S hl hby (hr.below hB))
  clear hN hB hsz b0 b1 b2 hr hl
  have k0 := K0.out
  have k1 := K1.out
  go_enter Tryz.func62, Tryz.ntmps62
  go_wp2_with fail
  rw [show ((w.alloc (.cells #[.int .u64 Pp, .int .u64 Dd, .int .u64 Mm, .slice A3 n3 c3, .slice A4 n4 c4, .slice A5 n5 c5, .slice A6 n6 c6, .slice A7 n7 c7, .slice A8 n8 c8, .slice A9 n9 c9, .slice A10 n10 c10, .slice A11 n11 c11] 35)).alloc (.cells #[.int .i64 r.cls, .int .i64 r.kind, .int .u64 r.frm, .int .i64 r.time, .int .u64 r.key, .int .u64 r.key2, .int .u64 r.key3, .int .i64 r.n, .int .i64 r.m, .string r.a, .string r.b, .string r.c, .slice vA vN vC] 39)).alloc (.cells #[.int .u64 0, .int .u64 0, .int .u64 0, .slice none 0 0, .slice none 0 0, .slice none 0 0, .slice none 0 0, .slice none 0 0, .slice none 0 0, .slice none 0 0, .slice none 0 0, .slice none 0 0] 35) = N from HN.out.symm]
  have s0 := cell_of_blk k0 0
  have s1 := cell_of_blk k0 1
  have s2 := cell_of_blk k0 2
  have s3 := cell_of_blk k0 3
  have s4 := cell_of_blk k0 4
  have s5 := cell_of_blk k0 5
  have s6 := cell_of_blk k0 6
  have s7 := cell_of_blk k0 7
  have s8 := cell_of_blk k0 8
  have s9 := cell_of_blk k0 9
  have s10 := cell_of_blk k0 10
  have s11 := cell_of_blk k0 11
  have q0 := cell_of_blk k1 0
  have q1 := cell_of_blk k1 1
  have q2 := cell_of_blk k1 2
  have q3 := cell_of_blk k1 3
  have q4 := cell_of_blk k1 4
  have q5 := cell_of_blk k1 5
  have q6 := cell_of_blk k1 6
  have q7 := cell_of_blk k1 7
  have q8 := cell_of_blk k1 8
  have q9 := cell_of_blk k1 9
  have q10 := cell_of_blk k1 10
  have q11 := cell_of_blk k1 11
  have q12 := cell_of_blk k1 12
  clear k0 k1
  go_wp2_with fail
  refine HPUT.out.mono ?_
  rintro e w1 ⟨A', c', rfl, hown, hb⟩
  generalize hLn : (putL cmpTim ⟨r.key, r.n, r.m⟩ l).length = Ln at *
  have HLN := Lib.hid hLn
  have HO := Lib.hid hown
  have HWB := Lib.hid (below2 HB.out hb)
  have k0 := block_below hb K0.out
  have k2 := block_below hb K2.out
  clear hLn hown s0 s1 s2 s3 s4 s5 s6 s7 s8 s9 s10 s11 q0 q1 q2 q3 q4 q5 q6 q7 q8 q9 q10 q11 q12
  have s0 := cell_of_blk k0 0
  have s1 := cell_of_blk k0 1
  have s2 := cell_of_blk k0 2
  have s3 := cell_of_blk k0 3
  have s4 := cell_of_blk k0 4
  have s5 := cell_of_blk k0 5
  have s6 := cell_of_blk k0 6
  have s7 := cell_of_blk k0 7
  have s8 := cell_of_blk k0 8
  have s9 := cell_of_blk k0 9
  have s10 := cell_of_blk k0 10
  have s11 := cell_of_blk k0 11
  have f0 := frozen_of_blk k0 0
  have f1 := frozen_of_blk k0 1
  have f2 := frozen_of_blk k0 2
  have f3 := frozen_of_blk k0 3
  have f4 := frozen_of_blk k0 4
  have f5 := frozen_of_blk k0 5
  have f6 := frozen_of_blk k0 6
  have f7 := frozen_of_blk k0 7
  have f8 := frozen_of_blk k0 8
  have f9 := frozen_of_blk k0 9
  have f10 := frozen_of_blk k0 10
  have f11 := frozen_of_blk k0 11
  have z0 := cell_of_blk k2 0
  have z1 := cell_of_blk k2 1
  have z2 := cell_of_blk k2 2
  have z3 := cell_of_blk k2 3
  have z4 := cell_of_blk k2 4
  have z5 := cell_of_blk k2 5
  have z6 := cell_of_blk k2 6
  have z7 := cell_of_blk k2 7
  have z8 := cell_of_blk k2 8
  have z9 := cell_of_blk k2 9
  have z10 := cell_of_blk k2 10
  have z11 := cell_of_blk k2 11
  have g0 := frozen_of_blk k2 0
  have g1 := frozen_of_blk k2 1
  have g2 := frozen_of_blk k2 2
  have g3 := frozen_of_blk k2 3
  have g4 := frozen_of_blk k2 4
  have g5 := frozen_of_blk k2 5
  have g6 := frozen_of_blk k2 6
  have g7 := frozen_of_blk k2 7
  have g8 := frozen_of_blk k2 8
  have g9 := frozen_of_blk k2 9
  have g10 := frozen_of_blk k2 10
  have g11 := frozen_of_blk k2 11
  have KZ := Lib.hid k2
  have KS := Lib.hid k0
  clear hb k0 k2
  go_wp2_with fail
  generalize hWE : World.setCell (World.setCell (World.setCell (World.setCell (World.setCell (World.setCell (World.setCell (World.setCell (World.setCell (World.setCell (World.setCell (World.setCell (World.setCell (_) _ _) _ _) _ _) _ _) _ _) _ _) _ _) _ _) _ _) _ _) _ _) _ _) _ _ = WE
  have ho : WE.heap[w.heap.size + 1 + 1]? = some (.cells #[.int .u64 Pp, .int .u64 Dd, .int .u64 Mm, .slice A3 n3 c3, .slice A4 n4 c4, .slice A5 n5 c5, .slice A6 n6 c6, .slice A' Ln c', .slice A8 n8 c8, .slice A9 n9 c9, .slice A10 n10 c10, .slice A11 n11 c11] 35 (0, 0)) := by rw [← hWE]; exact set_blk12 (blk_set_other (b := w.heap.size) (o := 7) (KZ.out) (by omega)) (.int .u64 Pp) (.int .u64 Dd) (.int .u64 Mm) (.slice A3 n3 c3) (.slice A4 n4 c4) (.slice A5 n5 c5) (.slice A6 n6 c6) (.slice A' Ln c') (.slice A8 n8 c8) (.slice A9 n9 c9) (.slice A10 n10 c10) (.slice A11 n11 c11)
  have hbe : Below w.heap.size w WE := by rw [← hWE]; exact (((((((((((((HWB.out).setCell (p := ⟨w.heap.size, 7, none⟩) (Nat.le_refl _) _).setCell (p := ⟨w.heap.size + 1 + 1, 0, none⟩) (by show _ ≤ _ + 1 + 1; omega) _).setCell (p := ⟨w.heap.size + 1 + 1, 1, none⟩) (by show _ ≤ _ + 1 + 1; omega) _).setCell (p := ⟨w.heap.size + 1 + 1, 2, none⟩) (by show _ ≤ _ + 1 + 1; omega) _).setCell (p := ⟨w.heap.size + 1 + 1, 3, none⟩) (by show _ ≤ _ + 1 + 1; omega) _).setCell (p := ⟨w.heap.size + 1 + 1, 4, none⟩) (by show _ ≤ _ + 1 + 1; omega) _).setCell (p := ⟨w.heap.size + 1 + 1, 5, none⟩) (by show _ ≤ _ + 1 + 1; omega) _).setCell (p := ⟨w.heap.size + 1 + 1, 6, none⟩) (by show _ ≤ _ + 1 + 1; omega) _).setCell (p := ⟨w.heap.size + 1 + 1, 7, none⟩) (by show _ ≤ _ + 1 + 1; omega) _).setCell (p := ⟨w.heap.size + 1 + 1, 8, none⟩) (by show _ ≤ _ + 1 + 1; omega) _).setCell (p := ⟨w.heap.size + 1 + 1, 9, none⟩) (by show _ ≤ _ + 1 + 1; omega) _).setCell (p := ⟨w.heap.size + 1 + 1, 10, none⟩) (by show _ ≤ _ + 1 + 1; omega) _).setCell (p := ⟨w.heap.size + 1 + 1, 11, none⟩) (by show _ ≤ _ + 1 + 1; omega) _
  have hmu : Mut (fun b => b = w.heap.size ∨ b = w.heap.size + 1 + 1) w1 WE := by
    rw [← hWE]
    exact Mut.setCell (T := fun b => b = w.heap.size ∨ b = w.heap.size + 1 + 1) (Mut.setCell (T := fun b => b = w.heap.size ∨ b = w.heap.size + 1 + 1) (Mut.setCell (T := fun b => b = w.heap.size ∨ b = w.heap.size + 1 + 1) (Mut.setCell (T := fun b => b = w.heap.size ∨ b = w.heap.size + 1 + 1) (Mut.setCell (T := fun b => b = w.heap.size ∨ b = w.heap.size + 1 + 1) (Mut.setCell (T := fun b => b = w.heap.size ∨ b = w.heap.size + 1 + 1) (Mut.setCell (T := fun b => b = w.heap.size ∨ b = w.heap.size + 1 + 1) (Mut.setCell (T := fun b => b = w.heap.size ∨ b = w.heap.size + 1 + 1) (Mut.setCell (T := fun b => b = w.heap.size ∨ b = w.heap.size + 1 + 1) (Mut.setCell (T := fun b => b = w.heap.size ∨ b = w.heap.size + 1 + 1) (Mut.setCell (T := fun b => b = w.heap.size ∨ b = w.heap.size + 1 + 1) (Mut.setCell (T := fun b => b = w.heap.size ∨ b = w.heap.size + 1 + 1) (Mut.setCell (T := fun b => b = w.heap.size ∨ b = w.heap.size + 1 + 1) (Mut.refl _ _) (p := ⟨w.heap.size, 7, none⟩) (fun _ => .inl rfl) _) (p := ⟨w.heap.size + 1 + 1, 0, none⟩) (fun _ => .inr rfl) _) (p := ⟨w.heap.size + 1 + 1, 1, none⟩) (fun _ => .inr rfl) _) (p := ⟨w.heap.size + 1 + 1, 2, none⟩) (fun _ => .inr rfl) _) (p := ⟨w.heap.size + 1 + 1, 3, none⟩) (fun _ => .inr rfl) _) (p := ⟨w.heap.size + 1 + 1, 4, none⟩) (fun _ => .inr rfl) _) (p := ⟨w.heap.size + 1 + 1, 5, none⟩) (fun _ => .inr rfl) _) (p := ⟨w.heap.size + 1 + 1, 6, none⟩) (fun _ => .inr rfl) _) (p := ⟨w.heap.size + 1 + 1, 7, none⟩) (fun _ => .inr rfl) _) (p := ⟨w.heap.size + 1 + 1, 8, none⟩) (fun _ => .inr rfl) _) (p := ⟨w.heap.size + 1 + 1, 9, none⟩) (fun _ => .inr rfl) _) (p := ⟨w.heap.size + 1 + 1, 10, none⟩) (fun _ => .inr rfl) _) (p := ⟨w.heap.size + 1 + 1, 11, none⟩) (fun _ => .inr rfl) _
  have r0 := cell_of_blk ho 0
  have r1 := cell_of_blk ho 1
  have r2 := cell_of_blk ho 2
  have r3 := cell_of_blk ho 3
  have r4 := cell_of_blk ho 4
  have r5 := cell_of_blk ho 5
  have r6 := cell_of_blk ho 6
  have r7 := cell_of_blk ho 7
  have r8 := cell_of_blk ho 8
  have r9 := cell_of_blk ho 9
  have r10 := cell_of_blk ho 10
  have r11 := cell_of_blk ho 11
  have hNs := HSZ.out
  have hon := own_base (own_mut HO.out hmu (fun b hb h => by have := (HO.out.lt b hb).1; omega)) (show w.heap.size ≤ N.heap.size by omega)
  refine bodyPost_ret (v := .agg #[.int .u64 Pp, .int .u64 Dd, .int .u64 Mm, .slice A3 n3 c3, .slice A4 n4 c4, .slice A5 n5 c5, .slice A6 n6 c6, .slice A' Ln c', .slice A8 n8 c8, .slice A9 n9 c9, .slice A10 n10 c10, .slice A11 n11 c11]) (by simp [results, Tryz.results62, go_sem, r0, r1, r2, r3, r4, r5, r6, r7, r8, r9, r10, r11]) rfl ⟨A', c', Ln, rfl, HLN.out.symm, hon, hbe⟩
end Go.Proofs.YtgpkmellpllmgaaGreat
/-
  fold.sub. Printed by gfold2.py.
-/
set_option linter.unusedVariables false
set_option linter.unusedSimpArgs false
namespace Go.Proofs.YtgpkmellpllmgaaGreat
open Go Go.RowKit Go.Proofs.Base
open Go.Sort (grow)
set_option maxRecDepth 100000 in
set_option maxHeartbeats 4000000 in
theorem ev_sub (Pp Dd Mm : Int) (A3 : Option Addr) (n3 c3 : Nat) (A4 : Option Addr) (n4 c4 : Nat) (A5 : Option Addr) (n5 c5 : Nat) (A6 : Option Addr) (n6 c6 : Nat) (A7 : Option Addr) (n7 c7 : Nat) (A8 : Option Addr) (n8 c8 : Nat) (A9 : Option Addr) (n9 c9 : Nat) (A10 : Option Addr) (n10 c10 : Nat) (A11 : Option Addr) (n11 c11 : Nat) (r : GRec) (vA : Option Addr) (vN vC : Nat) (l : List ESub) (w : World) (S : Nat → Prop) (hl : l.length = n8) (hby : (n8 + 1) * 64 ≤ 140737488355328) (hr : Row w S 6 n8 (.slice A8 n8 c8) (l.flatMap encSub)) :
    Calls Tryz.prog 63 #[.agg #[.int .u64 Pp, .int .u64 Dd, .int .u64 Mm, .slice A3 n3 c3, .slice A4 n4 c4, .slice A5 n5 c5, .slice A6 n6 c6, .slice A7 n7 c7, .slice A8 n8 c8, .slice A9 n9 c9, .slice A10 n10 c10, .slice A11 n11 c11], .agg #[.int .i64 r.cls, .int .i64 r.kind, .int .u64 r.frm, .int .i64 r.time, .int .u64 r.key, .int .u64 r.key2, .int .u64 r.key3, .int .i64 r.n, .int .i64 r.m, .string r.a, .string r.b, .string r.c, .slice vA vN vC]] w fun e w' => ∃ A' c' Ln, e = .returned (.agg #[.int .u64 Pp, .int .u64 Dd, .int .u64 Mm, .slice A3 n3 c3, .slice A4 n4 c4, .slice A5 n5 c5, .slice A6 n6 c6, .slice A7 n7 c7, .slice A' Ln c', .slice A9 n9 c9, .slice A10 n10 c10, .slice A11 n11 c11]) ∧ Ln = (putL cmpSub ⟨r.key, r.key2, r.n, r.a, r.b, false⟩ l).length ∧ w'.ownsRow w.heap.size 73 6 (.slice A' Ln c') Ln ((putL cmpSub ⟨r.key, r.key2, r.n, r.a, r.b, false⟩ l).flatMap encSub) ∧ Below w.heap.size w w' := by
  obtain ⟨N, hN⟩ : ∃ N, N = ((w.alloc (.cells #[.int .u64 Pp, .int .u64 Dd, .int .u64 Mm, .slice A3 n3 c3, .slice A4 n4 c4, .slice A5 n5 c5, .slice A6 n6 c6, .slice A7 n7 c7, .slice A8 n8 c8, .slice A9 n9 c9, .slice A10 n10 c10, .slice A11 n11 c11] 35)).alloc (.cells #[.int .i64 r.cls, .int .i64 r.kind, .int .u64 r.frm, .int .i64 r.time, .int .u64 r.key, .int .u64 r.key2, .int .u64 r.key3, .int .i64 r.n, .int .i64 r.m, .string r.a, .string r.b, .string r.c, .slice vA vN vC] 39)).alloc (.cells #[.int .u64 0, .int .u64 0, .int .u64 0, .slice none 0 0, .slice none 0 0, .slice none 0 0, .slice none 0 0, .slice none 0 0, .slice none 0 0, .slice none 0 0, .slice none 0 0, .slice none 0 0] 35) := ⟨_, rfl⟩
  have b0 : N.heap[w.heap.size]? = some (.cells #[.int .u64 Pp, .int .u64 Dd, .int .u64 Mm, .slice A3 n3 c3, .slice A4 n4 c4, .slice A5 n5 c5, .slice A6 n6 c6, .slice A7 n7 c7, .slice A8 n8 c8, .slice A9 n9 c9, .slice A10 n10 c10, .slice A11 n11 c11] 35 (0, 0)) := by rw [hN]; exact blk_alloc (blk_alloc (blk_new _) _) _
  have b1 : recB N (w.heap.size + 1) r vA vN vC := by rw [hN]; exact blk_alloc (blk_new_of _ (by simp)) _
  have b2 : N.heap[w.heap.size + 1 + 1]? = some (.cells #[.int .u64 0, .int .u64 0, .int .u64 0, .slice none 0 0, .slice none 0 0, .slice none 0 0, .slice none 0 0, .slice none 0 0, .slice none 0 0, .slice none 0 0, .slice none 0 0, .slice none 0 0] 35 (0, 0)) := by rw [hN]; exact blk_new_of _ (by simp)
  have hB : Below w.heap.size w N := by rw [hN]; exact below_alloc (below_alloc (below_alloc (Below.refl _ _) _) _) _
  have hsz : N.heap.size = w.heap.size + 3 := by rw [hN]; simp
  have HN := Lib.hid hN
  have HB := Lib.hid hB
  have HSZ := Lib.hid hsz
  have K0 := Lib.hid b0
  have K1 := Lib.hid b1
  have K2 := Lib.hid b2
  have HPUT := Lib.hid (put_Sub A8 n8 c8 ⟨r.key, r.key2, r.n, r.a, r.b, false⟩ l N S hl hby (hr.below hB))
  clear hN hB hsz b0 b1 b2 hr hl
  have k0 := K0.out
  have k1 := K1.out
  go_enter Tryz.func63, Tryz.ntmps63
  go_wp2_with fail
  rw [show ((w.alloc (.cells #[.int .u64 Pp, .int .u64 Dd, .int .u64 Mm, .slice A3 n3 c3, .slice A4 n4 c4, .slice A5 n5 c5, .slice A6 n6 c6, .slice A7 n7 c7, .slice A8 n8 c8, .slice A9 n9 c9, .slice A10 n10 c10, .slice A11 n11 c11] 35)).alloc (.cells #[.int .i64 r.cls, .int .i64 r.kind, .int .u64 r.frm, .int .i64 r.time, .int .u64 r.key, .int .u64 r.key2, .int .u64 r.key3, .int .i64 r.n, .int .i64 r.m, .string r.a, .string r.b, .string r.c, .slice vA vN vC] 39)).alloc (.cells #[.int .u64 0, .int .u64 0, .int .u64 0, .slice none 0 0, .slice none 0 0, .slice none 0 0, .slice none 0 0, .slice none 0 0, .slice none 0 0, .slice none 0 0, .slice none 0 0, .slice none 0 0] 35) = N from HN.out.symm]
  have s0 := cell_of_blk k0 0
  have s1 := cell_of_blk k0 1
  have s2 := cell_of_blk k0 2
  have s3 := cell_of_blk k0 3
  have s4 := cell_of_blk k0 4
  have s5 := cell_of_blk k0 5
  have s6 := cell_of_blk k0 6
  have s7 := cell_of_blk k0 7
  have s8 := cell_of_blk k0 8
  have s9 := cell_of_blk k0 9
  have s10 := cell_of_blk k0 10
  have s11 := cell_of_blk k0 11
  have q0 := cell_of_blk k1 0
  have q1 := cell_of_blk k1 1
  have q2 := cell_of_blk k1 2
  have q3 := cell_of_blk k1 3
  have q4 := cell_of_blk k1 4
  have q5 := cell_of_blk k1 5
  have q6 := cell_of_blk k1 6
  have q7 := cell_of_blk k1 7
  have q8 := cell_of_blk k1 8
  have q9 := cell_of_blk k1 9
  have q10 := cell_of_blk k1 10
  have q11 := cell_of_blk k1 11
  have q12 := cell_of_blk k1 12
  clear k0 k1
  go_wp2_with fail
  refine HPUT.out.mono ?_
  rintro e w1 ⟨A', c', rfl, hown, hb⟩
  generalize hLn : (putL cmpSub ⟨r.key, r.key2, r.n, r.a, r.b, false⟩ l).length = Ln at *
  have HLN := Lib.hid hLn
  have HO := Lib.hid hown
  have HWB := Lib.hid (below2 HB.out hb)
  have k0 := block_below hb K0.out
  have k2 := block_below hb K2.out
  clear hLn hown s0 s1 s2 s3 s4 s5 s6 s7 s8 s9 s10 s11 q0 q1 q2 q3 q4 q5 q6 q7 q8 q9 q10 q11 q12
  have s0 := cell_of_blk k0 0
  have s1 := cell_of_blk k0 1
  have s2 := cell_of_blk k0 2
  have s3 := cell_of_blk k0 3
  have s4 := cell_of_blk k0 4
  have s5 := cell_of_blk k0 5
  have s6 := cell_of_blk k0 6
  have s7 := cell_of_blk k0 7
  have s8 := cell_of_blk k0 8
  have s9 := cell_of_blk k0 9
  have s10 := cell_of_blk k0 10
  have s11 := cell_of_blk k0 11
  have f0 := frozen_of_blk k0 0
  have f1 := frozen_of_blk k0 1
  have f2 := frozen_of_blk k0 2
  have f3 := frozen_of_blk k0 3
  have f4 := frozen_of_blk k0 4
  have f5 := frozen_of_blk k0 5
  have f6 := frozen_of_blk k0 6
  have f7 := frozen_of_blk k0 7
  have f8 := frozen_of_blk k0 8
  have f9 := frozen_of_blk k0 9
  have f10 := frozen_of_blk k0 10
  have f11 := frozen_of_blk k0 11
  have z0 := cell_of_blk k2 0
  have z1 := cell_of_blk k2 1
  have z2 := cell_of_blk k2 2
  have z3 := cell_of_blk k2 3
  have z4 := cell_of_blk k2 4
  have z5 := cell_of_blk k2 5
  have z6 := cell_of_blk k2 6
  have z7 := cell_of_blk k2 7
  have z8 := cell_of_blk k2 8
  have z9 := cell_of_blk k2 9
  have z10 := cell_of_blk k2 10
  have z11 := cell_of_blk k2 11
  have g0 := frozen_of_blk k2 0
  have g1 := frozen_of_blk k2 1
  have g2 := frozen_of_blk k2 2
  have g3 := frozen_of_blk k2 3
  have g4 := frozen_of_blk k2 4
  have g5 := frozen_of_blk k2 5
  have g6 := frozen_of_blk k2 6
  have g7 := frozen_of_blk k2 7
  have g8 := frozen_of_blk k2 8
  have g9 := frozen_of_blk k2 9
  have g10 := frozen_of_blk k2 10
  have g11 := frozen_of_blk k2 11
  have KZ := Lib.hid k2
  have KS := Lib.hid k0
  clear hb k0 k2
  go_wp2_with fail
  generalize hWE : World.setCell (World.setCell (World.setCell (World.setCell (World.setCell (World.setCell (World.setCell (World.setCell (World.setCell (World.setCell (World.setCell (World.setCell (World.setCell (_) _ _) _ _) _ _) _ _) _ _) _ _) _ _) _ _) _ _) _ _) _ _) _ _) _ _ = WE
  have ho : WE.heap[w.heap.size + 1 + 1]? = some (.cells #[.int .u64 Pp, .int .u64 Dd, .int .u64 Mm, .slice A3 n3 c3, .slice A4 n4 c4, .slice A5 n5 c5, .slice A6 n6 c6, .slice A7 n7 c7, .slice A' Ln c', .slice A9 n9 c9, .slice A10 n10 c10, .slice A11 n11 c11] 35 (0, 0)) := by rw [← hWE]; exact set_blk12 (blk_set_other (b := w.heap.size) (o := 8) (KZ.out) (by omega)) (.int .u64 Pp) (.int .u64 Dd) (.int .u64 Mm) (.slice A3 n3 c3) (.slice A4 n4 c4) (.slice A5 n5 c5) (.slice A6 n6 c6) (.slice A7 n7 c7) (.slice A' Ln c') (.slice A9 n9 c9) (.slice A10 n10 c10) (.slice A11 n11 c11)
  have hbe : Below w.heap.size w WE := by rw [← hWE]; exact (((((((((((((HWB.out).setCell (p := ⟨w.heap.size, 8, none⟩) (Nat.le_refl _) _).setCell (p := ⟨w.heap.size + 1 + 1, 0, none⟩) (by show _ ≤ _ + 1 + 1; omega) _).setCell (p := ⟨w.heap.size + 1 + 1, 1, none⟩) (by show _ ≤ _ + 1 + 1; omega) _).setCell (p := ⟨w.heap.size + 1 + 1, 2, none⟩) (by show _ ≤ _ + 1 + 1; omega) _).setCell (p := ⟨w.heap.size + 1 + 1, 3, none⟩) (by show _ ≤ _ + 1 + 1; omega) _).setCell (p := ⟨w.heap.size + 1 + 1, 4, none⟩) (by show _ ≤ _ + 1 + 1; omega) _).setCell (p := ⟨w.heap.size + 1 + 1, 5, none⟩) (by show _ ≤ _ + 1 + 1; omega) _).setCell (p := ⟨w.heap.size + 1 + 1, 6, none⟩) (by show _ ≤ _ + 1 + 1; omega) _).setCell (p := ⟨w.heap.size + 1 + 1, 7, none⟩) (by show _ ≤ _ + 1 + 1; omega) _).setCell (p := ⟨w.heap.size + 1 + 1, 8, none⟩) (by show _ ≤ _ + 1 + 1; omega) _).setCell (p := ⟨w.heap.size + 1 + 1, 9, none⟩) (by show _ ≤ _ + 1 + 1; omega) _).setCell (p := ⟨w.heap.size + 1 + 1, 10, none⟩) (by show _ ≤ _ + 1 + 1; omega) _).setCell (p := ⟨w.heap.size + 1 + 1, 11, none⟩) (by show _ ≤ _ + 1 + 1; omega) _
  have hmu : Mut (fun b => b = w.heap.size ∨ b = w.heap.size + 1 + 1) w1 WE := by
    rw [← hWE]
    exact Mut.setCell (T := fun b => b = w.heap.size ∨ b = w.heap.size + 1 + 1) (Mut.setCell (T := fun b => b = w.heap.size ∨ b = w.heap.size + 1 + 1) (Mut.setCell (T := fun b => b = w.heap.size ∨ b = w.heap.size + 1 + 1) (Mut.setCell (T := fun b => b = w.heap.size ∨ b = w.heap.size + 1 + 1) (Mut.setCell (T := fun b => b = w.heap.size ∨ b = w.heap.size + 1 + 1) (Mut.setCell (T := fun b => b = w.heap.size ∨ b = w.heap.size + 1 + 1) (Mut.setCell (T := fun b => b = w.heap.size ∨ b = w.heap.size + 1 + 1) (Mut.setCell (T := fun b => b = w.heap.size ∨ b = w.heap.size + 1 + 1) (Mut.setCell (T := fun b => b = w.heap.size ∨ b = w.heap.size + 1 + 1) (Mut.setCell (T := fun b => b = w.heap.size ∨ b = w.heap.size + 1 + 1) (Mut.setCell (T := fun b => b = w.heap.size ∨ b = w.heap.size + 1 + 1) (Mut.setCell (T := fun b => b = w.heap.size ∨ b = w.heap.size + 1 + 1) (Mut.setCell (T := fun b => b = w.heap.size ∨ b = w.heap.size + 1 + 1) (Mut.refl _ _) (p := ⟨w.heap.size, 8, none⟩) (fun _ => .inl rfl) _) (p := ⟨w.heap.size + 1 + 1, 0, none⟩) (fun _ => .inr rfl) _) (p := ⟨w.heap.size + 1 + 1, 1, none⟩) (fun _ => .inr rfl) _) (p := ⟨w.heap.size + 1 + 1, 2, none⟩) (fun _ => .inr rfl) _) (p := ⟨w.heap.size + 1 + 1, 3, none⟩) (fun _ => .inr rfl) _) (p := ⟨w.heap.size + 1 + 1, 4, none⟩) (fun _ => .inr rfl) _) (p := ⟨w.heap.size + 1 + 1, 5, none⟩) (fun _ => .inr rfl) _) (p := ⟨w.heap.size + 1 + 1, 6, none⟩) (fun _ => .inr rfl) _) (p := ⟨w.heap.size + 1 + 1, 7, none⟩) (fun _ => .inr rfl) _) (p := ⟨w.heap.size + 1 + 1, 8, none⟩) (fun _ => .inr rfl) _) (p := ⟨w.heap.size + 1 + 1, 9, none⟩) (fun _ => .inr rfl) _) (p := ⟨w.heap.size + 1 + 1, 10, none⟩) (fun _ => .inr rfl) _) (p := ⟨w.heap.size + 1 + 1, 11, none⟩) (fun _ => .inr rfl) _
  have r0 := cell_of_blk ho 0
  have r1 := cell_of_blk ho 1
  have r2 := cell_of_blk ho 2
  have r3 := cell_of_blk ho 3
  have r4 := cell_of_blk ho 4
  have r5 := cell_of_blk ho 5
  have r6 := cell_of_blk ho 6
  have r7 := cell_of_blk ho 7
  have r8 := cell_of_blk ho 8
  have r9 := cell_of_blk ho 9
  have r10 := cell_of_blk ho 10
  have r11 := cell_of_blk ho 11
  have hNs := HSZ.out
  have hon := own_base (own_mut HO.out hmu (fun b hb h => by have := (HO.out.lt b hb).1; omega)) (show w.heap.size ≤ N.heap.size by omega)
  refine bodyPost_ret (v := .agg #[.int .u64 Pp, .int .u64 Dd, .int .u64 Mm, .slice A3 n3 c3, .slice A4 n4 c4, .slice A5 n5 c5, .slice A6 n6 c6, .slice A7 n7 c7, .slice A' Ln c', .slice A9 n9 c9, .slice A10 n10 c10, .slice A11 n11 c11]) (by simp [results, Tryz.results63, go_sem, r0, r1, r2, r3, r4, r5, r6, r7, r8, r9, r10, r11]) rfl ⟨A', c', Ln, rfl, HLN.out.symm, hon, hbe⟩
end Go.Proofs.YtgpkmellpllmgaaGreat
/-
  fold.kept. Printed by gfold2.py.
-/
set_option linter.unusedVariables false
set_option linter.unusedSimpArgs false
namespace Go.Proofs.YtgpkmellpllmgaaGreat
open Go Go.RowKit Go.Proofs.Base
open Go.Sort (grow)
set_option maxRecDepth 100000 in
set_option maxHeartbeats 4000000 in
theorem ev_kept (Pp Dd Mm : Int) (A3 : Option Addr) (n3 c3 : Nat) (A4 : Option Addr) (n4 c4 : Nat) (A5 : Option Addr) (n5 c5 : Nat) (A6 : Option Addr) (n6 c6 : Nat) (A7 : Option Addr) (n7 c7 : Nat) (A8 : Option Addr) (n8 c8 : Nat) (A9 : Option Addr) (n9 c9 : Nat) (A10 : Option Addr) (n10 c10 : Nat) (A11 : Option Addr) (n11 c11 : Nat) (r : GRec) (vA : Option Addr) (vN vC : Nat) (l : List EKept) (w : World) (S : Nat → Prop) (hl : l.length = n9) (hby : (n9 + 1) * 24 ≤ 140737488355328) (hr : Row w S 3 n9 (.slice A9 n9 c9) (l.flatMap encKept)) :
    Calls Tryz.prog 68 #[.agg #[.int .u64 Pp, .int .u64 Dd, .int .u64 Mm, .slice A3 n3 c3, .slice A4 n4 c4, .slice A5 n5 c5, .slice A6 n6 c6, .slice A7 n7 c7, .slice A8 n8 c8, .slice A9 n9 c9, .slice A10 n10 c10, .slice A11 n11 c11], .agg #[.int .i64 r.cls, .int .i64 r.kind, .int .u64 r.frm, .int .i64 r.time, .int .u64 r.key, .int .u64 r.key2, .int .u64 r.key3, .int .i64 r.n, .int .i64 r.m, .string r.a, .string r.b, .string r.c, .slice vA vN vC]] w fun e w' => ∃ A' c' Ln, e = .returned (.agg #[.int .u64 Pp, .int .u64 Dd, .int .u64 Mm, .slice A3 n3 c3, .slice A4 n4 c4, .slice A5 n5 c5, .slice A6 n6 c6, .slice A7 n7 c7, .slice A8 n8 c8, .slice A' Ln c', .slice A10 n10 c10, .slice A11 n11 c11]) ∧ Ln = (putL cmpKept ⟨r.key, r.key2, r.n⟩ l).length ∧ w'.ownsRow w.heap.size 75 3 (.slice A' Ln c') Ln ((putL cmpKept ⟨r.key, r.key2, r.n⟩ l).flatMap encKept) ∧ Below w.heap.size w w' := by
  obtain ⟨N, hN⟩ : ∃ N, N = ((w.alloc (.cells #[.int .u64 Pp, .int .u64 Dd, .int .u64 Mm, .slice A3 n3 c3, .slice A4 n4 c4, .slice A5 n5 c5, .slice A6 n6 c6, .slice A7 n7 c7, .slice A8 n8 c8, .slice A9 n9 c9, .slice A10 n10 c10, .slice A11 n11 c11] 35)).alloc (.cells #[.int .i64 r.cls, .int .i64 r.kind, .int .u64 r.frm, .int .i64 r.time, .int .u64 r.key, .int .u64 r.key2, .int .u64 r.key3, .int .i64 r.n, .int .i64 r.m, .string r.a, .string r.b, .string r.c, .slice vA vN vC] 39)).alloc (.cells #[.int .u64 0, .int .u64 0, .int .u64 0, .slice none 0 0, .slice none 0 0, .slice none 0 0, .slice none 0 0, .slice none 0 0, .slice none 0 0, .slice none 0 0, .slice none 0 0, .slice none 0 0] 35) := ⟨_, rfl⟩
  have b0 : N.heap[w.heap.size]? = some (.cells #[.int .u64 Pp, .int .u64 Dd, .int .u64 Mm, .slice A3 n3 c3, .slice A4 n4 c4, .slice A5 n5 c5, .slice A6 n6 c6, .slice A7 n7 c7, .slice A8 n8 c8, .slice A9 n9 c9, .slice A10 n10 c10, .slice A11 n11 c11] 35 (0, 0)) := by rw [hN]; exact blk_alloc (blk_alloc (blk_new _) _) _
  have b1 : recB N (w.heap.size + 1) r vA vN vC := by rw [hN]; exact blk_alloc (blk_new_of _ (by simp)) _
  have b2 : N.heap[w.heap.size + 1 + 1]? = some (.cells #[.int .u64 0, .int .u64 0, .int .u64 0, .slice none 0 0, .slice none 0 0, .slice none 0 0, .slice none 0 0, .slice none 0 0, .slice none 0 0, .slice none 0 0, .slice none 0 0, .slice none 0 0] 35 (0, 0)) := by rw [hN]; exact blk_new_of _ (by simp)
  have hB : Below w.heap.size w N := by rw [hN]; exact below_alloc (below_alloc (below_alloc (Below.refl _ _) _) _) _
  have hsz : N.heap.size = w.heap.size + 3 := by rw [hN]; simp
  have HN := Lib.hid hN
  have HB := Lib.hid hB
  have HSZ := Lib.hid hsz
  have K0 := Lib.hid b0
  have K1 := Lib.hid b1
  have K2 := Lib.hid b2
  have HPUT := Lib.hid (put_Kept A9 n9 c9 ⟨r.key, r.key2, r.n⟩ l N S hl hby (hr.below hB))
  clear hN hB hsz b0 b1 b2 hr hl
  have k0 := K0.out
  have k1 := K1.out
  go_enter Tryz.func68, Tryz.ntmps68
  go_wp2_with fail
  rw [show ((w.alloc (.cells #[.int .u64 Pp, .int .u64 Dd, .int .u64 Mm, .slice A3 n3 c3, .slice A4 n4 c4, .slice A5 n5 c5, .slice A6 n6 c6, .slice A7 n7 c7, .slice A8 n8 c8, .slice A9 n9 c9, .slice A10 n10 c10, .slice A11 n11 c11] 35)).alloc (.cells #[.int .i64 r.cls, .int .i64 r.kind, .int .u64 r.frm, .int .i64 r.time, .int .u64 r.key, .int .u64 r.key2, .int .u64 r.key3, .int .i64 r.n, .int .i64 r.m, .string r.a, .string r.b, .string r.c, .slice vA vN vC] 39)).alloc (.cells #[.int .u64 0, .int .u64 0, .int .u64 0, .slice none 0 0, .slice none 0 0, .slice none 0 0, .slice none 0 0, .slice none 0 0, .slice none 0 0, .slice none 0 0, .slice none 0 0, .slice none 0 0] 35) = N from HN.out.symm]
  have s0 := cell_of_blk k0 0
  have s1 := cell_of_blk k0 1
  have s2 := cell_of_blk k0 2
  have s3 := cell_of_blk k0 3
  have s4 := cell_of_blk k0 4
  have s5 := cell_of_blk k0 5
  have s6 := cell_of_blk k0 6
  have s7 := cell_of_blk k0 7
  have s8 := cell_of_blk k0 8
  have s9 := cell_of_blk k0 9
  have s10 := cell_of_blk k0 10
  have s11 := cell_of_blk k0 11
  have q0 := cell_of_blk k1 0
  have q1 := cell_of_blk k1 1
  have q2 := cell_of_blk k1 2
  have q3 := cell_of_blk k1 3
  have q4 := cell_of_blk k1 4
  have q5 := cell_of_blk k1 5
  have q6 := cell_of_blk k1 6
  have q7 := cell_of_blk k1 7
  have q8 := cell_of_blk k1 8
  have q9 := cell_of_blk k1 9
  have q10 := cell_of_blk k1 10
  have q11 := cell_of_blk k1 11
  have q12 := cell_of_blk k1 12
  clear k0 k1
  go_wp2_with fail
  refine HPUT.out.mono ?_
  rintro e w1 ⟨A', c', rfl, hown, hb⟩
  generalize hLn : (putL cmpKept ⟨r.key, r.key2, r.n⟩ l).length = Ln at *
  have HLN := Lib.hid hLn
  have HO := Lib.hid hown
  have HWB := Lib.hid (below2 HB.out hb)
  have k0 := block_below hb K0.out
  have k2 := block_below hb K2.out
  clear hLn hown s0 s1 s2 s3 s4 s5 s6 s7 s8 s9 s10 s11 q0 q1 q2 q3 q4 q5 q6 q7 q8 q9 q10 q11 q12
  have s0 := cell_of_blk k0 0
  have s1 := cell_of_blk k0 1
  have s2 := cell_of_blk k0 2
  have s3 := cell_of_blk k0 3
  have s4 := cell_of_blk k0 4
  have s5 := cell_of_blk k0 5
  have s6 := cell_of_blk k0 6
  have s7 := cell_of_blk k0 7
  have s8 := cell_of_blk k0 8
  have s9 := cell_of_blk k0 9
  have s10 := cell_of_blk k0 10
  have s11 := cell_of_blk k0 11
  have f0 := frozen_of_blk k0 0
  have f1 := frozen_of_blk k0 1
  have f2 := frozen_of_blk k0 2
  have f3 := frozen_of_blk k0 3
  have f4 := frozen_of_blk k0 4
  have f5 := frozen_of_blk k0 5
  have f6 := frozen_of_blk k0 6
  have f7 := frozen_of_blk k0 7
  have f8 := frozen_of_blk k0 8
  have f9 := frozen_of_blk k0 9
  have f10 := frozen_of_blk k0 10
  have f11 := frozen_of_blk k0 11
  have z0 := cell_of_blk k2 0
  have z1 := cell_of_blk k2 1
  have z2 := cell_of_blk k2 2
  have z3 := cell_of_blk k2 3
  have z4 := cell_of_blk k2 4
  have z5 := cell_of_blk k2 5
  have z6 := cell_of_blk k2 6
  have z7 := cell_of_blk k2 7
  have z8 := cell_of_blk k2 8
  have z9 := cell_of_blk k2 9
  have z10 := cell_of_blk k2 10
  have z11 := cell_of_blk k2 11
  have g0 := frozen_of_blk k2 0
  have g1 := frozen_of_blk k2 1
  have g2 := frozen_of_blk k2 2
  have g3 := frozen_of_blk k2 3
  have g4 := frozen_of_blk k2 4
  have g5 := frozen_of_blk k2 5
  have g6 := frozen_of_blk k2 6
  have g7 := frozen_of_blk k2 7
  have g8 := frozen_of_blk k2 8
  have g9 := frozen_of_blk k2 9
  have g10 := frozen_of_blk k2 10
  have g11 := frozen_of_blk k2 11
  have KZ := Lib.hid k2
  have KS := Lib.hid k0
  clear hb k0 k2
  go_wp2_with fail
  generalize hWE : World.setCell (World.setCell (World.setCell (World.setCell (World.setCell (World.setCell (World.setCell (World.setCell (World.setCell (World.setCell (World.setCell (World.setCell (World.setCell (_) _ _) _ _) _ _) _ _) _ _) _ _) _ _) _ _) _ _) _ _) _ _) _ _) _ _ = WE
  have ho : WE.heap[w.heap.size + 1 + 1]? = some (.cells #[.int .u64 Pp, .int .u64 Dd, .int .u64 Mm, .slice A3 n3 c3, .slice A4 n4 c4, .slice A5 n5 c5, .slice A6 n6 c6, .slice A7 n7 c7, .slice A8 n8 c8, .slice A' Ln c', .slice A10 n10 c10, .slice A11 n11 c11] 35 (0, 0)) := by rw [← hWE]; exact set_blk12 (blk_set_other (b := w.heap.size) (o := 9) (KZ.out) (by omega)) (.int .u64 Pp) (.int .u64 Dd) (.int .u64 Mm) (.slice A3 n3 c3) (.slice A4 n4 c4) (.slice A5 n5 c5) (.slice A6 n6 c6) (.slice A7 n7 c7) (.slice A8 n8 c8) (.slice A' Ln c') (.slice A10 n10 c10) (.slice A11 n11 c11)
  have hbe : Below w.heap.size w WE := by rw [← hWE]; exact (((((((((((((HWB.out).setCell (p := ⟨w.heap.size, 9, none⟩) (Nat.le_refl _) _).setCell (p := ⟨w.heap.size + 1 + 1, 0, none⟩) (by show _ ≤ _ + 1 + 1; omega) _).setCell (p := ⟨w.heap.size + 1 + 1, 1, none⟩) (by show _ ≤ _ + 1 + 1; omega) _).setCell (p := ⟨w.heap.size + 1 + 1, 2, none⟩) (by show _ ≤ _ + 1 + 1; omega) _).setCell (p := ⟨w.heap.size + 1 + 1, 3, none⟩) (by show _ ≤ _ + 1 + 1; omega) _).setCell (p := ⟨w.heap.size + 1 + 1, 4, none⟩) (by show _ ≤ _ + 1 + 1; omega) _).setCell (p := ⟨w.heap.size + 1 + 1, 5, none⟩) (by show _ ≤ _ + 1 + 1; omega) _).setCell (p := ⟨w.heap.size + 1 + 1, 6, none⟩) (by show _ ≤ _ + 1 + 1; omega) _).setCell (p := ⟨w.heap.size + 1 + 1, 7, none⟩) (by show _ ≤ _ + 1 + 1; omega) _).setCell (p := ⟨w.heap.size + 1 + 1, 8, none⟩) (by show _ ≤ _ + 1 + 1; omega) _).setCell (p := ⟨w.heap.size + 1 + 1, 9, none⟩) (by show _ ≤ _ + 1 + 1; omega) _).setCell (p := ⟨w.heap.size + 1 + 1, 10, none⟩) (by show _ ≤ _ + 1 + 1; omega) _).setCell (p := ⟨w.heap.size + 1 + 1, 11, none⟩) (by show _ ≤ _ + 1 + 1; omega) _
  have hmu : Mut (fun b => b = w.heap.size ∨ b = w.heap.size + 1 + 1) w1 WE := by
    rw [← hWE]
    exact Mut.setCell (T := fun b => b = w.heap.size ∨ b = w.heap.size + 1 + 1) (Mut.setCell (T := fun b => b = w.heap.size ∨ b = w.heap.size + 1 + 1) (Mut.setCell (T := fun b => b = w.heap.size ∨ b = w.heap.size + 1 + 1) (Mut.setCell (T := fun b => b = w.heap.size ∨ b = w.heap.size + 1 + 1) (Mut.setCell (T := fun b => b = w.heap.size ∨ b = w.heap.size + 1 + 1) (Mut.setCell (T := fun b => b = w.heap.size ∨ b = w.heap.size + 1 + 1) (Mut.setCell (T := fun b => b = w.heap.size ∨ b = w.heap.size + 1 + 1) (Mut.setCell (T := fun b => b = w.heap.size ∨ b = w.heap.size + 1 + 1) (Mut.setCell (T := fun b => b = w.heap.size ∨ b = w.heap.size + 1 + 1) (Mut.setCell (T := fun b => b = w.heap.size ∨ b = w.heap.size + 1 + 1) (Mut.setCell (T := fun b => b = w.heap.size ∨ b = w.heap.size + 1 + 1) (Mut.setCell (T := fun b => b = w.heap.size ∨ b = w.heap.size + 1 + 1) (Mut.setCell (T := fun b => b = w.heap.size ∨ b = w.heap.size + 1 + 1) (Mut.refl _ _) (p := ⟨w.heap.size, 9, none⟩) (fun _ => .inl rfl) _) (p := ⟨w.heap.size + 1 + 1, 0, none⟩) (fun _ => .inr rfl) _) (p := ⟨w.heap.size + 1 + 1, 1, none⟩) (fun _ => .inr rfl) _) (p := ⟨w.heap.size + 1 + 1, 2, none⟩) (fun _ => .inr rfl) _) (p := ⟨w.heap.size + 1 + 1, 3, none⟩) (fun _ => .inr rfl) _) (p := ⟨w.heap.size + 1 + 1, 4, none⟩) (fun _ => .inr rfl) _) (p := ⟨w.heap.size + 1 + 1, 5, none⟩) (fun _ => .inr rfl) _) (p := ⟨w.heap.size + 1 + 1, 6, none⟩) (fun _ => .inr rfl) _) (p := ⟨w.heap.size + 1 + 1, 7, none⟩) (fun _ => .inr rfl) _) (p := ⟨w.heap.size + 1 + 1, 8, none⟩) (fun _ => .inr rfl) _) (p := ⟨w.heap.size + 1 + 1, 9, none⟩) (fun _ => .inr rfl) _) (p := ⟨w.heap.size + 1 + 1, 10, none⟩) (fun _ => .inr rfl) _) (p := ⟨w.heap.size + 1 + 1, 11, none⟩) (fun _ => .inr rfl) _
  have r0 := cell_of_blk ho 0
  have r1 := cell_of_blk ho 1
  have r2 := cell_of_blk ho 2
  have r3 := cell_of_blk ho 3
  have r4 := cell_of_blk ho 4
  have r5 := cell_of_blk ho 5
  have r6 := cell_of_blk ho 6
  have r7 := cell_of_blk ho 7
  have r8 := cell_of_blk ho 8
  have r9 := cell_of_blk ho 9
  have r10 := cell_of_blk ho 10
  have r11 := cell_of_blk ho 11
  have hNs := HSZ.out
  have hon := own_base (own_mut HO.out hmu (fun b hb h => by have := (HO.out.lt b hb).1; omega)) (show w.heap.size ≤ N.heap.size by omega)
  refine bodyPost_ret (v := .agg #[.int .u64 Pp, .int .u64 Dd, .int .u64 Mm, .slice A3 n3 c3, .slice A4 n4 c4, .slice A5 n5 c5, .slice A6 n6 c6, .slice A7 n7 c7, .slice A8 n8 c8, .slice A' Ln c', .slice A10 n10 c10, .slice A11 n11 c11]) (by simp [results, Tryz.results68, go_sem, r0, r1, r2, r3, r4, r5, r6, r7, r8, r9, r10, r11]) rfl ⟨A', c', Ln, rfl, HLN.out.symm, hon, hbe⟩
end Go.Proofs.YtgpkmellpllmgaaGreat
/-
  fold.listed. Printed by gfold2.py.
-/
set_option linter.unusedVariables false
set_option linter.unusedSimpArgs false
namespace Go.Proofs.YtgpkmellpllmgaaGreat
open Go Go.RowKit Go.Proofs.Base
open Go.Sort (grow)
set_option maxRecDepth 100000 in
set_option maxHeartbeats 4000000 in
theorem ev_listed (Pp Dd Mm : Int) (A3 : Option Addr) (n3 c3 : Nat) (A4 : Option Addr) (n4 c4 : Nat) (A5 : Option Addr) (n5 c5 : Nat) (A6 : Option Addr) (n6 c6 : Nat) (A7 : Option Addr) (n7 c7 : Nat) (A8 : Option Addr) (n8 c8 : Nat) (A9 : Option Addr) (n9 c9 : Nat) (A10 : Option Addr) (n10 c10 : Nat) (A11 : Option Addr) (n11 c11 : Nat) (r : GRec) (vA : Option Addr) (vN vC : Nat) (l : List ELst) (w : World) (S : Nat → Prop) (hl : l.length = n10) (hby : (n10 + 1) * 88 ≤ 140737488355328) (hr : Row w S 7 n10 (.slice A10 n10 c10) (l.flatMap encLst)) :
    Calls Tryz.prog 69 #[.agg #[.int .u64 Pp, .int .u64 Dd, .int .u64 Mm, .slice A3 n3 c3, .slice A4 n4 c4, .slice A5 n5 c5, .slice A6 n6 c6, .slice A7 n7 c7, .slice A8 n8 c8, .slice A9 n9 c9, .slice A10 n10 c10, .slice A11 n11 c11], .agg #[.int .i64 r.cls, .int .i64 r.kind, .int .u64 r.frm, .int .i64 r.time, .int .u64 r.key, .int .u64 r.key2, .int .u64 r.key3, .int .i64 r.n, .int .i64 r.m, .string r.a, .string r.b, .string r.c, .slice vA vN vC]] w fun e w' => ∃ A' c' Ln, e = .returned (.agg #[.int .u64 Pp, .int .u64 Dd, .int .u64 Mm, .slice A3 n3 c3, .slice A4 n4 c4, .slice A5 n5 c5, .slice A6 n6 c6, .slice A7 n7 c7, .slice A8 n8 c8, .slice A9 n9 c9, .slice A' Ln c', .slice A11 n11 c11]) ∧ Ln = (putL cmpLst ⟨r.key, r.key2, r.n, r.a, r.b, 0, none, 0, 0, []⟩ l).length ∧ w'.ownsRow w.heap.size 68 7 (.slice A' Ln c') Ln ((putL cmpLst ⟨r.key, r.key2, r.n, r.a, r.b, 0, none, 0, 0, []⟩ l).flatMap encLst) ∧ Below w.heap.size w w' := by
  obtain ⟨N, hN⟩ : ∃ N, N = ((w.alloc (.cells #[.int .u64 Pp, .int .u64 Dd, .int .u64 Mm, .slice A3 n3 c3, .slice A4 n4 c4, .slice A5 n5 c5, .slice A6 n6 c6, .slice A7 n7 c7, .slice A8 n8 c8, .slice A9 n9 c9, .slice A10 n10 c10, .slice A11 n11 c11] 35)).alloc (.cells #[.int .i64 r.cls, .int .i64 r.kind, .int .u64 r.frm, .int .i64 r.time, .int .u64 r.key, .int .u64 r.key2, .int .u64 r.key3, .int .i64 r.n, .int .i64 r.m, .string r.a, .string r.b, .string r.c, .slice vA vN vC] 39)).alloc (.cells #[.int .u64 0, .int .u64 0, .int .u64 0, .slice none 0 0, .slice none 0 0, .slice none 0 0, .slice none 0 0, .slice none 0 0, .slice none 0 0, .slice none 0 0, .slice none 0 0, .slice none 0 0] 35) := ⟨_, rfl⟩
  have b0 : N.heap[w.heap.size]? = some (.cells #[.int .u64 Pp, .int .u64 Dd, .int .u64 Mm, .slice A3 n3 c3, .slice A4 n4 c4, .slice A5 n5 c5, .slice A6 n6 c6, .slice A7 n7 c7, .slice A8 n8 c8, .slice A9 n9 c9, .slice A10 n10 c10, .slice A11 n11 c11] 35 (0, 0)) := by rw [hN]; exact blk_alloc (blk_alloc (blk_new _) _) _
  have b1 : recB N (w.heap.size + 1) r vA vN vC := by rw [hN]; exact blk_alloc (blk_new_of _ (by simp)) _
  have b2 : N.heap[w.heap.size + 1 + 1]? = some (.cells #[.int .u64 0, .int .u64 0, .int .u64 0, .slice none 0 0, .slice none 0 0, .slice none 0 0, .slice none 0 0, .slice none 0 0, .slice none 0 0, .slice none 0 0, .slice none 0 0, .slice none 0 0] 35 (0, 0)) := by rw [hN]; exact blk_new_of _ (by simp)
  have hB : Below w.heap.size w N := by rw [hN]; exact below_alloc (below_alloc (below_alloc (Below.refl _ _) _) _) _
  have hsz : N.heap.size = w.heap.size + 3 := by rw [hN]; simp
  have HN := Lib.hid hN
  have HB := Lib.hid hB
  have HSZ := Lib.hid hsz
  have K0 := Lib.hid b0
  have K1 := Lib.hid b1
  have K2 := Lib.hid b2
  have HPUT := Lib.hid (put_Lst A10 n10 c10 ⟨r.key, r.key2, r.n, r.a, r.b, 0, none, 0, 0, []⟩ l N S hl hby (hr.below hB))
  clear hN hB hsz b0 b1 b2 hr hl
  have k0 := K0.out
  have k1 := K1.out
  go_enter Tryz.func69, Tryz.ntmps69
  go_wp2_with fail
  rw [show ((w.alloc (.cells #[.int .u64 Pp, .int .u64 Dd, .int .u64 Mm, .slice A3 n3 c3, .slice A4 n4 c4, .slice A5 n5 c5, .slice A6 n6 c6, .slice A7 n7 c7, .slice A8 n8 c8, .slice A9 n9 c9, .slice A10 n10 c10, .slice A11 n11 c11] 35)).alloc (.cells #[.int .i64 r.cls, .int .i64 r.kind, .int .u64 r.frm, .int .i64 r.time, .int .u64 r.key, .int .u64 r.key2, .int .u64 r.key3, .int .i64 r.n, .int .i64 r.m, .string r.a, .string r.b, .string r.c, .slice vA vN vC] 39)).alloc (.cells #[.int .u64 0, .int .u64 0, .int .u64 0, .slice none 0 0, .slice none 0 0, .slice none 0 0, .slice none 0 0, .slice none 0 0, .slice none 0 0, .slice none 0 0, .slice none 0 0, .slice none 0 0] 35) = N from HN.out.symm]
  have s0 := cell_of_blk k0 0
  have s1 := cell_of_blk k0 1
  have s2 := cell_of_blk k0 2
  have s3 := cell_of_blk k0 3
  have s4 := cell_of_blk k0 4
  have s5 := cell_of_blk k0 5
  have s6 := cell_of_blk k0 6
  have s7 := cell_of_blk k0 7
  have s8 := cell_of_blk k0 8
  have s9 := cell_of_blk k0 9
  have s10 := cell_of_blk k0 10
  have s11 := cell_of_blk k0 11
  have q0 := cell_of_blk k1 0
  have q1 := cell_of_blk k1 1
  have q2 := cell_of_blk k1 2
  have q3 := cell_of_blk k1 3
  have q4 := cell_of_blk k1 4
  have q5 := cell_of_blk k1 5
  have q6 := cell_of_blk k1 6
  have q7 := cell_of_blk k1 7
  have q8 := cell_of_blk k1 8
  have q9 := cell_of_blk k1 9
  have q10 := cell_of_blk k1 10
  have q11 := cell_of_blk k1 11
  have q12 := cell_of_blk k1 12
  clear k0 k1
  go_wp2_with fail
  refine HPUT.out.mono ?_
  rintro e w1 ⟨A', c', rfl, hown, hb⟩
  generalize hLn : (putL cmpLst ⟨r.key, r.key2, r.n, r.a, r.b, 0, none, 0, 0, []⟩ l).length = Ln at *
  have HLN := Lib.hid hLn
  have HO := Lib.hid hown
  have HWB := Lib.hid (below2 HB.out hb)
  have k0 := block_below hb K0.out
  have k2 := block_below hb K2.out
  clear hLn hown s0 s1 s2 s3 s4 s5 s6 s7 s8 s9 s10 s11 q0 q1 q2 q3 q4 q5 q6 q7 q8 q9 q10 q11 q12
  have s0 := cell_of_blk k0 0
  have s1 := cell_of_blk k0 1
  have s2 := cell_of_blk k0 2
  have s3 := cell_of_blk k0 3
  have s4 := cell_of_blk k0 4
  have s5 := cell_of_blk k0 5
  have s6 := cell_of_blk k0 6
  have s7 := cell_of_blk k0 7
  have s8 := cell_of_blk k0 8
  have s9 := cell_of_blk k0 9
  have s10 := cell_of_blk k0 10
  have s11 := cell_of_blk k0 11
  have f0 := frozen_of_blk k0 0
  have f1 := frozen_of_blk k0 1
  have f2 := frozen_of_blk k0 2
  have f3 := frozen_of_blk k0 3
  have f4 := frozen_of_blk k0 4
  have f5 := frozen_of_blk k0 5
  have f6 := frozen_of_blk k0 6
  have f7 := frozen_of_blk k0 7
  have f8 := frozen_of_blk k0 8
  have f9 := frozen_of_blk k0 9
  have f10 := frozen_of_blk k0 10
  have f11 := frozen_of_blk k0 11
  have z0 := cell_of_blk k2 0
  have z1 := cell_of_blk k2 1
  have z2 := cell_of_blk k2 2
  have z3 := cell_of_blk k2 3
  have z4 := cell_of_blk k2 4
  have z5 := cell_of_blk k2 5
  have z6 := cell_of_blk k2 6
  have z7 := cell_of_blk k2 7
  have z8 := cell_of_blk k2 8
  have z9 := cell_of_blk k2 9
  have z10 := cell_of_blk k2 10
  have z11 := cell_of_blk k2 11
  have g0 := frozen_of_blk k2 0
  have g1 := frozen_of_blk k2 1
  have g2 := frozen_of_blk k2 2
  have g3 := frozen_of_blk k2 3
  have g4 := frozen_of_blk k2 4
  have g5 := frozen_of_blk k2 5
  have g6 := frozen_of_blk k2 6
  have g7 := frozen_of_blk k2 7
  have g8 := frozen_of_blk k2 8
  have g9 := frozen_of_blk k2 9
  have g10 := frozen_of_blk k2 10
  have g11 := frozen_of_blk k2 11
  have KZ := Lib.hid k2
  have KS := Lib.hid k0
  clear hb k0 k2
  go_wp2_with fail
  generalize hWE : World.setCell (World.setCell (World.setCell (World.setCell (World.setCell (World.setCell (World.setCell (World.setCell (World.setCell (World.setCell (World.setCell (World.setCell (World.setCell (_) _ _) _ _) _ _) _ _) _ _) _ _) _ _) _ _) _ _) _ _) _ _) _ _) _ _ = WE
  have ho : WE.heap[w.heap.size + 1 + 1]? = some (.cells #[.int .u64 Pp, .int .u64 Dd, .int .u64 Mm, .slice A3 n3 c3, .slice A4 n4 c4, .slice A5 n5 c5, .slice A6 n6 c6, .slice A7 n7 c7, .slice A8 n8 c8, .slice A9 n9 c9, .slice A' Ln c', .slice A11 n11 c11] 35 (0, 0)) := by rw [← hWE]; exact set_blk12 (blk_set_other (b := w.heap.size) (o := 10) (KZ.out) (by omega)) (.int .u64 Pp) (.int .u64 Dd) (.int .u64 Mm) (.slice A3 n3 c3) (.slice A4 n4 c4) (.slice A5 n5 c5) (.slice A6 n6 c6) (.slice A7 n7 c7) (.slice A8 n8 c8) (.slice A9 n9 c9) (.slice A' Ln c') (.slice A11 n11 c11)
  have hbe : Below w.heap.size w WE := by rw [← hWE]; exact (((((((((((((HWB.out).setCell (p := ⟨w.heap.size, 10, none⟩) (Nat.le_refl _) _).setCell (p := ⟨w.heap.size + 1 + 1, 0, none⟩) (by show _ ≤ _ + 1 + 1; omega) _).setCell (p := ⟨w.heap.size + 1 + 1, 1, none⟩) (by show _ ≤ _ + 1 + 1; omega) _).setCell (p := ⟨w.heap.size + 1 + 1, 2, none⟩) (by show _ ≤ _ + 1 + 1; omega) _).setCell (p := ⟨w.heap.size + 1 + 1, 3, none⟩) (by show _ ≤ _ + 1 + 1; omega) _).setCell (p := ⟨w.heap.size + 1 + 1, 4, none⟩) (by show _ ≤ _ + 1 + 1; omega) _).setCell (p := ⟨w.heap.size + 1 + 1, 5, none⟩) (by show _ ≤ _ + 1 + 1; omega) _).setCell (p := ⟨w.heap.size + 1 + 1, 6, none⟩) (by show _ ≤ _ + 1 + 1; omega) _).setCell (p := ⟨w.heap.size + 1 + 1, 7, none⟩) (by show _ ≤ _ + 1 + 1; omega) _).setCell (p := ⟨w.heap.size + 1 + 1, 8, none⟩) (by show _ ≤ _ + 1 + 1; omega) _).setCell (p := ⟨w.heap.size + 1 + 1, 9, none⟩) (by show _ ≤ _ + 1 + 1; omega) _).setCell (p := ⟨w.heap.size + 1 + 1, 10, none⟩) (by show _ ≤ _ + 1 + 1; omega) _).setCell (p := ⟨w.heap.size + 1 + 1, 11, none⟩) (by show _ ≤ _ + 1 + 1; omega) _
  have hmu : Mut (fun b => b = w.heap.size ∨ b = w.heap.size + 1 + 1) w1 WE := by
    rw [← hWE]
    exact Mut.setCell (T := fun b => b = w.heap.size ∨ b = w.heap.size + 1 + 1) (Mut.setCell (T := fun b => b = w.heap.size ∨ b = w.heap.size + 1 + 1) (Mut.setCell (T := fun b => b = w.heap.size ∨ b = w.heap.size + 1 + 1) (Mut.setCell (T := fun b => b = w.heap.size ∨ b = w.heap.size + 1 + 1) (Mut.setCell (T := fun b => b = w.heap.size ∨ b = w.heap.size + 1 + 1) (Mut.setCell (T := fun b => b = w.heap.size ∨ b = w.heap.size + 1 + 1) (Mut.setCell (T := fun b => b = w.heap.size ∨ b = w.heap.size + 1 + 1) (Mut.setCell (T := fun b => b = w.heap.size ∨ b = w.heap.size + 1 + 1) (Mut.setCell (T := fun b => b = w.heap.size ∨ b = w.heap.size + 1 + 1) (Mut.setCell (T := fun b => b = w.heap.size ∨ b = w.heap.size + 1 + 1) (Mut.setCell (T := fun b => b = w.heap.size ∨ b = w.heap.size + 1 + 1) (Mut.setCell (T := fun b => b = w.heap.size ∨ b = w.heap.size + 1 + 1) (Mut.setCell (T := fun b => b = w.heap.size ∨ b = w.heap.size + 1 + 1) (Mut.refl _ _) (p := ⟨w.heap.size, 10, none⟩) (fun _ => .inl rfl) _) (p := ⟨w.heap.size + 1 + 1, 0, none⟩) (fun _ => .inr rfl) _) (p := ⟨w.heap.size + 1 + 1, 1, none⟩) (fun _ => .inr rfl) _) (p := ⟨w.heap.size + 1 + 1, 2, none⟩) (fun _ => .inr rfl) _) (p := ⟨w.heap.size + 1 + 1, 3, none⟩) (fun _ => .inr rfl) _) (p := ⟨w.heap.size + 1 + 1, 4, none⟩) (fun _ => .inr rfl) _) (p := ⟨w.heap.size + 1 + 1, 5, none⟩) (fun _ => .inr rfl) _) (p := ⟨w.heap.size + 1 + 1, 6, none⟩) (fun _ => .inr rfl) _) (p := ⟨w.heap.size + 1 + 1, 7, none⟩) (fun _ => .inr rfl) _) (p := ⟨w.heap.size + 1 + 1, 8, none⟩) (fun _ => .inr rfl) _) (p := ⟨w.heap.size + 1 + 1, 9, none⟩) (fun _ => .inr rfl) _) (p := ⟨w.heap.size + 1 + 1, 10, none⟩) (fun _ => .inr rfl) _) (p := ⟨w.heap.size + 1 + 1, 11, none⟩) (fun _ => .inr rfl) _
  have r0 := cell_of_blk ho 0
  have r1 := cell_of_blk ho 1
  have r2 := cell_of_blk ho 2
  have r3 := cell_of_blk ho 3
  have r4 := cell_of_blk ho 4
  have r5 := cell_of_blk ho 5
  have r6 := cell_of_blk ho 6
  have r7 := cell_of_blk ho 7
  have r8 := cell_of_blk ho 8
  have r9 := cell_of_blk ho 9
  have r10 := cell_of_blk ho 10
  have r11 := cell_of_blk ho 11
  have hNs := HSZ.out
  have hon := own_base (own_mut HO.out hmu (fun b hb h => by have := (HO.out.lt b hb).1; omega)) (show w.heap.size ≤ N.heap.size by omega)
  refine bodyPost_ret (v := .agg #[.int .u64 Pp, .int .u64 Dd, .int .u64 Mm, .slice A3 n3 c3, .slice A4 n4 c4, .slice A5 n5 c5, .slice A6 n6 c6, .slice A7 n7 c7, .slice A8 n8 c8, .slice A9 n9 c9, .slice A' Ln c', .slice A11 n11 c11]) (by simp [results, Tryz.results69, go_sem, r0, r1, r2, r3, r4, r5, r6, r7, r8, r9, r10, r11]) rfl ⟨A', c', Ln, rfl, HLN.out.symm, hon, hbe⟩
end Go.Proofs.YtgpkmellpllmgaaGreat
/-
  fold.began. Printed by gfold2.py.
-/
set_option linter.unusedVariables false
set_option linter.unusedSimpArgs false
namespace Go.Proofs.YtgpkmellpllmgaaGreat
open Go Go.RowKit Go.Proofs.Base
open Go.Sort (grow)
set_option maxRecDepth 100000 in
set_option maxHeartbeats 4000000 in
theorem ev_began (Pp Dd Mm : Int) (A3 : Option Addr) (n3 c3 : Nat) (A4 : Option Addr) (n4 c4 : Nat) (A5 : Option Addr) (n5 c5 : Nat) (A6 : Option Addr) (n6 c6 : Nat) (A7 : Option Addr) (n7 c7 : Nat) (A8 : Option Addr) (n8 c8 : Nat) (A9 : Option Addr) (n9 c9 : Nat) (A10 : Option Addr) (n10 c10 : Nat) (A11 : Option Addr) (n11 c11 : Nat) (r : GRec) (vA : Option Addr) (vN vC : Nat) (l : List EInst) (w : World) (S : Nat → Prop) (hl : l.length = n4) (hby : (n4 + 1) * 48 ≤ 140737488355328) (hr : Row w S 3 n4 (.slice A4 n4 c4) (l.flatMap encInst)) (hvl : r.vars.length = vN) (hvb : vN * 48 ≤ 140737488355328) (hv : Row w S 4 vN (.slice vA vN vC) (r.vars.flatMap GVar.cells)) :
    Calls Tryz.prog 55 #[.agg #[.int .u64 Pp, .int .u64 Dd, .int .u64 Mm, .slice A3 n3 c3, .slice A4 n4 c4, .slice A5 n5 c5, .slice A6 n6 c6, .slice A7 n7 c7, .slice A8 n8 c8, .slice A9 n9 c9, .slice A10 n10 c10, .slice A11 n11 c11], .agg #[.int .i64 r.cls, .int .i64 r.kind, .int .u64 r.frm, .int .i64 r.time, .int .u64 r.key, .int .u64 r.key2, .int .u64 r.key3, .int .i64 r.n, .int .i64 r.m, .string r.a, .string r.b, .string r.c, .slice vA vN vC]] w fun e w' => ∃ A' c' Ln A1 c1, e = .returned (.agg #[.int .u64 Pp, .int .u64 Dd, .int .u64 (IntKind.u64.wrap (Mm + 1)), .slice A3 n3 c3, .slice A' Ln c', .slice A5 n5 c5, .slice A6 n6 c6, .slice A7 n7 c7, .slice A8 n8 c8, .slice A9 n9 c9, .slice A10 n10 c10, .slice A11 n11 c11]) ∧ Ln = (putL cmpInst ⟨r.key, r.a, A1, vN, c1, r.vars⟩ l).length ∧ w'.ownsRow w.heap.size 61 3 (.slice A' Ln c') Ln ((putL cmpInst ⟨r.key, r.a, A1, vN, c1, r.vars⟩ l).flatMap encInst) ∧ Row w' (fun b => w.heap.size ≤ b) 4 vN (.slice A1 vN c1) (r.vars.flatMap GVar.cells) ∧ Below w.heap.size w w' := by
  obtain ⟨N, hN⟩ : ∃ N, N = ((w.alloc (.cells #[.int .u64 Pp, .int .u64 Dd, .int .u64 Mm, .slice A3 n3 c3, .slice A4 n4 c4, .slice A5 n5 c5, .slice A6 n6 c6, .slice A7 n7 c7, .slice A8 n8 c8, .slice A9 n9 c9, .slice A10 n10 c10, .slice A11 n11 c11] 35)).alloc (.cells #[.int .i64 r.cls, .int .i64 r.kind, .int .u64 r.frm, .int .i64 r.time, .int .u64 r.key, .int .u64 r.key2, .int .u64 r.key3, .int .i64 r.n, .int .i64 r.m, .string r.a, .string r.b, .string r.c, .slice vA vN vC] 39)).alloc (.cells #[.int .u64 0, .int .u64 0, .int .u64 0, .slice none 0 0, .slice none 0 0, .slice none 0 0, .slice none 0 0, .slice none 0 0, .slice none 0 0, .slice none 0 0, .slice none 0 0, .slice none 0 0] 35) := ⟨_, rfl⟩
  have b0 : N.heap[w.heap.size]? = some (.cells #[.int .u64 Pp, .int .u64 Dd, .int .u64 Mm, .slice A3 n3 c3, .slice A4 n4 c4, .slice A5 n5 c5, .slice A6 n6 c6, .slice A7 n7 c7, .slice A8 n8 c8, .slice A9 n9 c9, .slice A10 n10 c10, .slice A11 n11 c11] 35 (0, 0)) := by rw [hN]; exact blk_alloc (blk_alloc (blk_new _) _) _
  have b1 : recB N (w.heap.size + 1) r vA vN vC := by rw [hN]; exact blk_alloc (blk_new_of _ (by simp)) _
  have b2 : N.heap[w.heap.size + 1 + 1]? = some (.cells #[.int .u64 0, .int .u64 0, .int .u64 0, .slice none 0 0, .slice none 0 0, .slice none 0 0, .slice none 0 0, .slice none 0 0, .slice none 0 0, .slice none 0 0, .slice none 0 0, .slice none 0 0] 35 (0, 0)) := by rw [hN]; exact blk_new_of _ (by simp)
  have hB : Below w.heap.size w N := by rw [hN]; exact below_alloc (below_alloc (below_alloc (Below.refl _ _) _) _) _
  have hsz : N.heap.size = w.heap.size + 3 := by rw [hN]; simp
  have HN := Lib.hid hN
  have HB := Lib.hid hB
  have HSZ := Lib.hid hsz
  have K0 := Lib.hid b0
  have K1 := Lib.hid b1
  have K2 := Lib.hid b2
  have HPUT := Lib.hid (fun A1 c1 W (hW : Below N.heap.size N W) => put_Inst A4 n4 c4 ⟨r.key, r.a, A1, vN, c1, r.vars⟩ l W S hl hby (hr.below (below2 hB hW)))
  have HV := Lib.hid (fun W (hW : Below N.heap.size N W) => vars_c vA vN vC r.vars W S hvl hvb (hv.below (below2 hB hW)))
  obtain ⟨Ab, cb, heb, hncb, hcmb⟩ := hv.open_
  injection heb with eb1 _ eb3
  subst eb1 eb3
  clear hN hB hsz b0 b1 b2 hr hl hv hvl
  have k0 := K0.out
  have k1 := K1.out
  go_enter Tryz.func55, Tryz.ntmps55
  go_wp2_with fail
  rw [show ((w.alloc (.cells #[.int .u64 Pp, .int .u64 Dd, .int .u64 Mm, .slice A3 n3 c3, .slice A4 n4 c4, .slice A5 n5 c5, .slice A6 n6 c6, .slice A7 n7 c7, .slice A8 n8 c8, .slice A9 n9 c9, .slice A10 n10 c10, .slice A11 n11 c11] 35)).alloc (.cells #[.int .i64 r.cls, .int .i64 r.kind, .int .u64 r.frm, .int .i64 r.time, .int .u64 r.key, .int .u64 r.key2, .int .u64 r.key3, .int .i64 r.n, .int .i64 r.m, .string r.a, .string r.b, .string r.c, .slice vA vN vC] 39)).alloc (.cells #[.int .u64 0, .int .u64 0, .int .u64 0, .slice none 0 0, .slice none 0 0, .slice none 0 0, .slice none 0 0, .slice none 0 0, .slice none 0 0, .slice none 0 0, .slice none 0 0, .slice none 0 0] 35) = N from HN.out.symm]
  have s4 := cell_regrown (cell_of_blk k0 4)
  have q4 := cell_regrown (cell_of_blk k1 4)
  have q12 := cell_regrown (cell_of_blk k1 12)
  have q9 := cell_regrown (cell_of_blk k1 9)
  clear k0 k1
  refine wp_region_ord [12] (n := 13) (listed := #[false, false, false, false, false, false, false, false, false, false, false, false, false]) (by kernel_rfl) rfl rfl ?_
  ((refine wpK_pure (fuel := 12) (listed' := #[true, false, false, false, false, false, false, false, false, false, false, false, false]) 0 rfl (by kernel_rfl) rfl ?_; (first | go_big_quiet_step (fail) | quiet_step (fail)); refine wpQuiet_nil ?_); (refine wpK_pure (fuel := 11) (listed' := #[true, false, true, false, false, false, false, false, false, false, false, false, false]) 2 rfl (by kernel_rfl) rfl ?_; (first | go_big_quiet_step (fail) | quiet_step (fail)); refine wpQuiet_nil ?_); (refine wpK_pure (fuel := 10) (listed' := #[true, false, true, false, true, false, false, false, false, false, false, false, false]) 4 rfl (by kernel_rfl) rfl ?_; (first | go_big_quiet_step (fail) | quiet_step (fail)); refine wpQuiet_nil ?_); (refine wpK_pure (fuel := 9) (listed' := #[true, false, true, false, true, false, true, false, false, false, false, false, false]) 6 rfl (by kernel_rfl) rfl ?_; (first | go_big_quiet_step (fail) | quiet_step (fail)); refine wpQuiet_nil ?_))
  ((refine wpK_read (fuel := 8) (listed' := #[true, true, true, false, true, false, true, false, false, false, false, false, false]) 1 (by first | exact regrown_first _ _ | exact regrown_self _) rfl (by kernel_rfl) rfl ?_; (first | go_big_quiet_step (fail) | quiet_step (fail)); refine wpQuiet_nil ?_); (refine wpK_read (fuel := 7) (listed' := #[true, true, true, true, true, false, true, false, false, false, false, false, false]) 3 (by first | exact regrown_first _ _ | exact regrown_self _) rfl (by kernel_rfl) rfl ?_; (first | go_big_quiet_step (fail) | quiet_step (fail)); refine wpQuiet_nil ?_); (refine wpK_read (fuel := 6) (listed' := #[true, true, true, true, true, true, true, false, false, false, false, false, false]) 5 (by first | exact regrown_first _ _ | exact regrown_self _) rfl (by kernel_rfl) rfl ?_; (first | go_big_quiet_step (fail) | quiet_step (fail)); refine wpQuiet_nil ?_); (refine wpK_read (fuel := 5) (listed' := #[true, true, true, true, true, true, true, true, false, false, false, false, false]) 7 (by first | exact regrown_first _ _ | exact regrown_self _) rfl (by kernel_rfl) rfl ?_; (first | go_big_quiet_step (fail) | quiet_step (fail)); refine wpQuiet_nil ?_))
  refine wpK_one (fuel := 4) (listed' := #[true, true, true, true, true, true, true, true, true, false, false, false, false]) 8 rfl (by kernel_rfl) rfl ?_
  go_wp2_with (go_at_call 32; refine (HV.out _ (below_redrawn _ _)).mono ?_; rintro e w1 ⟨A1, c1, rfl, hown, hb⟩; have HOV := Lib.hid hown; have HB1 := Lib.hid (below2 (below_redrawn N (N.drawn + 1)) hb); obtain ⟨_, _, _, hnc1, hcm1⟩ := (Row.of_own hown).open_; clear hown hb)
  refine ⟨rfl, fun _ _ => regrown_of_below HB1.out, ?_⟩
  ((refine wpK_pure (fuel := 3) (listed' := #[true, true, true, true, true, true, true, true, true, true, false, false, false]) 9 rfl (by kernel_rfl) rfl ?_; (first | go_big_quiet_step (fail) | quiet_step (fail)); refine wpQuiet_nil ?_))
  refine wpK_one (fuel := 2) (listed' := #[true, true, true, true, true, true, true, true, true, true, true, false, false]) 10 rfl (by kernel_rfl) rfl ?_
  go_wp2_with fail
  refine (HPUT.out A1 c1 _ HB1.out).mono ?_
  rintro e w2 ⟨A', c', rfl, hown, hb⟩
  generalize hLn : (putL cmpInst ⟨r.key, r.a, A1, vN, c1, r.vars⟩ l).length = Ln at *
  have HLN := Lib.hid hLn
  have HO := Lib.hid hown
  have HB2 := Lib.hid (below2 HB1.out hb)
  have HWB := Lib.hid (below2 HB.out HB2.out)
  have HOV2 := Lib.hid ((Row.of_own HOV.out).below hb)
  have k0 := block_below HB2.out K0.out
  have k2 := block_below HB2.out K2.out
  clear hLn hown hb s4 q4 q12 q9
  have s0 := cell_of_blk k0 0
  have s1 := cell_of_blk k0 1
  have s2 := cell_of_blk k0 2
  have s3 := cell_of_blk k0 3
  have s4 := cell_of_blk k0 4
  have s5 := cell_of_blk k0 5
  have s6 := cell_of_blk k0 6
  have s7 := cell_of_blk k0 7
  have s8 := cell_of_blk k0 8
  have s9 := cell_of_blk k0 9
  have s10 := cell_of_blk k0 10
  have s11 := cell_of_blk k0 11
  have f0 := frozen_of_blk k0 0
  have f1 := frozen_of_blk k0 1
  have f2 := frozen_of_blk k0 2
  have f3 := frozen_of_blk k0 3
  have f4 := frozen_of_blk k0 4
  have f5 := frozen_of_blk k0 5
  have f6 := frozen_of_blk k0 6
  have f7 := frozen_of_blk k0 7
  have f8 := frozen_of_blk k0 8
  have f9 := frozen_of_blk k0 9
  have f10 := frozen_of_blk k0 10
  have f11 := frozen_of_blk k0 11
  have z0 := cell_of_blk k2 0
  have z1 := cell_of_blk k2 1
  have z2 := cell_of_blk k2 2
  have z3 := cell_of_blk k2 3
  have z4 := cell_of_blk k2 4
  have z5 := cell_of_blk k2 5
  have z6 := cell_of_blk k2 6
  have z7 := cell_of_blk k2 7
  have z8 := cell_of_blk k2 8
  have z9 := cell_of_blk k2 9
  have z10 := cell_of_blk k2 10
  have z11 := cell_of_blk k2 11
  have g0 := frozen_of_blk k2 0
  have g1 := frozen_of_blk k2 1
  have g2 := frozen_of_blk k2 2
  have g3 := frozen_of_blk k2 3
  have g4 := frozen_of_blk k2 4
  have g5 := frozen_of_blk k2 5
  have g6 := frozen_of_blk k2 6
  have g7 := frozen_of_blk k2 7
  have g8 := frozen_of_blk k2 8
  have g9 := frozen_of_blk k2 9
  have g10 := frozen_of_blk k2 10
  have g11 := frozen_of_blk k2 11
  have KZ := Lib.hid k2
  have KS := Lib.hid k0
  clear k0 k2
  go_wp2_with fail
  refine ⟨rfl, fun _ _ => regrown_of_below HB2.out, ?_⟩
  ((refine wpK_pure (fuel := 1) (listed' := #[true, true, true, true, true, true, true, true, true, true, true, true, false]) 11 rfl (by kernel_rfl) rfl ?_; (first | go_big_quiet_step (fail) | quiet_step (fail)); refine wpQuiet_nil ?_))
  refine wpK_one (fuel := 0) (listed' := #[true, true, true, true, true, true, true, true, true, true, true, true, true]) 12 rfl (by kernel_rfl) rfl ?_
  go_wp2_with fail
  refine ⟨rfl, fun h => absurd h (by decide), ?_⟩
  refine wpK_end rfl ?_
  go_wp2_with fail
  generalize hWE : World.setCell (World.setCell (World.setCell (World.setCell (World.setCell (World.setCell (World.setCell (World.setCell (World.setCell (World.setCell (World.setCell (World.setCell (World.setCell (World.setCell (_) _ _) _ _) _ _) _ _) _ _) _ _) _ _) _ _) _ _) _ _) _ _) _ _) _ _) _ _ = WE
  have ho : WE.heap[w.heap.size + 1 + 1]? = some (.cells #[.int .u64 Pp, .int .u64 Dd, .int .u64 (IntKind.u64.wrap (Mm + 1)), .slice A3 n3 c3, .slice A' Ln c', .slice A5 n5 c5, .slice A6 n6 c6, .slice A7 n7 c7, .slice A8 n8 c8, .slice A9 n9 c9, .slice A10 n10 c10, .slice A11 n11 c11] 35 (0, 0)) := by rw [← hWE]; exact set_blk12 (blk_set_other (b := w.heap.size) (o := 2) (blk_set_other (b := w.heap.size) (o := 4) (KZ.out) (by omega)) (by omega)) (.int .u64 Pp) (.int .u64 Dd) (.int .u64 (IntKind.u64.wrap (Mm + 1))) (.slice A3 n3 c3) (.slice A' Ln c') (.slice A5 n5 c5) (.slice A6 n6 c6) (.slice A7 n7 c7) (.slice A8 n8 c8) (.slice A9 n9 c9) (.slice A10 n10 c10) (.slice A11 n11 c11)
  have hbe : Below w.heap.size w WE := by rw [← hWE]; exact ((((((((((((((HWB.out).setCell (p := ⟨w.heap.size, 4, none⟩) (Nat.le_refl _) _).setCell (p := ⟨w.heap.size, 2, none⟩) (Nat.le_refl _) _).setCell (p := ⟨w.heap.size + 1 + 1, 0, none⟩) (by show _ ≤ _ + 1 + 1; omega) _).setCell (p := ⟨w.heap.size + 1 + 1, 1, none⟩) (by show _ ≤ _ + 1 + 1; omega) _).setCell (p := ⟨w.heap.size + 1 + 1, 2, none⟩) (by show _ ≤ _ + 1 + 1; omega) _).setCell (p := ⟨w.heap.size + 1 + 1, 3, none⟩) (by show _ ≤ _ + 1 + 1; omega) _).setCell (p := ⟨w.heap.size + 1 + 1, 4, none⟩) (by show _ ≤ _ + 1 + 1; omega) _).setCell (p := ⟨w.heap.size + 1 + 1, 5, none⟩) (by show _ ≤ _ + 1 + 1; omega) _).setCell (p := ⟨w.heap.size + 1 + 1, 6, none⟩) (by show _ ≤ _ + 1 + 1; omega) _).setCell (p := ⟨w.heap.size + 1 + 1, 7, none⟩) (by show _ ≤ _ + 1 + 1; omega) _).setCell (p := ⟨w.heap.size + 1 + 1, 8, none⟩) (by show _ ≤ _ + 1 + 1; omega) _).setCell (p := ⟨w.heap.size + 1 + 1, 9, none⟩) (by show _ ≤ _ + 1 + 1; omega) _).setCell (p := ⟨w.heap.size + 1 + 1, 10, none⟩) (by show _ ≤ _ + 1 + 1; omega) _).setCell (p := ⟨w.heap.size + 1 + 1, 11, none⟩) (by show _ ≤ _ + 1 + 1; omega) _
  have hmu : Mut (fun b => b = w.heap.size ∨ b = w.heap.size + 1 + 1) w2 WE := by
    rw [← hWE]
    exact Mut.setCell (T := fun b => b = w.heap.size ∨ b = w.heap.size + 1 + 1) (Mut.setCell (T := fun b => b = w.heap.size ∨ b = w.heap.size + 1 + 1) (Mut.setCell (T := fun b => b = w.heap.size ∨ b = w.heap.size + 1 + 1) (Mut.setCell (T := fun b => b = w.heap.size ∨ b = w.heap.size + 1 + 1) (Mut.setCell (T := fun b => b = w.heap.size ∨ b = w.heap.size + 1 + 1) (Mut.setCell (T := fun b => b = w.heap.size ∨ b = w.heap.size + 1 + 1) (Mut.setCell (T := fun b => b = w.heap.size ∨ b = w.heap.size + 1 + 1) (Mut.setCell (T := fun b => b = w.heap.size ∨ b = w.heap.size + 1 + 1) (Mut.setCell (T := fun b => b = w.heap.size ∨ b = w.heap.size + 1 + 1) (Mut.setCell (T := fun b => b = w.heap.size ∨ b = w.heap.size + 1 + 1) (Mut.setCell (T := fun b => b = w.heap.size ∨ b = w.heap.size + 1 + 1) (Mut.setCell (T := fun b => b = w.heap.size ∨ b = w.heap.size + 1 + 1) (Mut.setCell (T := fun b => b = w.heap.size ∨ b = w.heap.size + 1 + 1) (Mut.setCell (T := fun b => b = w.heap.size ∨ b = w.heap.size + 1 + 1) (Mut.refl _ _) (p := ⟨w.heap.size, 4, none⟩) (fun _ => .inl rfl) _) (p := ⟨w.heap.size, 2, none⟩) (fun _ => .inl rfl) _) (p := ⟨w.heap.size + 1 + 1, 0, none⟩) (fun _ => .inr rfl) _) (p := ⟨w.heap.size + 1 + 1, 1, none⟩) (fun _ => .inr rfl) _) (p := ⟨w.heap.size + 1 + 1, 2, none⟩) (fun _ => .inr rfl) _) (p := ⟨w.heap.size + 1 + 1, 3, none⟩) (fun _ => .inr rfl) _) (p := ⟨w.heap.size + 1 + 1, 4, none⟩) (fun _ => .inr rfl) _) (p := ⟨w.heap.size + 1 + 1, 5, none⟩) (fun _ => .inr rfl) _) (p := ⟨w.heap.size + 1 + 1, 6, none⟩) (fun _ => .inr rfl) _) (p := ⟨w.heap.size + 1 + 1, 7, none⟩) (fun _ => .inr rfl) _) (p := ⟨w.heap.size + 1 + 1, 8, none⟩) (fun _ => .inr rfl) _) (p := ⟨w.heap.size + 1 + 1, 9, none⟩) (fun _ => .inr rfl) _) (p := ⟨w.heap.size + 1 + 1, 10, none⟩) (fun _ => .inr rfl) _) (p := ⟨w.heap.size + 1 + 1, 11, none⟩) (fun _ => .inr rfl) _
  have r0 := cell_of_blk ho 0
  have r1 := cell_of_blk ho 1
  have r2 := cell_of_blk ho 2
  have r3 := cell_of_blk ho 3
  have r4 := cell_of_blk ho 4
  have r5 := cell_of_blk ho 5
  have r6 := cell_of_blk ho 6
  have r7 := cell_of_blk ho 7
  have r8 := cell_of_blk ho 8
  have r9 := cell_of_blk ho 9
  have r10 := cell_of_blk ho 10
  have r11 := cell_of_blk ho 11
  have hNs := HSZ.out
  have hb1s := HB1.out.size
  have hon := own_base (own_mut HO.out hmu (fun b hb h => by have := (HO.out.lt b hb).1; omega)) (show w.heap.size ≤ w1.heap.size by omega)
  have hov : Row WE (fun b => w.heap.size ≤ b) 4 vN (.slice A1 vN c1) (r.vars.flatMap GVar.cells) := (HOV2.out.mut hmu (fun b _ hb h => by have h1 : N.heap.size ≤ b := hb.1; omega)).weaken (fun b _ hb => by have h1 : N.heap.size ≤ b := hb.1; omega)
  refine bodyPost_ret (v := .agg #[.int .u64 Pp, .int .u64 Dd, .int .u64 (IntKind.u64.wrap (Mm + 1)), .slice A3 n3 c3, .slice A' Ln c', .slice A5 n5 c5, .slice A6 n6 c6, .slice A7 n7 c7, .slice A8 n8 c8, .slice A9 n9 c9, .slice A10 n10 c10, .slice A11 n11 c11]) (by simp [results, Tryz.results55, go_sem, r0, r1, r2, r3, r4, r5, r6, r7, r8, r9, r10, r11]) rfl ⟨A', c', Ln, A1, c1, rfl, HLN.out.symm, hon, hov, hbe⟩
end Go.Proofs.YtgpkmellpllmgaaGreat
/-
  fold.published. Printed by gfold2.py.
-/
set_option linter.unusedVariables false
set_option linter.unusedSimpArgs false
namespace Go.Proofs.YtgpkmellpllmgaaGreat
open Go Go.RowKit Go.Proofs.Base
open Go.Sort (grow)
set_option maxRecDepth 100000 in
set_option maxHeartbeats 4000000 in
theorem ev_published (Pp Dd Mm : Int) (A3 : Option Addr) (n3 c3 : Nat) (A4 : Option Addr) (n4 c4 : Nat) (A5 : Option Addr) (n5 c5 : Nat) (A6 : Option Addr) (n6 c6 : Nat) (A7 : Option Addr) (n7 c7 : Nat) (A8 : Option Addr) (n8 c8 : Nat) (A9 : Option Addr) (n9 c9 : Nat) (A10 : Option Addr) (n10 c10 : Nat) (A11 : Option Addr) (n11 c11 : Nat) (r : GRec) (vA : Option Addr) (vN vC : Nat) (l : List EMsg) (w : World) (S : Nat → Prop) (hl : l.length = n11) (hby : (n11 + 1) * 112 ≤ 140737488355328) (hr : Row w S 7 n11 (.slice A11 n11 c11) (l.flatMap encMsg)) (hvl : r.vars.length = vN) (hvb : vN * 48 ≤ 140737488355328) (hv : Row w S 4 vN (.slice vA vN vC) (r.vars.flatMap GVar.cells)) :
    Calls Tryz.prog 70 #[.agg #[.int .u64 Pp, .int .u64 Dd, .int .u64 Mm, .slice A3 n3 c3, .slice A4 n4 c4, .slice A5 n5 c5, .slice A6 n6 c6, .slice A7 n7 c7, .slice A8 n8 c8, .slice A9 n9 c9, .slice A10 n10 c10, .slice A11 n11 c11], .agg #[.int .i64 r.cls, .int .i64 r.kind, .int .u64 r.frm, .int .i64 r.time, .int .u64 r.key, .int .u64 r.key2, .int .u64 r.key3, .int .i64 r.n, .int .i64 r.m, .string r.a, .string r.b, .string r.c, .slice vA vN vC]] w fun e w' => ∃ A' c' Ln A1 c1, e = .returned (.agg #[.int .u64 Pp, .int .u64 Dd, .int .u64 (IntKind.u64.wrap (Mm + 1)), .slice A3 n3 c3, .slice A4 n4 c4, .slice A5 n5 c5, .slice A6 n6 c6, .slice A7 n7 c7, .slice A8 n8 c8, .slice A9 n9 c9, .slice A10 n10 c10, .slice A' Ln c']) ∧ Ln = (putL cmpMsg ⟨r.key, r.a, r.b, r.c, r.n, A1, vN, c1, r.vars, none, 0, 0, []⟩ l).length ∧ w'.ownsRow w.heap.size 64 7 (.slice A' Ln c') Ln ((putL cmpMsg ⟨r.key, r.a, r.b, r.c, r.n, A1, vN, c1, r.vars, none, 0, 0, []⟩ l).flatMap encMsg) ∧ Row w' (fun b => w.heap.size ≤ b) 4 vN (.slice A1 vN c1) (r.vars.flatMap GVar.cells) ∧ Below w.heap.size w w' := by
  obtain ⟨N, hN⟩ : ∃ N, N = ((w.alloc (.cells #[.int .u64 Pp, .int .u64 Dd, .int .u64 Mm, .slice A3 n3 c3, .slice A4 n4 c4, .slice A5 n5 c5, .slice A6 n6 c6, .slice A7 n7 c7, .slice A8 n8 c8, .slice A9 n9 c9, .slice A10 n10 c10, .slice A11 n11 c11] 35)).alloc (.cells #[.int .i64 r.cls, .int .i64 r.kind, .int .u64 r.frm, .int .i64 r.time, .int .u64 r.key, .int .u64 r.key2, .int .u64 r.key3, .int .i64 r.n, .int .i64 r.m, .string r.a, .string r.b, .string r.c, .slice vA vN vC] 39)).alloc (.cells #[.int .u64 0, .int .u64 0, .int .u64 0, .slice none 0 0, .slice none 0 0, .slice none 0 0, .slice none 0 0, .slice none 0 0, .slice none 0 0, .slice none 0 0, .slice none 0 0, .slice none 0 0] 35) := ⟨_, rfl⟩
  have b0 : N.heap[w.heap.size]? = some (.cells #[.int .u64 Pp, .int .u64 Dd, .int .u64 Mm, .slice A3 n3 c3, .slice A4 n4 c4, .slice A5 n5 c5, .slice A6 n6 c6, .slice A7 n7 c7, .slice A8 n8 c8, .slice A9 n9 c9, .slice A10 n10 c10, .slice A11 n11 c11] 35 (0, 0)) := by rw [hN]; exact blk_alloc (blk_alloc (blk_new _) _) _
  have b1 : recB N (w.heap.size + 1) r vA vN vC := by rw [hN]; exact blk_alloc (blk_new_of _ (by simp)) _
  have b2 : N.heap[w.heap.size + 1 + 1]? = some (.cells #[.int .u64 0, .int .u64 0, .int .u64 0, .slice none 0 0, .slice none 0 0, .slice none 0 0, .slice none 0 0, .slice none 0 0, .slice none 0 0, .slice none 0 0, .slice none 0 0, .slice none 0 0] 35 (0, 0)) := by rw [hN]; exact blk_new_of _ (by simp)
  have hB : Below w.heap.size w N := by rw [hN]; exact below_alloc (below_alloc (below_alloc (Below.refl _ _) _) _) _
  have hsz : N.heap.size = w.heap.size + 3 := by rw [hN]; simp
  have HN := Lib.hid hN
  have HB := Lib.hid hB
  have HSZ := Lib.hid hsz
  have K0 := Lib.hid b0
  have K1 := Lib.hid b1
  have K2 := Lib.hid b2
  have HPUT := Lib.hid (fun A1 c1 W (hW : Below N.heap.size N W) => put_Msg A11 n11 c11 ⟨r.key, r.a, r.b, r.c, r.n, A1, vN, c1, r.vars, none, 0, 0, []⟩ l W S hl hby (hr.below (below2 hB hW)))
  have HV := Lib.hid (fun W (hW : Below N.heap.size N W) => vars_c vA vN vC r.vars W S hvl hvb (hv.below (below2 hB hW)))
  obtain ⟨Ab, cb, heb, hncb, hcmb⟩ := hv.open_
  injection heb with eb1 _ eb3
  subst eb1 eb3
  clear hN hB hsz b0 b1 b2 hr hl hv hvl
  have k0 := K0.out
  have k1 := K1.out
  go_enter Tryz.func70, Tryz.ntmps70
  go_wp2_with fail
  rw [show ((w.alloc (.cells #[.int .u64 Pp, .int .u64 Dd, .int .u64 Mm, .slice A3 n3 c3, .slice A4 n4 c4, .slice A5 n5 c5, .slice A6 n6 c6, .slice A7 n7 c7, .slice A8 n8 c8, .slice A9 n9 c9, .slice A10 n10 c10, .slice A11 n11 c11] 35)).alloc (.cells #[.int .i64 r.cls, .int .i64 r.kind, .int .u64 r.frm, .int .i64 r.time, .int .u64 r.key, .int .u64 r.key2, .int .u64 r.key3, .int .i64 r.n, .int .i64 r.m, .string r.a, .string r.b, .string r.c, .slice vA vN vC] 39)).alloc (.cells #[.int .u64 0, .int .u64 0, .int .u64 0, .slice none 0 0, .slice none 0 0, .slice none 0 0, .slice none 0 0, .slice none 0 0, .slice none 0 0, .slice none 0 0, .slice none 0 0, .slice none 0 0] 35) = N from HN.out.symm]
  have s11 := cell_regrown (cell_of_blk k0 11)
  have q4 := cell_regrown (cell_of_blk k1 4)
  have q12 := cell_regrown (cell_of_blk k1 12)
  have q9 := cell_regrown (cell_of_blk k1 9)
  have q10 := cell_regrown (cell_of_blk k1 10)
  have q11 := cell_regrown (cell_of_blk k1 11)
  have q7 := cell_regrown (cell_of_blk k1 7)
  clear k0 k1
  refine wp_region_ord [18] (n := 19) (listed := #[false, false, false, false, false, false, false, false, false, false, false, false, false, false, false, false, false, false, false]) (by kernel_rfl) rfl rfl ?_
  ((refine wpK_pure (fuel := 18) (listed' := #[true, false, false, false, false, false, false, false, false, false, false, false, false, false, false, false, false, false, false]) 0 rfl (by kernel_rfl) rfl ?_; (first | go_big_quiet_step (fail) | quiet_step (fail)); refine wpQuiet_nil ?_); (refine wpK_pure (fuel := 17) (listed' := #[true, false, true, false, false, false, false, false, false, false, false, false, false, false, false, false, false, false, false]) 2 rfl (by kernel_rfl) rfl ?_; (first | go_big_quiet_step (fail) | quiet_step (fail)); refine wpQuiet_nil ?_); (refine wpK_pure (fuel := 16) (listed' := #[true, false, true, false, true, false, false, false, false, false, false, false, false, false, false, false, false, false, false]) 4 rfl (by kernel_rfl) rfl ?_; (first | go_big_quiet_step (fail) | quiet_step (fail)); refine wpQuiet_nil ?_); (refine wpK_pure (fuel := 15) (listed' := #[true, false, true, false, true, false, true, false, false, false, false, false, false, false, false, false, false, false, false]) 6 rfl (by kernel_rfl) rfl ?_; (first | go_big_quiet_step (fail) | quiet_step (fail)); refine wpQuiet_nil ?_); (refine wpK_pure (fuel := 14) (listed' := #[true, false, true, false, true, false, true, false, true, false, false, false, false, false, false, false, false, false, false]) 8 rfl (by kernel_rfl) rfl ?_; (first | go_big_quiet_step (fail) | quiet_step (fail)); refine wpQuiet_nil ?_); (refine wpK_pure (fuel := 13) (listed' := #[true, false, true, false, true, false, true, false, true, false, true, false, false, false, false, false, false, false, false]) 10 rfl (by kernel_rfl) rfl ?_; (first | go_big_quiet_step (fail) | quiet_step (fail)); refine wpQuiet_nil ?_); (refine wpK_pure (fuel := 12) (listed' := #[true, false, true, false, true, false, true, false, true, false, true, false, true, false, false, false, false, false, false]) 12 rfl (by kernel_rfl) rfl ?_; (first | go_big_quiet_step (fail) | quiet_step (fail)); refine wpQuiet_nil ?_))
  ((refine wpK_read (fuel := 11) (listed' := #[true, true, true, false, true, false, true, false, true, false, true, false, true, false, false, false, false, false, false]) 1 (by first | exact regrown_first _ _ | exact regrown_self _) rfl (by kernel_rfl) rfl ?_; (first | go_big_quiet_step (fail) | quiet_step (fail)); refine wpQuiet_nil ?_); (refine wpK_read (fuel := 10) (listed' := #[true, true, true, true, true, false, true, false, true, false, true, false, true, false, false, false, false, false, false]) 3 (by first | exact regrown_first _ _ | exact regrown_self _) rfl (by kernel_rfl) rfl ?_; (first | go_big_quiet_step (fail) | quiet_step (fail)); refine wpQuiet_nil ?_); (refine wpK_read (fuel := 9) (listed' := #[true, true, true, true, true, true, true, false, true, false, true, false, true, false, false, false, false, false, false]) 5 (by first | exact regrown_first _ _ | exact regrown_self _) rfl (by kernel_rfl) rfl ?_; (first | go_big_quiet_step (fail) | quiet_step (fail)); refine wpQuiet_nil ?_); (refine wpK_read (fuel := 8) (listed' := #[true, true, true, true, true, true, true, true, true, false, true, false, true, false, false, false, false, false, false]) 7 (by first | exact regrown_first _ _ | exact regrown_self _) rfl (by kernel_rfl) rfl ?_; (first | go_big_quiet_step (fail) | quiet_step (fail)); refine wpQuiet_nil ?_); (refine wpK_read (fuel := 7) (listed' := #[true, true, true, true, true, true, true, true, true, true, true, false, true, false, false, false, false, false, false]) 9 (by first | exact regrown_first _ _ | exact regrown_self _) rfl (by kernel_rfl) rfl ?_; (first | go_big_quiet_step (fail) | quiet_step (fail)); refine wpQuiet_nil ?_); (refine wpK_read (fuel := 6) (listed' := #[true, true, true, true, true, true, true, true, true, true, true, true, true, false, false, false, false, false, false]) 11 (by first | exact regrown_first _ _ | exact regrown_self _) rfl (by kernel_rfl) rfl ?_; (first | go_big_quiet_step (fail) | quiet_step (fail)); refine wpQuiet_nil ?_); (refine wpK_read (fuel := 5) (listed' := #[true, true, true, true, true, true, true, true, true, true, true, true, true, true, false, false, false, false, false]) 13 (by first | exact regrown_first _ _ | exact regrown_self _) rfl (by kernel_rfl) rfl ?_; (first | go_big_quiet_step (fail) | quiet_step (fail)); refine wpQuiet_nil ?_))
  refine wpK_one (fuel := 4) (listed' := #[true, true, true, true, true, true, true, true, true, true, true, true, true, true, true, false, false, false, false]) 14 rfl (by kernel_rfl) rfl ?_
  go_wp2_with (go_at_call 32; refine (HV.out _ (below_redrawn _ _)).mono ?_; rintro e w1 ⟨A1, c1, rfl, hown, hb⟩; have HOV := Lib.hid hown; have HB1 := Lib.hid (below2 (below_redrawn N (N.drawn + 1)) hb); obtain ⟨_, _, _, hnc1, hcm1⟩ := (Row.of_own hown).open_; clear hown hb)
  refine ⟨rfl, fun _ _ => regrown_of_below HB1.out, ?_⟩
  ((refine wpK_pure (fuel := 3) (listed' := #[true, true, true, true, true, true, true, true, true, true, true, true, true, true, true, true, false, false, false]) 15 rfl (by kernel_rfl) rfl ?_; (first | go_big_quiet_step (fail) | quiet_step (fail)); refine wpQuiet_nil ?_))
  refine wpK_one (fuel := 2) (listed' := #[true, true, true, true, true, true, true, true, true, true, true, true, true, true, true, true, true, false, false]) 16 rfl (by kernel_rfl) rfl ?_
  go_wp2_with fail
  refine (HPUT.out A1 c1 _ HB1.out).mono ?_
  rintro e w2 ⟨A', c', rfl, hown, hb⟩
  generalize hLn : (putL cmpMsg ⟨r.key, r.a, r.b, r.c, r.n, A1, vN, c1, r.vars, none, 0, 0, []⟩ l).length = Ln at *
  have HLN := Lib.hid hLn
  have HO := Lib.hid hown
  have HB2 := Lib.hid (below2 HB1.out hb)
  have HWB := Lib.hid (below2 HB.out HB2.out)
  have HOV2 := Lib.hid ((Row.of_own HOV.out).below hb)
  have k0 := block_below HB2.out K0.out
  have k2 := block_below HB2.out K2.out
  clear hLn hown hb s11 q4 q12 q9 q10 q11 q7
  have s0 := cell_of_blk k0 0
  have s1 := cell_of_blk k0 1
  have s2 := cell_of_blk k0 2
  have s3 := cell_of_blk k0 3
  have s4 := cell_of_blk k0 4
  have s5 := cell_of_blk k0 5
  have s6 := cell_of_blk k0 6
  have s7 := cell_of_blk k0 7
  have s8 := cell_of_blk k0 8
  have s9 := cell_of_blk k0 9
  have s10 := cell_of_blk k0 10
  have s11 := cell_of_blk k0 11
  have f0 := frozen_of_blk k0 0
  have f1 := frozen_of_blk k0 1
  have f2 := frozen_of_blk k0 2
  have f3 := frozen_of_blk k0 3
  have f4 := frozen_of_blk k0 4
  have f5 := frozen_of_blk k0 5
  have f6 := frozen_of_blk k0 6
  have f7 := frozen_of_blk k0 7
  have f8 := frozen_of_blk k0 8
  have f9 := frozen_of_blk k0 9
  have f10 := frozen_of_blk k0 10
  have f11 := frozen_of_blk k0 11
  have z0 := cell_of_blk k2 0
  have z1 := cell_of_blk k2 1
  have z2 := cell_of_blk k2 2
  have z3 := cell_of_blk k2 3
  have z4 := cell_of_blk k2 4
  have z5 := cell_of_blk k2 5
  have z6 := cell_of_blk k2 6
  have z7 := cell_of_blk k2 7
  have z8 := cell_of_blk k2 8
  have z9 := cell_of_blk k2 9
  have z10 := cell_of_blk k2 10
  have z11 := cell_of_blk k2 11
  have g0 := frozen_of_blk k2 0
  have g1 := frozen_of_blk k2 1
  have g2 := frozen_of_blk k2 2
  have g3 := frozen_of_blk k2 3
  have g4 := frozen_of_blk k2 4
  have g5 := frozen_of_blk k2 5
  have g6 := frozen_of_blk k2 6
  have g7 := frozen_of_blk k2 7
  have g8 := frozen_of_blk k2 8
  have g9 := frozen_of_blk k2 9
  have g10 := frozen_of_blk k2 10
  have g11 := frozen_of_blk k2 11
  have KZ := Lib.hid k2
  have KS := Lib.hid k0
  clear k0 k2
  go_wp2_with fail
  refine ⟨rfl, fun _ _ => regrown_of_below HB2.out, ?_⟩
  ((refine wpK_pure (fuel := 1) (listed' := #[true, true, true, true, true, true, true, true, true, true, true, true, true, true, true, true, true, true, false]) 17 rfl (by kernel_rfl) rfl ?_; (first | go_big_quiet_step (fail) | quiet_step (fail)); refine wpQuiet_nil ?_))
  refine wpK_one (fuel := 0) (listed' := #[true, true, true, true, true, true, true, true, true, true, true, true, true, true, true, true, true, true, true]) 18 rfl (by kernel_rfl) rfl ?_
  go_wp2_with fail
  refine ⟨rfl, fun h => absurd h (by decide), ?_⟩
  refine wpK_end rfl ?_
  go_wp2_with fail
  generalize hWE : World.setCell (World.setCell (World.setCell (World.setCell (World.setCell (World.setCell (World.setCell (World.setCell (World.setCell (World.setCell (World.setCell (World.setCell (World.setCell (World.setCell (_) _ _) _ _) _ _) _ _) _ _) _ _) _ _) _ _) _ _) _ _) _ _) _ _) _ _) _ _ = WE
  have ho : WE.heap[w.heap.size + 1 + 1]? = some (.cells #[.int .u64 Pp, .int .u64 Dd, .int .u64 (IntKind.u64.wrap (Mm + 1)), .slice A3 n3 c3, .slice A4 n4 c4, .slice A5 n5 c5, .slice A6 n6 c6, .slice A7 n7 c7, .slice A8 n8 c8, .slice A9 n9 c9, .slice A10 n10 c10, .slice A' Ln c'] 35 (0, 0)) := by rw [← hWE]; exact set_blk12 (blk_set_other (b := w.heap.size) (o := 2) (blk_set_other (b := w.heap.size) (o := 11) (KZ.out) (by omega)) (by omega)) (.int .u64 Pp) (.int .u64 Dd) (.int .u64 (IntKind.u64.wrap (Mm + 1))) (.slice A3 n3 c3) (.slice A4 n4 c4) (.slice A5 n5 c5) (.slice A6 n6 c6) (.slice A7 n7 c7) (.slice A8 n8 c8) (.slice A9 n9 c9) (.slice A10 n10 c10) (.slice A' Ln c')
  have hbe : Below w.heap.size w WE := by rw [← hWE]; exact ((((((((((((((HWB.out).setCell (p := ⟨w.heap.size, 11, none⟩) (Nat.le_refl _) _).setCell (p := ⟨w.heap.size, 2, none⟩) (Nat.le_refl _) _).setCell (p := ⟨w.heap.size + 1 + 1, 0, none⟩) (by show _ ≤ _ + 1 + 1; omega) _).setCell (p := ⟨w.heap.size + 1 + 1, 1, none⟩) (by show _ ≤ _ + 1 + 1; omega) _).setCell (p := ⟨w.heap.size + 1 + 1, 2, none⟩) (by show _ ≤ _ + 1 + 1; omega) _).setCell (p := ⟨w.heap.size + 1 + 1, 3, none⟩) (by show _ ≤ _ + 1 + 1; omega) _).setCell (p := ⟨w.heap.size + 1 + 1, 4, none⟩) (by show _ ≤ _ + 1 + 1; omega) _).setCell (p := ⟨w.heap.size + 1 + 1, 5, none⟩) (by show _ ≤ _ + 1 + 1; omega) _).setCell (p := ⟨w.heap.size + 1 + 1, 6, none⟩) (by show _ ≤ _ + 1 + 1; omega) _).setCell (p := ⟨w.heap.size + 1 + 1, 7, none⟩) (by show _ ≤ _ + 1 + 1; omega) _).setCell (p := ⟨w.heap.size + 1 + 1, 8, none⟩) (by show _ ≤ _ + 1 + 1; omega) _).setCell (p := ⟨w.heap.size + 1 + 1, 9, none⟩) (by show _ ≤ _ + 1 + 1; omega) _).setCell (p := ⟨w.heap.size + 1 + 1, 10, none⟩) (by show _ ≤ _ + 1 + 1; omega) _).setCell (p := ⟨w.heap.size + 1 + 1, 11, none⟩) (by show _ ≤ _ + 1 + 1; omega) _
  have hmu : Mut (fun b => b = w.heap.size ∨ b = w.heap.size + 1 + 1) w2 WE := by
    rw [← hWE]
    exact Mut.setCell (T := fun b => b = w.heap.size ∨ b = w.heap.size + 1 + 1) (Mut.setCell (T := fun b => b = w.heap.size ∨ b = w.heap.size + 1 + 1) (Mut.setCell (T := fun b => b = w.heap.size ∨ b = w.heap.size + 1 + 1) (Mut.setCell (T := fun b => b = w.heap.size ∨ b = w.heap.size + 1 + 1) (Mut.setCell (T := fun b => b = w.heap.size ∨ b = w.heap.size + 1 + 1) (Mut.setCell (T := fun b => b = w.heap.size ∨ b = w.heap.size + 1 + 1) (Mut.setCell (T := fun b => b = w.heap.size ∨ b = w.heap.size + 1 + 1) (Mut.setCell (T := fun b => b = w.heap.size ∨ b = w.heap.size + 1 + 1) (Mut.setCell (T := fun b => b = w.heap.size ∨ b = w.heap.size + 1 + 1) (Mut.setCell (T := fun b => b = w.heap.size ∨ b = w.heap.size + 1 + 1) (Mut.setCell (T := fun b => b = w.heap.size ∨ b = w.heap.size + 1 + 1) (Mut.setCell (T := fun b => b = w.heap.size ∨ b = w.heap.size + 1 + 1) (Mut.setCell (T := fun b => b = w.heap.size ∨ b = w.heap.size + 1 + 1) (Mut.setCell (T := fun b => b = w.heap.size ∨ b = w.heap.size + 1 + 1) (Mut.refl _ _) (p := ⟨w.heap.size, 11, none⟩) (fun _ => .inl rfl) _) (p := ⟨w.heap.size, 2, none⟩) (fun _ => .inl rfl) _) (p := ⟨w.heap.size + 1 + 1, 0, none⟩) (fun _ => .inr rfl) _) (p := ⟨w.heap.size + 1 + 1, 1, none⟩) (fun _ => .inr rfl) _) (p := ⟨w.heap.size + 1 + 1, 2, none⟩) (fun _ => .inr rfl) _) (p := ⟨w.heap.size + 1 + 1, 3, none⟩) (fun _ => .inr rfl) _) (p := ⟨w.heap.size + 1 + 1, 4, none⟩) (fun _ => .inr rfl) _) (p := ⟨w.heap.size + 1 + 1, 5, none⟩) (fun _ => .inr rfl) _) (p := ⟨w.heap.size + 1 + 1, 6, none⟩) (fun _ => .inr rfl) _) (p := ⟨w.heap.size + 1 + 1, 7, none⟩) (fun _ => .inr rfl) _) (p := ⟨w.heap.size + 1 + 1, 8, none⟩) (fun _ => .inr rfl) _) (p := ⟨w.heap.size + 1 + 1, 9, none⟩) (fun _ => .inr rfl) _) (p := ⟨w.heap.size + 1 + 1, 10, none⟩) (fun _ => .inr rfl) _) (p := ⟨w.heap.size + 1 + 1, 11, none⟩) (fun _ => .inr rfl) _
  have r0 := cell_of_blk ho 0
  have r1 := cell_of_blk ho 1
  have r2 := cell_of_blk ho 2
  have r3 := cell_of_blk ho 3
  have r4 := cell_of_blk ho 4
  have r5 := cell_of_blk ho 5
  have r6 := cell_of_blk ho 6
  have r7 := cell_of_blk ho 7
  have r8 := cell_of_blk ho 8
  have r9 := cell_of_blk ho 9
  have r10 := cell_of_blk ho 10
  have r11 := cell_of_blk ho 11
  have hNs := HSZ.out
  have hb1s := HB1.out.size
  have hon := own_base (own_mut HO.out hmu (fun b hb h => by have := (HO.out.lt b hb).1; omega)) (show w.heap.size ≤ w1.heap.size by omega)
  have hov : Row WE (fun b => w.heap.size ≤ b) 4 vN (.slice A1 vN c1) (r.vars.flatMap GVar.cells) := (HOV2.out.mut hmu (fun b _ hb h => by have h1 : N.heap.size ≤ b := hb.1; omega)).weaken (fun b _ hb => by have h1 : N.heap.size ≤ b := hb.1; omega)
  refine bodyPost_ret (v := .agg #[.int .u64 Pp, .int .u64 Dd, .int .u64 (IntKind.u64.wrap (Mm + 1)), .slice A3 n3 c3, .slice A4 n4 c4, .slice A5 n5 c5, .slice A6 n6 c6, .slice A7 n7 c7, .slice A8 n8 c8, .slice A9 n9 c9, .slice A10 n10 c10, .slice A' Ln c']) (by simp [results, Tryz.results70, go_sem, r0, r1, r2, r3, r4, r5, r6, r7, r8, r9, r10, r11]) rfl ⟨A', c', Ln, A1, c1, rfl, HLN.out.symm, hon, hov, hbe⟩
end Go.Proofs.YtgpkmellpllmgaaGreat
