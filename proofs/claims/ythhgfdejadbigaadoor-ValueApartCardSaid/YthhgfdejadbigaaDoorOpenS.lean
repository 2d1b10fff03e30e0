/-
  Merged from GAx13, GAx4, LawL, LawM, LawA, LawApart, OpenK, OpenS.
-/
import Derived.Test.YthhgfdejadbigaaDoorGAx6
import Derived.Test.YthhgfdejadbigaaDoorGAx12
import Derived.Test.YthhgfdejadbigaaDoorIns
import Derived.Test.YthhgfdejadbigaaDoorWWords
import Derived.Deep.Slices
import Derived.Deep.Fields
import Derived.SizedLaws
import Derived.OpenShut
import Derived.ChangeArms
namespace Go.Proofs.YthhgfdejadbigaaDoor.GA
open Go.RowKit Go.Proofs.YthhgfdejadbigaaDoorW.PrintWords Go.Proofs.YthhgfdejadbigaaDoorW.PrintLast Go.Proofs.YthhgfdejadbigaaDoorW.PrintMore
attribute [local go_sem] max2_int min2_int max_two min_two max_three min_three max_four min_four   -- for this text's walks alone
set_option linter.unusedVariables false
set_option linter.unusedSimpArgs false
def wherryref09_VarsBytes.l0 : Nat → List (S60) → ByteArray → Int → Option (ByteArray)
  | 0, _, _, _ => none
  | k + 1, x0, x4, x5 => if x5 < (x0.length : Int) then (if 0 ≤ x5 then ((wherryref01_Text.f ((rd_T60 x0 x5).f0)).bind fun t235 => (if x4.size + t235.size ≤ 9223372036854775807 then ((wherryref09_Bytes.f ((rd_T60 x0 x5).f1.f0) ((rd_T60 x0 x5).f1.f1) ((rd_T60 x0 x5).f1.f2)).bind fun t237 => (if (x4 ++ t235).size + t237.size ≤ 9223372036854775807 then (wherryref09_VarsBytes.l0 k x0 ((x4 ++ t235) ++ t237) (wrap64 (x5 + 1))) else (none))) else (none))) else (none)) else (some x4)
def wherryref09_VarsBytes.f (k : Nat) (l0 : List (S60)) : Option (ByteArray) := (wherryref09_Right.f k l0).bind fun t232 => (if t232 = true then ((wherryref01_Uint.f (IntKind.u64.wrap ((l0.length : Int)))).bind fun t233 => (wherryref09_VarsBytes.l0 k l0 t233 0)) else (some (⟨#[]⟩ : ByteArray)))
theorem wherryref09_VarsBytes.mono_l : ∀ k, (∀ y0 y1 y2, LeO (wherryref09_VarsBytes.l0 k y0 y1 y2) (wherryref09_VarsBytes.l0 (k + 1) y0 y1 y2))
  | 0 => fun _ _ _ r h => by simp [wherryref09_VarsBytes.l0] at h
  | k + 1 => by
    have ih0 := wherryref09_VarsBytes.mono_l k
    · intro y0 y1 y2
      unfold wherryref09_VarsBytes.l0
      repeat' first
      | (with_reducible exact ih0 _ _ _)
      | (with_reducible exact wherryref09_Right.mono _ _)
      | (with_reducible exact LeO.refl _)
      | (with_reducible exact LeO.none _)
      | (with_reducible refine LeO.ite ?_ ?_)
      | (with_reducible refine LeO.bind ?_ (fun _ => ?_))
      | exact ih0 _ _ _
      | exact wherryref09_Right.mono _ _
      | exact LeO.none _
      | refine LeO.ite ?_ ?_
      | refine LeO.bind ?_ (fun _ => ?_)
theorem wherryref09_VarsBytes.mono : ∀ a0 k, LeO (wherryref09_VarsBytes.f k a0) (wherryref09_VarsBytes.f (k + 1) a0) := by
  intro a0 k
  have ih0 := wherryref09_VarsBytes.mono_l k
  unfold wherryref09_VarsBytes.f
  repeat' first
      | (with_reducible exact ih0 _ _ _)
      | (with_reducible exact wherryref09_Right.mono _ _)
      | (with_reducible exact LeO.refl _)
      | (with_reducible exact LeO.none _)
      | (with_reducible refine LeO.ite ?_ ?_)
      | (with_reducible refine LeO.bind ?_ (fun _ => ?_))
      | exact ih0 _ _ _
      | exact wherryref09_Right.mono _ _
      | exact LeO.none _
      | refine LeO.ite ?_ ?_
      | refine LeO.bind ?_ (fun _ => ?_)
def wherryref09_VarsBytes.T8 : Bool × List (List Nat × List Nat) := (true, [([], []), ([], []), ([], []), ([1, 2], [1, 2]), ([3], [3]), ([4], [4]), ([5], [5]), ([0, 6], [0, 6]), ([], []), ([], []), ([8, 9], [8, 9]), ([10], [10]), ([11], [11]), ([12, 6], [12]), ([7, 13], [7, 13]), ([14, 13, 0, 1, 2, 3, 4, 5, 6, 7, 8, 9, 10, 11, 12, 13, 14], [0, 14])])
def wherryref09_VarsBytes.B8 : List Nat := [0, 0, 0, 6, 14, 30, 62, 127, 0, 0, 768, 1792, 3840, 8062, 16383, 32767]
theorem wherryref09_VarsBytes.tab8 : rtab .any (opsOf Tryd.f28 8) = wherryref09_VarsBytes.T8 := by kernel_rfl
theorem wherryref09_VarsBytes.bits8 : waitsOk wherryref09_VarsBytes.T8.2 wherryref09_VarsBytes.B8 = true := by kernel_rfl
set_option maxHeartbeats 8000000 in
set_option maxRecDepth 100000 in
theorem wherryref09_VarsBytes.calls (k : Nat) (A0 : Option Addr) (c0 : Nat) (l0 : List (S60)) (r : ByteArray) (w : World) (hr0 : Kd.C k60 w A0 l0.length l0) (hc0 : l0.length ≤ c0) (h : wherryref09_VarsBytes.f k l0 = some r) :
    Calls Tryd.prog 28 #[.slice A0 l0.length c0] w fun e w' => e = .returned (.string r) ∧ Below w.heap.size w w' := by
  have hu23 := Tryd.underlying23
  have HR0 := Aside0.mk hr0
  have HC0 := Aside0.mk hc0
  clear hr0 hc0
  have HB := Aside0.mk (Below.refl w.heap.size w)
  have H : ((wherryref09_Right.f k l0).bind fun t232 => (if t232 = true then ((wherryref01_Uint.f (IntKind.u64.wrap ((l0.length : Int)))).bind fun t233 => (wherryref09_VarsBytes.l0 k l0 t233 0)) else (some (⟨#[]⟩ : ByteArray)))) = some r := h
  clear h
  replace H := Option.bind_eq_some_iff.mp H
  obtain ⟨t232, A20, H⟩ := H
  replace H : (if t232 = true then ((wherryref01_Uint.f (IntKind.u64.wrap ((l0.length : Int)))).bind fun t233 => (wherryref09_VarsBytes.l0 k l0 t233 0)) else (some (⟨#[]⟩ : ByteArray))) = some r := H
  have A2 := Aside0.mk A20
  clear A20
  by_cases c3 : t232 = true
  · subst c3
    have H1 : ((wherryref01_Uint.f (IntKind.u64.wrap ((l0.length : Int)))).bind fun t233 => (wherryref09_VarsBytes.l0 k l0 t233 0)) = some r := by rw [if_pos rfl] at H; exact H
    clear H
    have H := H1
    clear H1
    replace H := Option.bind_eq_some_iff.mp H
    obtain ⟨t233, A40, H⟩ := H
    replace H : (wherryref09_VarsBytes.l0 k l0 t233 0) = some r := H
    have A4 := Aside0.mk A40
    clear A40
    have H' := Aside0.mk H
    clear H
    go_enter Tryd.func28, Tryd.ntmps28
    go_wp2_with (first | ((with_reducible refine gate_callee (f := 24) rfl ?_); refine goesL_ (some 7) rfl rfl Tryd.func24 (by kernel_rfl) rfl #[.slice A0 l0.length c0] rfl (by (try simp only [List.map_toArray, List.map_cons, List.map_nil]); first | done | rfl | (simp only [List.length_drop, List.length_take]; rfl)) ?_; (with_reducible refine (wherryref09_Right.calls k _ _ l0 true _ ?side1 ?side2 A2.out).mono ?_); (case side1 => repeat (first | exact HR0.out | (with_reducible refine Kd.C_alloc ?_ _) | (with_reducible refine Kd.C_drewN ?_ _) | (with_reducible refine Kd.C_drew ?_))); (case side2 => exact HC0.out); rintro e w5 ⟨rfl, hb⟩; refine ⟨_, rfl, ?_⟩; have n0_ := Aside0.mk (below_step (by repeat (first | (with_reducible first | exact HB.out | apply below_alloc | apply pw_below_drewN | apply below_drew1) | exact HB.out)) hb); clear HB; have HB := n0_; clear n0_; (try clear hb); (try clear hb2); (try clear hk); (try clear hi)) | ((with_reducible refine gate_callee (f := 56) rfl ?_); refine goesL_ (some 13) rfl rfl Tryd.func56 (by kernel_rfl) rfl #[.int .u64 (IntKind.u64.wrap ((l0.length : Int)))] rfl (by (try simp only [List.map_toArray, List.map_cons, List.map_nil]); first | done | rfl | (simp only [List.length_drop, List.length_take]; rfl)) ?_; (with_reducible refine (wherryref01_Uint.calls (IntKind.u64.wrap ((l0.length : Int))) t233 _ A4.out).mono ?_); rintro e w6 ⟨rfl, hb⟩; refine ⟨_, rfl, ?_⟩; have n0_ := Aside0.mk (below_step (by repeat (first | (with_reducible first | exact HB.out | apply below_alloc | apply pw_below_drewN | apply below_drew1) | exact HB.out)) hb); clear HB; have HB := n0_; clear n0_; (try clear hb); (try clear hb2); (try clear hk); (try clear hi)))
    go_loopg [4, 5] k (fun kq v4 v5 w' => ∃ (x4_1 : ByteArray) (x5_1 : Int), v4 = .string x4_1 ∧ v5 = .int .i64 x5_1 ∧ Aside0 (wherryref09_VarsBytes.l0 kq l0 x4_1 x5_1 = some r) ∧ Aside0 (kq ≤ k) ∧ Aside0 (Below w.heap.size w w'))
    case atStart => exact ⟨(t233), (0), (by first | rfl | (simp; done) | (simp [*]; done)), (by first | rfl | (simp; done) | (simp [*]; done)), H', ⟨Nat.le_refl _⟩, ⟨by repeat (first | (with_reducible first | exact HB.out | apply below_alloc | apply pw_below_drewN | apply below_drew1) | exact HB.out)⟩⟩
    case round =>
      clear H'
      try clear c2
      try clear p2
      try clear c3
      try clear c5
      obtain ⟨x4_1, x5_1, rfl, rfl, HA, HK1, HB⟩ := hrel
      cases gk with
      | zero => exact absurd HA.out (by simp [wherryref09_VarsBytes.l0])
      | succ k1 =>
        have H := HA.out
        clear HA
        simp only [wherryref09_VarsBytes.l0] at H
        by_cases c7 : x5_1 < (l0.length : Int)
        · rw [if_pos c7] at H
          have c7b0 : decide (x5_1 < (l0.length : Int)) = true := decide_eq_true c7
          clear c7
          by_cases c8 : 0 ≤ x5_1
          · rw [if_pos c8] at H
            have c8b0 : decide (0 ≤ x5_1) = true := decide_eq_true c8
            clear c8
            replace H := Option.bind_eq_some_iff.mp H
            obtain ⟨t235, A90, H⟩ := H
            replace H : (if x4_1.size + t235.size ≤ 9223372036854775807 then ((wherryref09_Bytes.f ((rd_T60 l0 x5_1).f1.f0) ((rd_T60 l0 x5_1).f1.f1) ((rd_T60 l0 x5_1).f1.f2)).bind fun t237 => (if (x4_1 ++ t235).size + t237.size ≤ 9223372036854775807 then (wherryref09_VarsBytes.l0 k1 l0 ((x4_1 ++ t235) ++ t237) (wrap64 (x5_1 + 1))) else (none))) else (none)) = some r := H
            have A9 := Aside0.mk A90
            clear A90
            by_cases c10 : x4_1.size + t235.size ≤ 9223372036854775807
            · rw [if_pos c10] at H
              have c10b0 := eq_true c10
              have c10b1 : decide (x4_1.size + t235.size ≤ 9223372036854775807) = true := decide_eq_true c10
              try have c10b2 : (9223372036854775807 < x4_1.size + t235.size) = False := eq_false (Nat.not_lt.2 c10)
              replace H := Option.bind_eq_some_iff.mp H
              obtain ⟨t237, A110, H⟩ := H
              replace H : (if (x4_1 ++ t235).size + t237.size ≤ 9223372036854775807 then (wherryref09_VarsBytes.l0 k1 l0 ((x4_1 ++ t235) ++ t237) (wrap64 (x5_1 + 1))) else (none)) = some r := H
              have A11 := Aside0.mk A110
              clear A110
              by_cases c12 : (x4_1 ++ t235).size + t237.size ≤ 9223372036854775807
              · rw [if_pos c12] at H
                have c12b0 := eq_true c12
                have c12b1 : decide ((x4_1 ++ t235).size + t237.size ≤ 9223372036854775807) = true := decide_eq_true c12
                try have c12b2 : (9223372036854775807 < (x4_1 ++ t235).size + t237.size) = False := eq_false (Nat.not_lt.2 c12)
                try (have c12b3 := c12b2; simp only [ByteArray.size_append] at c12b3)
                have H' := Aside0.mk H
                clear H
                try go_wp2
                have n0_ := Aside0.mk (below_drew1 HB.out)
                clear HB
                have HB := n0_
                clear n0_
                have p234 : 0 ≤ (x5_1 : Int) := of_decide_eq_true (by first | (with_reducible assumption) | assumption)
                have q234 : x5_1 < (l0.length : Int) := of_decide_eq_true (by first | (with_reducible assumption) | assumption)
                obtain ⟨ad234, e234, hx234_0, hx234_1, hx234_2, hx234_3⟩ := at_T60 HR0.out x5_1 p234 q234
                have hw234_3 := hx234_3
                have hw234_2 := hx234_2
                have hw234_1 := hx234_1
                have hw234_0 := hx234_0
                cases e234
                replace hx234_0 := (HB.out.cell (World.block_lt_of_cell? w _ hx234_0)).trans hx234_0
                replace hx234_1 := (HB.out.cell (World.block_lt_of_cell? w _ hx234_1)).trans hx234_1
                replace hx234_2 := (HB.out.cell (World.block_lt_of_cell? w _ hx234_2)).trans hx234_2
                replace hx234_3 := (HB.out.cell (World.block_lt_of_cell? w _ hx234_3)).trans hx234_3
                replace p234 := eq_true p234
                replace q234 := eq_true q234
                have p236 : 0 ≤ (x5_1 : Int) := of_decide_eq_true (by first | (with_reducible assumption) | assumption)
                have q236 : x5_1 < (l0.length : Int) := of_decide_eq_true (by first | (with_reducible assumption) | assumption)
                obtain ⟨ad236, e236, hx236_0, hx236_1, hx236_2, hx236_3⟩ := at_T60 HR0.out x5_1 p236 q236
                have hw236_3 := hx236_3
                have hw236_2 := hx236_2
                have hw236_1 := hx236_1
                have hw236_0 := hx236_0
                obtain rfl : ad234 = ad236 := (by injection e236)
                replace hx236_0 := (HB.out.cell (World.block_lt_of_cell? w _ hx236_0)).trans hx236_0
                replace hx236_1 := (HB.out.cell (World.block_lt_of_cell? w _ hx236_1)).trans hx236_1
                replace hx236_2 := (HB.out.cell (World.block_lt_of_cell? w _ hx236_2)).trans hx236_2
                replace hx236_3 := (HB.out.cell (World.block_lt_of_cell? w _ hx236_3)).trans hx236_3
                replace p236 := eq_true p236
                replace q236 := eq_true q236
                refine start_ (n := 16) (S := fun w' => w'.cell? (ad234.add ((x5_1).toNat * 4)) = some (.string ((rd_T60 l0 x5_1).f0)) ∧ w'.cell? ⟨(ad234.add ((x5_1).toNat * 4)).block, (ad234.add ((x5_1).toNat * 4)).off + 1, none⟩ = some (.int .i64 ((rd_T60 l0 x5_1).f1.f0)) ∧ w'.cell? ⟨(ad234.add ((x5_1).toNat * 4)).block, (ad234.add ((x5_1).toNat * 4)).off + 2, none⟩ = some (.int .i64 ((rd_T60 l0 x5_1).f1.f1)) ∧ w'.cell? ⟨(ad234.add ((x5_1).toNat * 4)).block, (ad234.add ((x5_1).toNat * 4)).off + 3, none⟩ = some (.string ((rd_T60 l0 x5_1).f1.f2)) ∧ w'.cell? (ad234.add ((x5_1).toNat * 4)) = some (.string ((rd_T60 l0 x5_1).f0)) ∧ w'.cell? ⟨(ad234.add ((x5_1).toNat * 4)).block, (ad234.add ((x5_1).toNat * 4)).off + 1, none⟩ = some (.int .i64 ((rd_T60 l0 x5_1).f1.f0)) ∧ w'.cell? ⟨(ad234.add ((x5_1).toNat * 4)).block, (ad234.add ((x5_1).toNat * 4)).off + 2, none⟩ = some (.int .i64 ((rd_T60 l0 x5_1).f1.f1)) ∧ w'.cell? ⟨(ad234.add ((x5_1).toNat * 4)).block, (ad234.add ((x5_1).toNat * 4)).off + 3, none⟩ = some (.string ((rd_T60 l0 x5_1).f1.f2))) (ds := []) #[false, false, false, false, false, false, false, false, false, false, false, false, false, false, false, false] (by kernel_rfl) rfl rfl ⟨((HB.out.cell (World.block_lt_of_cell? w _ hw234_0)).trans hw234_0), ((HB.out.cell (World.block_lt_of_cell? w _ hw234_1)).trans hw234_1), ((HB.out.cell (World.block_lt_of_cell? w _ hw234_2)).trans hw234_2), ((HB.out.cell (World.block_lt_of_cell? w _ hw234_3)).trans hw234_3), ((HB.out.cell (World.block_lt_of_cell? w _ hw236_0)).trans hw236_0), ((HB.out.cell (World.block_lt_of_cell? w _ hw236_1)).trans hw236_1), ((HB.out.cell (World.block_lt_of_cell? w _ hw236_2)).trans hw236_2), ((HB.out.cell (World.block_lt_of_cell? w _ hw236_3)).trans hw236_3)⟩ (fun hHeld => ?_); refine with_tabW wherryref09_VarsBytes.tab8 wherryref09_VarsBytes.bits8 (fun HT_ HW_ => ?_)
                generalize wr.drew = w13 at HB hx234_0 hx234_1 hx234_2 hx234_3 hx236_0 hx236_1 hx236_2 hx236_3 hHeld ⊢
                refine pure_ (i := 0) (N := some 20) (v := ?_) (a' := ?_) #[true, false, false, false, false, false, false, false, false, false, false, false, false, false, false, false] rfl rfl (any_of HT_.out (by kernel_rfl)) (fun _ _ _ h => h) (Or.inl ⟨by rfl, ?_⟩) ?_ ?_
                rotate_left
                · intro w'
                  go_simp
                  with_reducible rfl
                rotate_left
                · simp only [Act.put, List.setIfInBounds_toArray, List.set_cons_zero, List.set_cons_succ, i64_w, i32_w]
                  rfl
                refine pure_ (i := 1) (N := some 21) (v := ?_) (a' := ?_) #[true, true, false, false, false, false, false, false, false, false, false, false, false, false, false, false] rfl rfl (any_of HT_.out (by kernel_rfl)) (fun _ _ _ h => h) (Or.inl ⟨by rfl, ?_⟩) ?_ ?_
                rotate_left
                · intro w'
                  go_simp
                  with_reducible rfl
                rotate_left
                · simp only [Act.put, List.setIfInBounds_toArray, List.set_cons_zero, List.set_cons_succ, i64_w, i32_w]
                  rfl
                refine pure_ (i := 2) (N := some 22) (v := ?_) (a' := ?_) #[true, true, true, false, false, false, false, false, false, false, false, false, false, false, false, false] rfl rfl (any_of HT_.out (by kernel_rfl)) (fun _ _ _ h => h) (Or.inl ⟨by rfl, ?_⟩) ?_ ?_
                rotate_left
                · intro w'
                  go_simp
                  with_reducible rfl
                rotate_left
                · simp only [Act.put, List.setIfInBounds_toArray, List.set_cons_zero, List.set_cons_succ, i64_w, i32_w]
                  rfl
                refine pure_ (i := 3) (N := some 23) (v := ?_) (a' := ?_) #[true, true, true, true, false, false, false, false, false, false, false, false, false, false, false, false] rfl rfl (any_of HT_.out (by kernel_rfl)) (fun _ _ _ h => h) (Or.inl ⟨by rfl, ?_⟩) ?_ ?_
                rotate_left
                · intro w'
                  go_simp
                  with_reducible rfl
                rotate_left
                · simp only [Act.put, List.setIfInBounds_toArray, List.set_cons_zero, List.set_cons_succ, i64_w, i32_w]
                  rfl
                refine pure_ (i := 4) (N := some 24) (v := ?_) (a' := ?_) #[true, true, true, true, true, false, false, false, false, false, false, false, false, false, false, false] rfl rfl (any_of HT_.out (by kernel_rfl)) (fun _ _ _ h => h) (Or.inl ⟨by rfl, ?_⟩) ?_ ?_
                rotate_left
                · intro w'
                  go_simp
                  with_reducible rfl
                rotate_left
                · simp only [Act.put, List.setIfInBounds_toArray, List.set_cons_zero, List.set_cons_succ, i64_w, i32_w]
                  rfl
                refine pure_ (i := 8) (N := some 28) (v := ?_) (a' := ?_) #[true, true, true, true, true, false, false, false, true, false, false, false, false, false, false, false] rfl rfl (any_of HT_.out (by kernel_rfl)) (fun _ _ _ h => h) (Or.inl ⟨by rfl, ?_⟩) ?_ ?_
                rotate_left
                · intro w'
                  go_simp
                  with_reducible rfl
                rotate_left
                · simp only [Act.put, List.setIfInBounds_toArray, List.set_cons_zero, List.set_cons_succ, i64_w, i32_w]
                  rfl
                refine pure_ (i := 9) (N := some 29) (v := ?_) (a' := ?_) #[true, true, true, true, true, false, false, false, true, true, false, false, false, false, false, false] rfl rfl (any_of HT_.out (by kernel_rfl)) (fun _ _ _ h => h) (Or.inl ⟨by rfl, ?_⟩) ?_ ?_
                rotate_left
                · intro w'
                  go_simp
                  with_reducible rfl
                rotate_left
                · simp only [Act.put, List.setIfInBounds_toArray, List.set_cons_zero, List.set_cons_succ, i64_w, i32_w]
                  rfl
                refine pure_ (i := 10) (N := some 30) (v := ?_) (a' := ?_) #[true, true, true, true, true, false, false, false, true, true, true, false, false, false, false, false] rfl rfl (any_of HT_.out (by kernel_rfl)) (fun _ _ _ h => h) (Or.inl ⟨by rfl, ?_⟩) ?_ ?_
                rotate_left
                · intro w'
                  go_simp
                  with_reducible rfl
                rotate_left
                · simp only [Act.put, List.setIfInBounds_toArray, List.set_cons_zero, List.set_cons_succ, i64_w, i32_w]
                  rfl
                refine pure_ (i := 11) (N := some 31) (v := ?_) (a' := ?_) #[true, true, true, true, true, false, false, false, true, true, true, true, false, false, false, false] rfl rfl (any_of HT_.out (by kernel_rfl)) (fun _ _ _ h => h) (Or.inl ⟨by rfl, ?_⟩) ?_ ?_
                rotate_left
                · intro w'
                  go_simp
                  with_reducible rfl
                rotate_left
                · simp only [Act.put, List.setIfInBounds_toArray, List.set_cons_zero, List.set_cons_succ, i64_w, i32_w]
                  rfl
                refine take_ (i := 5) (N := some 25) (v := ?_) (a' := ?_) #[true, true, true, true, true, true, false, false, true, true, true, true, false, false, false, false] rfl rfl (take_ofW HT_.out HW_.out (by kernel_rfl)) (fun _ _ _ h => h) (Or.inl ⟨by rfl, ?_⟩) hHeld ?_ ?_
                rotate_left
                · rintro w' ⟨s0, s1, s2, s3, s4, s5, s6, s7⟩
                  go_simp
                  with_reducible rfl
                rotate_left
                · simp only [Act.put, List.setIfInBounds_toArray, List.set_cons_zero, List.set_cons_succ, i64_w, i32_w]
                  rfl
                refine take_ (i := 12) (N := some 32) (v := ?_) (a' := ?_) #[true, true, true, true, true, true, false, false, true, true, true, true, true, false, false, false] rfl rfl (take_ofW HT_.out HW_.out (by kernel_rfl)) (fun _ _ _ h => h) (Or.inl ⟨by rfl, ?_⟩) hHeld ?_ ?_
                rotate_left
                · rintro w' ⟨s0, s1, s2, s3, s4, s5, s6, s7⟩
                  go_simp
                  with_reducible rfl
                rotate_left
                · simp only [Act.put, List.setIfInBounds_toArray, List.set_cons_zero, List.set_cons_succ, i64_w, i32_w]
                  rfl
                refine one_ (i := 6) (N := some 26) #[true, true, true, true, true, true, true, false, true, true, true, true, true, false, false, false] rfl rfl (one_of HT_.out (by kernel_rfl)) (by decide) (fun K hK => ?_)
                refine goes_ Tryd.func51 (by kernel_rfl) rfl #[.string ((rd_T60 l0 x5_1).f0)] (by rfl) rfl rfl (by (try simp only [List.map_toArray, List.map_cons, List.map_nil]); first | done | rfl | (simp only [List.length_drop, List.length_take]; rfl)) ?_
                with_reducible refine (wherryref01_Text.calls ((rd_T60 l0 x5_1).f0) t235 _ A9.out).mono ?_
                rintro e w14 ⟨rfl, hb⟩
                refine ⟨_, rfl, ?_⟩
                have n0_ := Aside0.mk (below_step (by repeat (first | (with_reducible first | exact HB.out | apply below_alloc | apply pw_below_drewN | apply below_drew1) | exact HB.out)) hb)
                clear HB
                have HB := n0_
                clear n0_
                (try clear hb)
                (try clear hb2)
                (try clear hk)
                (try clear hi)
                refine hK.out _ _ ⟨((HB.out.cell (World.block_lt_of_cell? w _ hw234_0)).trans hw234_0), ((HB.out.cell (World.block_lt_of_cell? w _ hw234_1)).trans hw234_1), ((HB.out.cell (World.block_lt_of_cell? w _ hw234_2)).trans hw234_2), ((HB.out.cell (World.block_lt_of_cell? w _ hw234_3)).trans hw234_3), ((HB.out.cell (World.block_lt_of_cell? w _ hw236_0)).trans hw236_0), ((HB.out.cell (World.block_lt_of_cell? w _ hw236_1)).trans hw236_1), ((HB.out.cell (World.block_lt_of_cell? w _ hw236_2)).trans hw236_2), ((HB.out.cell (World.block_lt_of_cell? w _ hw236_3)).trans hw236_3)⟩ (fun hHeld => ?_)
                clear hK K
                refine norm_ (a' := ?_) ?_ ?_
                rotate_left
                · show Act.put _ (some 26) _ = _
                  simp only [Act.put, List.setIfInBounds_toArray, List.set_cons_zero, List.set_cons_succ, i64_w, i32_w]
                  rfl
                refine pure_ (i := 7) (N := some 27) (v := ?_) (a' := ?_) #[true, true, true, true, true, true, true, true, true, true, true, true, true, false, false, false] rfl rfl (any_of HT_.out (by kernel_rfl)) (fun _ _ _ h => h) (Or.inl ⟨by rfl, ?_⟩) ?_ ?_
                rotate_left
                · intro w'
                  go_simp
                  with_reducible rfl
                rotate_left
                · simp only [Act.put, List.setIfInBounds_toArray, List.set_cons_zero, List.set_cons_succ, i64_w, i32_w]
                  rfl
                refine one_ (i := 13) (N := some 33) #[true, true, true, true, true, true, true, true, true, true, true, true, true, true, false, false] rfl rfl (one_of HT_.out (by kernel_rfl)) (by decide) (fun K hK => ?_)
                refine goes_ Tryd.func25 (by kernel_rfl) rfl #[.agg #[.int .i64 ((rd_T60 l0 x5_1).f1.f0), .int .i64 ((rd_T60 l0 x5_1).f1.f1), .string ((rd_T60 l0 x5_1).f1.f2)]] (by rfl) rfl rfl (by (try simp only [List.map_toArray, List.map_cons, List.map_nil]); first | done | rfl | (simp only [List.length_drop, List.length_take]; rfl)) ?_
                with_reducible refine (wherryref09_Bytes.calls ((rd_T60 l0 x5_1).f1.f0) ((rd_T60 l0 x5_1).f1.f1) ((rd_T60 l0 x5_1).f1.f2) t237 _ A11.out).mono ?_
                rintro e w15 ⟨rfl, hb⟩
                refine ⟨_, rfl, ?_⟩
                have n0_ := Aside0.mk (below_step (by repeat (first | (with_reducible first | exact HB.out | apply below_alloc | apply pw_below_drewN | apply below_drew1) | exact HB.out)) hb)
                clear HB
                have HB := n0_
                clear n0_
                (try clear hb)
                (try clear hb2)
                (try clear hk)
                (try clear hi)
                refine hK.out _ _ ⟨((HB.out.cell (World.block_lt_of_cell? w _ hw234_0)).trans hw234_0), ((HB.out.cell (World.block_lt_of_cell? w _ hw234_1)).trans hw234_1), ((HB.out.cell (World.block_lt_of_cell? w _ hw234_2)).trans hw234_2), ((HB.out.cell (World.block_lt_of_cell? w _ hw234_3)).trans hw234_3), ((HB.out.cell (World.block_lt_of_cell? w _ hw236_0)).trans hw236_0), ((HB.out.cell (World.block_lt_of_cell? w _ hw236_1)).trans hw236_1), ((HB.out.cell (World.block_lt_of_cell? w _ hw236_2)).trans hw236_2), ((HB.out.cell (World.block_lt_of_cell? w _ hw236_3)).trans hw236_3)⟩ (fun hHeld => ?_)
                clear hK K
                refine norm_ (a' := ?_) ?_ ?_
                rotate_left
                · show Act.put _ (some 33) _ = _
                  simp only [Act.put, List.setIfInBounds_toArray, List.set_cons_zero, List.set_cons_succ, i64_w, i32_w]
                  rfl
                refine pure_ (i := 14) (N := some 34) (v := ?_) (a' := ?_) #[true, true, true, true, true, true, true, true, true, true, true, true, true, true, true, false] rfl rfl (any_of HT_.out (by kernel_rfl)) (fun _ _ _ h => h) (Or.inl ⟨by rfl, ?_⟩) ?_ ?_
                rotate_left
                · intro w'
                  go_simp
                  with_reducible rfl
                rotate_left
                · simp only [Act.put, List.setIfInBounds_toArray, List.set_cons_zero, List.set_cons_succ, i64_w, i32_w]
                  rfl
                refine pure_ (i := 15) (N := some 4) (v := ?_) (a' := ?_) #[true, true, true, true, true, true, true, true, true, true, true, true, true, true, true, true] rfl rfl (any_of HT_.out (by kernel_rfl)) (fun _ _ _ h => h) (Or.inl ⟨by rfl, ?_⟩) ?_ ?_
                rotate_left
                · intro w'
                  go_simp
                  with_reducible rfl
                rotate_left
                · simp only [Act.put, List.setIfInBounds_toArray, List.set_cons_zero, List.set_cons_succ, i64_w, i32_w]
                  rfl
                refine done_ (done_of HT_.out (by kernel_rfl)) ?_
                try go_wp2
                go_roundg k1
                case measure => have := HK1.out; omega
                case rel => exact ⟨((x4_1 ++ t235) ++ t237), (wrap64 (x5_1 + 1)), (by first | rfl | (simp; done) | (simp [*]; done)), (by first | rfl | (simp; done) | (simp [*]; done)), H', ⟨by have := HK1.out; omega⟩, ⟨by repeat (first | (with_reducible first | exact HB.out | apply below_alloc | apply pw_below_drewN | apply below_drew1) | exact HB.out)⟩⟩
              · rw [if_neg c12] at H
                exact absurd H (by simp)
            · rw [if_neg c10] at H
              exact absurd H (by simp)
          · rw [if_neg c8] at H
            exact absurd H (by simp)
        · rw [if_neg c7] at H
          have c7b0 : decide (x5_1 < (l0.length : Int)) = false := decide_eq_false c7
          clear c7
          obtain rfl := Option.some.inj H
          go_wp2
          go_ret
          exact ⟨by first | rfl | (simp [errW_none, errW_some] <;> rfl) | (simp [*, errW_none, errW_some] <;> rfl), by repeat (first | (with_reducible first | exact HB.out | apply below_alloc | apply pw_below_drewN | apply below_drew1) | exact HB.out)⟩
  · replace c3 := Bool.eq_false_iff.mpr c3
    subst c3
    have H1 : (some (⟨#[]⟩ : ByteArray)) = some r := by rw [if_neg (show ¬ (false = true) by decide)] at H; exact H
    clear H
    have H := H1
    clear H1
    obtain rfl := Option.some.inj H
    go_enter Tryd.func28, Tryd.ntmps28
    go_wp2_with (first | ((with_reducible refine gate_callee (f := 24) rfl ?_); refine goesL_ (some 7) rfl rfl Tryd.func24 (by kernel_rfl) rfl #[.slice A0 l0.length c0] rfl (by (try simp only [List.map_toArray, List.map_cons, List.map_nil]); first | done | rfl | (simp only [List.length_drop, List.length_take]; rfl)) ?_; (with_reducible refine (wherryref09_Right.calls k _ _ l0 false _ ?side1 ?side2 A2.out).mono ?_); (case side1 => repeat (first | exact HR0.out | (with_reducible refine Kd.C_alloc ?_ _) | (with_reducible refine Kd.C_drewN ?_ _) | (with_reducible refine Kd.C_drew ?_))); (case side2 => exact HC0.out); rintro e w16 ⟨rfl, hb⟩; refine ⟨_, rfl, ?_⟩; have n0_ := Aside0.mk (below_step (by repeat (first | (with_reducible first | exact HB.out | apply below_alloc | apply pw_below_drewN | apply below_drew1) | exact HB.out)) hb); clear HB; have HB := n0_; clear n0_; (try clear hb); (try clear hb2); (try clear hk); (try clear hi)))
    go_ret
    exact ⟨by first | rfl | (simp [errW_none, errW_some] <;> rfl) | (simp [*, errW_none, errW_some] <;> rfl), by repeat (first | (with_reducible first | exact HB.out | apply below_alloc | apply pw_below_drewN | apply below_drew1) | exact HB.out)⟩
def wherryref09_Less.f (k : Nat) (a0_0 : Int) (a0_1 : Int) (a0_2 : ByteArray) (a1_0 : Int) (a1_1 : Int) (a1_2 : ByteArray) : Option (Bool) := if a0_0 = a1_0 then (if a0_1 = a1_1 then ((wherryref02_Less.f k a0_2 a1_2).bind fun t240 => (some t240)) else (some (decide (a0_1 < a1_1)))) else (some (decide (a0_0 < a1_0)))
theorem wherryref09_Less.mono : ∀ a0 a1 a2 a3 a4 a5 k, LeO (wherryref09_Less.f k a0 a1 a2 a3 a4 a5) (wherryref09_Less.f (k + 1) a0 a1 a2 a3 a4 a5) := by
  intro a0 a1 a2 a3 a4 a5 k
  unfold wherryref09_Less.f
  repeat' first
      | (with_reducible exact wherryref02_Less.mono _ _ _)
      | (with_reducible exact LeO.refl _)
      | (with_reducible exact LeO.none _)
      | (with_reducible refine LeO.ite ?_ ?_)
      | (with_reducible refine LeO.bind ?_ (fun _ => ?_))
      | exact wherryref02_Less.mono _ _ _
      | exact LeO.none _
      | refine LeO.ite ?_ ?_
      | refine LeO.bind ?_ (fun _ => ?_)
set_option maxHeartbeats 8000000 in
set_option maxRecDepth 100000 in
theorem wherryref09_Less.calls (k : Nat) (a0_0 : Int) (a0_1 : Int) (a0_2 : ByteArray) (a1_0 : Int) (a1_1 : Int) (a1_2 : ByteArray) (r : Bool) (w : World) (h : wherryref09_Less.f k a0_0 a0_1 a0_2 a1_0 a1_1 a1_2 = some r) :
    Calls Tryd.prog 29 #[.agg #[.int .i64 a0_0, .int .i64 a0_1, .string a0_2], .agg #[.int .i64 a1_0, .int .i64 a1_1, .string a1_2]] w fun e w' => e = .returned (.bool r) ∧ Below w.heap.size w w' := by
  have hu23 := Tryd.underlying23
  have HB := Aside0.mk (Below.refl w.heap.size w)
  have H : (if a0_0 = a1_0 then (if a0_1 = a1_1 then ((wherryref02_Less.f k a0_2 a1_2).bind fun t240 => (some t240)) else (some (decide (a0_1 < a1_1)))) else (some (decide (a0_0 < a1_0)))) = some r := h
  clear h
  by_cases c3 : a0_0 = a1_0
  · rw [if_pos c3] at H
    have c3b0 : (a0_0 == a1_0) = true := beq_iff_eq.mpr c3
    have c3b1 : (a0_0 != a1_0) = false := bne_eq_false_iff_eq.mpr c3
    clear c3
    by_cases c4 : a0_1 = a1_1
    · rw [if_pos c4] at H
      have c4b0 : (a0_1 == a1_1) = true := beq_iff_eq.mpr c4
      have c4b1 : (a0_1 != a1_1) = false := bne_eq_false_iff_eq.mpr c4
      clear c4
      replace H := Option.bind_eq_some_iff.mp H
      obtain ⟨t240, A50, H⟩ := H
      replace H : (some t240) = some r := H
      have A5 := Aside0.mk A50
      clear A50
      obtain rfl := Option.some.inj H
      go_enter Tryd.func29, Tryd.ntmps29
      go_wp2_with (first | ((with_reducible refine gate_dst (N := 2) rfl ?_); refine box_event ?hg (N := 2) ?hd (cs := #[.int .i64 a0_0, .int .i64 a0_1, .string a0_2]) (t := 23) ?hr ?_; (case hd => rfl); (case hg => rfl); (case hr => first | (go_simp; done) | (go_simp; rfl)); intro gb238 hg w6 hbox hb; have n0_ := Aside0.mk (below_step (by repeat (first | (with_reducible first | exact HB.out | apply below_alloc | apply pw_below_drewN | apply below_drew1) | exact HB.out)) hb); have n1_ := Aside0.mk (hbox); have n2_ := Aside0.mk ((by rw [hg]; exact (below_size (by repeat (first | (with_reducible first | exact HB.out | apply below_alloc | apply pw_below_drewN | apply below_drew1) | exact HB.out))) : w.heap.size ≤ gb238)); have n3_ := Aside0.mk ((by rw [hg]; exact (below_size (by repeat (first | (with_reducible first | exact HB.out | apply below_alloc | apply pw_below_drewN | apply below_drew1) | exact HB.out))) : w.heap.size ≤ gb238)); clear HB; have HB := n0_; have BK238 := n1_; have GW238 := n2_; have GE238 := n3_; clear n0_ n1_ n2_ n3_; clear hb hbox hg) | ((with_reducible refine gate_dst (N := 3) rfl ?_); refine box_event ?hg (N := 3) ?hd (cs := #[.int .i64 a1_0, .int .i64 a1_1, .string a1_2]) (t := 23) ?hr ?_; (case hd => rfl); (case hg => rfl); (case hr => first | (go_simp; done) | (go_simp; rfl)); intro gb239 hg w7 hbox hb; have n0_ := Aside0.mk (blk_below (g := gb238) (o := .cells #[.int .i64 a0_0, .int .i64 a0_1, .string a0_2] 23 (0, 0)) (by (with_reducible repeat (first | refine blk_drewN ?_ _ | refine blk_drew ?_ | refine blk_alloc ?_ _)); exact BK238.out) hb); have n1_ := Aside0.mk (below_step (by repeat (first | (with_reducible first | exact HB.out | apply below_alloc | apply pw_below_drewN | apply below_drew1 | refine below_set ?_ GE238.out) | exact HB.out)) hb); have n2_ := Aside0.mk (hbox); have n3_ := Aside0.mk ((by rw [hg]; exact (below_size (by repeat (first | (with_reducible first | exact HB.out | apply below_alloc | apply pw_below_drewN | apply below_drew1 | refine below_set ?_ GE238.out) | exact HB.out))) : w.heap.size ≤ gb239)); have n4_ := Aside0.mk ((by rw [hg]; exact (below_size (by repeat (first | (with_reducible first | exact HB.out | apply below_alloc | apply pw_below_drewN | apply below_drew1 | refine below_set ?_ GE238.out) | exact HB.out))) : w.heap.size ≤ gb239)); have n5_ := Aside0.mk ((by rw [hg]; exact Nat.ne_of_lt (blk_lt (g := gb238) (o := .cells #[.int .i64 a0_0, .int .i64 a0_1, .string a0_2] 23 (0, 0)) (by (with_reducible repeat (first | refine blk_drewN ?_ _ | refine blk_drew ?_ | refine blk_alloc ?_ _)); exact BK238.out)) : gb238 ≠ gb239)); have n6_ := Aside0.mk ((by rw [hg]; exact Nat.ne_of_gt (blk_lt (g := gb238) (o := .cells #[.int .i64 a0_0, .int .i64 a0_1, .string a0_2] 23 (0, 0)) (by (with_reducible repeat (first | refine blk_drewN ?_ _ | refine blk_drew ?_ | refine blk_alloc ?_ _)); exact BK238.out)) : gb239 ≠ gb238)); clear BK238; clear HB; have BK238 := n0_; have HB := n1_; have BK239 := n2_; have GW239 := n3_; have GE239 := n4_; have NB238_239 := n5_; have NB239_238 := n6_; clear n0_ n1_ n2_ n3_ n4_ n5_ n6_; clear hb hbox hg; have hnb8 := NB238_239.out; have hnc8 := NB239_238.out; have hcz9_0 : w7.cell? ⟨gb238, 0, none⟩ = some (.int .i64 a0_0) := (blk_cell BK238.out 0).trans rfl; have hcz9_1 : w7.cell? ⟨gb238, 1, none⟩ = some (.int .i64 a0_1) := (blk_cell BK238.out 1).trans rfl; have hcz9_2 : w7.cell? ⟨gb238, 2, none⟩ = some (.string a0_2) := (blk_cell BK238.out 2).trans rfl; have hfz9_0 := blk_frozen BK238.out 0; have hfz9_1 := blk_frozen BK238.out 1; have hfz9_2 := blk_frozen BK238.out 2; have hcz10_0 : w7.cell? ⟨gb239, 0, none⟩ = some (.int .i64 a1_0) := (blk_cell BK239.out 0).trans rfl; have hcz10_1 : w7.cell? ⟨gb239, 1, none⟩ = some (.int .i64 a1_1) := (blk_cell BK239.out 1).trans rfl; have hcz10_2 : w7.cell? ⟨gb239, 2, none⟩ = some (.string a1_2) := (blk_cell BK239.out 2).trans rfl; have hfz10_0 := blk_frozen BK239.out 0; have hfz10_1 := blk_frozen BK239.out 1; have hfz10_2 := blk_frozen BK239.out 2) | ((with_reducible refine gate_callee (f := 47) rfl ?_); refine goesL_ (some 29) rfl rfl Tryd.func47 (by kernel_rfl) rfl #[.string a0_2, .string a1_2] rfl (by (try simp only [List.map_toArray, List.map_cons, List.map_nil]); first | done | rfl | (simp only [List.length_drop, List.length_take]; rfl)) ?_; (with_reducible refine (wherryref02_Less.calls k a0_2 a1_2 t240 _ A5.out).mono ?_); rintro e w' ⟨rfl, ⟨nd, rfl⟩⟩; refine ⟨_, rfl, ?_⟩))
      go_ret
      exact ⟨by first | rfl | (simp [errW_none, errW_some] <;> rfl) | (simp [*, errW_none, errW_some] <;> rfl), by repeat (first | (with_reducible first | exact HB.out | apply below_alloc | apply pw_below_drewN | apply below_drew1 | refine below_set ?_ GE238.out | refine below_set ?_ GE239.out) | exact HB.out)⟩
    · rw [if_neg c4] at H
      have c4b0 : (a0_1 == a1_1) = false := beq_eq_false_iff_ne.mpr c4
      have c4b1 : (a0_1 != a1_1) = true := bne_iff_ne.mpr c4
      obtain rfl := Option.some.inj H
      go_enter Tryd.func29, Tryd.ntmps29
      go_wp2_with (first | ((with_reducible refine gate_dst (N := 2) rfl ?_); refine box_event ?hg (N := 2) ?hd (cs := #[.int .i64 a0_0, .int .i64 a0_1, .string a0_2]) (t := 23) ?hr ?_; (case hd => rfl); (case hg => rfl); (case hr => first | (go_simp; done) | (go_simp; rfl)); intro gb238 hg w11 hbox hb; have n0_ := Aside0.mk (below_step (by repeat (first | (with_reducible first | exact HB.out | apply below_alloc | apply pw_below_drewN | apply below_drew1) | exact HB.out)) hb); have n1_ := Aside0.mk (hbox); have n2_ := Aside0.mk ((by rw [hg]; exact (below_size (by repeat (first | (with_reducible first | exact HB.out | apply below_alloc | apply pw_below_drewN | apply below_drew1) | exact HB.out))) : w.heap.size ≤ gb238)); have n3_ := Aside0.mk ((by rw [hg]; exact (below_size (by repeat (first | (with_reducible first | exact HB.out | apply below_alloc | apply pw_below_drewN | apply below_drew1) | exact HB.out))) : w.heap.size ≤ gb238)); clear HB; have HB := n0_; have BK238 := n1_; have GW238 := n2_; have GE238 := n3_; clear n0_ n1_ n2_ n3_; clear hb hbox hg) | ((with_reducible refine gate_dst (N := 3) rfl ?_); refine box_event ?hg (N := 3) ?hd (cs := #[.int .i64 a1_0, .int .i64 a1_1, .string a1_2]) (t := 23) ?hr ?_; (case hd => rfl); (case hg => rfl); (case hr => first | (go_simp; done) | (go_simp; rfl)); intro gb239 hg w12 hbox hb; have n0_ := Aside0.mk (blk_below (g := gb238) (o := .cells #[.int .i64 a0_0, .int .i64 a0_1, .string a0_2] 23 (0, 0)) (by (with_reducible repeat (first | refine blk_drewN ?_ _ | refine blk_drew ?_ | refine blk_alloc ?_ _)); exact BK238.out) hb); have n1_ := Aside0.mk (below_step (by repeat (first | (with_reducible first | exact HB.out | apply below_alloc | apply pw_below_drewN | apply below_drew1 | refine below_set ?_ GE238.out) | exact HB.out)) hb); have n2_ := Aside0.mk (hbox); have n3_ := Aside0.mk ((by rw [hg]; exact (below_size (by repeat (first | (with_reducible first | exact HB.out | apply below_alloc | apply pw_below_drewN | apply below_drew1 | refine below_set ?_ GE238.out) | exact HB.out))) : w.heap.size ≤ gb239)); have n4_ := Aside0.mk ((by rw [hg]; exact (below_size (by repeat (first | (with_reducible first | exact HB.out | apply below_alloc | apply pw_below_drewN | apply below_drew1 | refine below_set ?_ GE238.out) | exact HB.out))) : w.heap.size ≤ gb239)); have n5_ := Aside0.mk ((by rw [hg]; exact Nat.ne_of_lt (blk_lt (g := gb238) (o := .cells #[.int .i64 a0_0, .int .i64 a0_1, .string a0_2] 23 (0, 0)) (by (with_reducible repeat (first | refine blk_drewN ?_ _ | refine blk_drew ?_ | refine blk_alloc ?_ _)); exact BK238.out)) : gb238 ≠ gb239)); have n6_ := Aside0.mk ((by rw [hg]; exact Nat.ne_of_gt (blk_lt (g := gb238) (o := .cells #[.int .i64 a0_0, .int .i64 a0_1, .string a0_2] 23 (0, 0)) (by (with_reducible repeat (first | refine blk_drewN ?_ _ | refine blk_drew ?_ | refine blk_alloc ?_ _)); exact BK238.out)) : gb239 ≠ gb238)); clear BK238; clear HB; have BK238 := n0_; have HB := n1_; have BK239 := n2_; have GW239 := n3_; have GE239 := n4_; have NB238_239 := n5_; have NB239_238 := n6_; clear n0_ n1_ n2_ n3_ n4_ n5_ n6_; clear hb hbox hg; have hnb13 := NB238_239.out; have hnc13 := NB239_238.out; have hcz14_0 : w12.cell? ⟨gb238, 0, none⟩ = some (.int .i64 a0_0) := (blk_cell BK238.out 0).trans rfl; have hcz14_1 : w12.cell? ⟨gb238, 1, none⟩ = some (.int .i64 a0_1) := (blk_cell BK238.out 1).trans rfl; have hcz14_2 : w12.cell? ⟨gb238, 2, none⟩ = some (.string a0_2) := (blk_cell BK238.out 2).trans rfl; have hfz14_0 := blk_frozen BK238.out 0; have hfz14_1 := blk_frozen BK238.out 1; have hfz14_2 := blk_frozen BK238.out 2; have hcz15_0 : w12.cell? ⟨gb239, 0, none⟩ = some (.int .i64 a1_0) := (blk_cell BK239.out 0).trans rfl; have hcz15_1 : w12.cell? ⟨gb239, 1, none⟩ = some (.int .i64 a1_1) := (blk_cell BK239.out 1).trans rfl; have hcz15_2 : w12.cell? ⟨gb239, 2, none⟩ = some (.string a1_2) := (blk_cell BK239.out 2).trans rfl; have hfz15_0 := blk_frozen BK239.out 0; have hfz15_1 := blk_frozen BK239.out 1; have hfz15_2 := blk_frozen BK239.out 2))
      go_ret
      exact ⟨by first | rfl | (simp [errW_none, errW_some] <;> rfl) | (simp [*, errW_none, errW_some] <;> rfl), by repeat (first | (with_reducible first | exact HB.out | apply below_alloc | apply pw_below_drewN | apply below_drew1 | refine below_set ?_ GE238.out | refine below_set ?_ GE239.out) | exact HB.out)⟩
  · rw [if_neg c3] at H
    have c3b0 : (a0_0 == a1_0) = false := beq_eq_false_iff_ne.mpr c3
    have c3b1 : (a0_0 != a1_0) = true := bne_iff_ne.mpr c3
    obtain rfl := Option.some.inj H
    go_enter Tryd.func29, Tryd.ntmps29
    go_wp2_with (first | ((with_reducible refine gate_dst (N := 2) rfl ?_); refine box_event ?hg (N := 2) ?hd (cs := #[.int .i64 a0_0, .int .i64 a0_1, .string a0_2]) (t := 23) ?hr ?_; (case hd => rfl); (case hg => rfl); (case hr => first | (go_simp; done) | (go_simp; rfl)); intro gb238 hg w16 hbox hb; have n0_ := Aside0.mk (below_step (by repeat (first | (with_reducible first | exact HB.out | apply below_alloc | apply pw_below_drewN | apply below_drew1) | exact HB.out)) hb); have n1_ := Aside0.mk (hbox); have n2_ := Aside0.mk ((by rw [hg]; exact (below_size (by repeat (first | (with_reducible first | exact HB.out | apply below_alloc | apply pw_below_drewN | apply below_drew1) | exact HB.out))) : w.heap.size ≤ gb238)); have n3_ := Aside0.mk ((by rw [hg]; exact (below_size (by repeat (first | (with_reducible first | exact HB.out | apply below_alloc | apply pw_below_drewN | apply below_drew1) | exact HB.out))) : w.heap.size ≤ gb238)); clear HB; have HB := n0_; have BK238 := n1_; have GW238 := n2_; have GE238 := n3_; clear n0_ n1_ n2_ n3_; clear hb hbox hg) | ((with_reducible refine gate_dst (N := 3) rfl ?_); refine box_event ?hg (N := 3) ?hd (cs := #[.int .i64 a1_0, .int .i64 a1_1, .string a1_2]) (t := 23) ?hr ?_; (case hd => rfl); (case hg => rfl); (case hr => first | (go_simp; done) | (go_simp; rfl)); intro gb239 hg w17 hbox hb; have n0_ := Aside0.mk (blk_below (g := gb238) (o := .cells #[.int .i64 a0_0, .int .i64 a0_1, .string a0_2] 23 (0, 0)) (by (with_reducible repeat (first | refine blk_drewN ?_ _ | refine blk_drew ?_ | refine blk_alloc ?_ _)); exact BK238.out) hb); have n1_ := Aside0.mk (below_step (by repeat (first | (with_reducible first | exact HB.out | apply below_alloc | apply pw_below_drewN | apply below_drew1 | refine below_set ?_ GE238.out) | exact HB.out)) hb); have n2_ := Aside0.mk (hbox); have n3_ := Aside0.mk ((by rw [hg]; exact (below_size (by repeat (first | (with_reducible first | exact HB.out | apply below_alloc | apply pw_below_drewN | apply below_drew1 | refine below_set ?_ GE238.out) | exact HB.out))) : w.heap.size ≤ gb239)); have n4_ := Aside0.mk ((by rw [hg]; exact (below_size (by repeat (first | (with_reducible first | exact HB.out | apply below_alloc | apply pw_below_drewN | apply below_drew1 | refine below_set ?_ GE238.out) | exact HB.out))) : w.heap.size ≤ gb239)); have n5_ := Aside0.mk ((by rw [hg]; exact Nat.ne_of_lt (blk_lt (g := gb238) (o := .cells #[.int .i64 a0_0, .int .i64 a0_1, .string a0_2] 23 (0, 0)) (by (with_reducible repeat (first | refine blk_drewN ?_ _ | refine blk_drew ?_ | refine blk_alloc ?_ _)); exact BK238.out)) : gb238 ≠ gb239)); have n6_ := Aside0.mk ((by rw [hg]; exact Nat.ne_of_gt (blk_lt (g := gb238) (o := .cells #[.int .i64 a0_0, .int .i64 a0_1, .string a0_2] 23 (0, 0)) (by (with_reducible repeat (first | refine blk_drewN ?_ _ | refine blk_drew ?_ | refine blk_alloc ?_ _)); exact BK238.out)) : gb239 ≠ gb238)); clear BK238; clear HB; have BK238 := n0_; have HB := n1_; have BK239 := n2_; have GW239 := n3_; have GE239 := n4_; have NB238_239 := n5_; have NB239_238 := n6_; clear n0_ n1_ n2_ n3_ n4_ n5_ n6_; clear hb hbox hg; have hnb18 := NB238_239.out; have hnc18 := NB239_238.out; have hcz19_0 : w17.cell? ⟨gb238, 0, none⟩ = some (.int .i64 a0_0) := (blk_cell BK238.out 0).trans rfl; have hcz19_1 : w17.cell? ⟨gb238, 1, none⟩ = some (.int .i64 a0_1) := (blk_cell BK238.out 1).trans rfl; have hcz19_2 : w17.cell? ⟨gb238, 2, none⟩ = some (.string a0_2) := (blk_cell BK238.out 2).trans rfl; have hfz19_0 := blk_frozen BK238.out 0; have hfz19_1 := blk_frozen BK238.out 1; have hfz19_2 := blk_frozen BK238.out 2; have hcz20_0 : w17.cell? ⟨gb239, 0, none⟩ = some (.int .i64 a1_0) := (blk_cell BK239.out 0).trans rfl; have hcz20_1 : w17.cell? ⟨gb239, 1, none⟩ = some (.int .i64 a1_1) := (blk_cell BK239.out 1).trans rfl; have hcz20_2 : w17.cell? ⟨gb239, 2, none⟩ = some (.string a1_2) := (blk_cell BK239.out 2).trans rfl; have hfz20_0 := blk_frozen BK239.out 0; have hfz20_1 := blk_frozen BK239.out 1; have hfz20_2 := blk_frozen BK239.out 2))
    go_ret
    exact ⟨by first | rfl | (simp [errW_none, errW_some] <;> rfl) | (simp [*, errW_none, errW_some] <;> rfl), by repeat (first | (with_reducible first | exact HB.out | apply below_alloc | apply pw_below_drewN | apply below_drew1 | refine below_set ?_ GE238.out | refine below_set ?_ GE239.out) | exact HB.out)⟩
end Go.Proofs.YthhgfdejadbigaaDoor.GA
namespace Go.Proofs.YthhgfdejadbigaaDoor.GA
open Go.RowKit Go.Proofs.YthhgfdejadbigaaDoorW.PrintWords Go.Proofs.YthhgfdejadbigaaDoorW.PrintLast Go.Proofs.YthhgfdejadbigaaDoorW.PrintMore
attribute [local go_sem] max2_int min2_int max_two min_two max_three min_three max_four min_four   -- for this text's walks alone
set_option linter.unusedVariables false
set_option linter.unusedSimpArgs false
attribute [local go_sem high] eqA23
def wherrylaw09_ValueApart.j0 : Nat → Bool → Bool → Int → Int → ByteArray → Int → Int → ByteArray → Option (Bool)
  | 0, _, _, _, _, _, _, _, _ => none
  | k + 1, x5, x18, x115000, x115001, x115002, x116000, x116001, x116002 => if x18 = true then (some x5) else (if x5 = true then ((value_Bytes.f x115000 x115001 x115002).bind fun t119 => ((value_Bytes.f x116000 x116001 x116002).bind fun t120 => (if ((t119.toList == t120.toList) == (x115000 == x116000 && (x115001 == x116001 && (x115002.toList == x116002.toList)))) = true then ((value_Show.f x115000 x115001 x115002).bind fun t121 => ((value_Show.f x116000 x116001 x116002).bind fun t122 => (some ((t121.toList == t122.toList) == (x115000 == x116000 && (x115001 == x116001 && (x115002.toList == x116002.toList))))))) else (some false)))) else (some false))
def wherrylaw09_ValueApart.f (k : Nat) (a0_0 : Int) (a0_1 : Int) (a0_2 : ByteArray) (a1_0 : Int) (a1_1 : Int) (a1_2 : ByteArray) : Option (Bool) := (wherrylaw09_shown.f).bind fun t116 => ((wherryref09_May.f a0_0 a0_1 a0_2).bind fun t117 => ((wherryref09_May.f a1_0 a1_1 a1_2).bind fun t118 => (if t117 = true then (wherrylaw09_ValueApart.j0 k t116 (!t118) a0_0 a0_1 a0_2 a1_0 a1_1 a1_2) else (wherrylaw09_ValueApart.j0 k t116 true a0_0 a0_1 a0_2 a1_0 a1_1 a1_2))))
theorem wherrylaw09_ValueApart.mono_l : ∀ k, (∀ y0 y1 y2 y3 y4 y5 y6 y7, LeO (wherrylaw09_ValueApart.j0 k y0 y1 y2 y3 y4 y5 y6 y7) (wherrylaw09_ValueApart.j0 (k + 1) y0 y1 y2 y3 y4 y5 y6 y7))
  | 0 => fun _ _ _ _ _ _ _ _ r h => by simp [wherrylaw09_ValueApart.j0] at h
  | k + 1 => by
    have ih0 := wherrylaw09_ValueApart.mono_l k
    · intro y0 y1 y2 y3 y4 y5 y6 y7
      unfold wherrylaw09_ValueApart.j0
      repeat' first
      | (with_reducible exact ih0 _ _ _ _ _ _ _ _)
      | (with_reducible exact LeO.refl _)
      | (with_reducible exact LeO.none _)
      | (with_reducible refine LeO.ite ?_ ?_)
      | (with_reducible refine LeO.bind ?_ (fun _ => ?_))
      | exact ih0 _ _ _ _ _ _ _ _
      | exact LeO.none _
      | refine LeO.ite ?_ ?_
      | refine LeO.bind ?_ (fun _ => ?_)
theorem wherrylaw09_ValueApart.mono : ∀ a0 a1 a2 a3 a4 a5 k, LeO (wherrylaw09_ValueApart.f k a0 a1 a2 a3 a4 a5) (wherrylaw09_ValueApart.f (k + 1) a0 a1 a2 a3 a4 a5) := by
  intro a0 a1 a2 a3 a4 a5 k
  have ih0 := wherrylaw09_ValueApart.mono_l k
  unfold wherrylaw09_ValueApart.f
  repeat' first
      | (with_reducible exact ih0 _ _ _ _ _ _ _ _)
      | (with_reducible exact LeO.refl _)
      | (with_reducible exact LeO.none _)
      | (with_reducible refine LeO.ite ?_ ?_)
      | (with_reducible refine LeO.bind ?_ (fun _ => ?_))
      | exact ih0 _ _ _ _ _ _ _ _
      | exact LeO.none _
      | refine LeO.ite ?_ ?_
      | refine LeO.bind ?_ (fun _ => ?_)
def wherrylaw09_ValueApart.T6 : Bool × List (List Nat × List Nat) := (true, [([], []), ([0], [0]), ([1], [1]), ([2, 1, 1], [1, 2]), ([1], [1]), ([4, 3, 1], [1, 4]), ([3, 5, 1], [1, 3, 5]), ([1], [1]), ([1], [1]), ([7, 8, 1], [1, 7, 8]), ([6, 9, 1], [1, 6, 9]), ([1, 10], [1, 10]), ([11, 5], [11]), ([12], [12]), ([13, 12, 12], [12, 13]), ([12], [12]), ([15, 14, 12], [12, 15]), ([14, 16, 12], [12, 14, 16]), ([12], [12]), ([12], [12]), ([18, 19, 12], [12, 18, 19]), ([17, 20, 12], [12, 17, 20]), ([12, 21], [12, 21]), ([22, 16, 0, 1, 2, 3, 4, 5, 6, 7, 8, 9, 10, 11, 12, 13, 14, 15, 16, 17, 18, 19, 20, 21, 22], [22])])
def wherrylaw09_ValueApart.B6 : List Nat := [0, 1, 3, 7, 3, 31, 63, 3, 3, 387, 1023, 2047, 4095, 8191, 16383, 8191, 65535, 131071, 8191, 8191, 794623, 2097151, 4194303, 8388607]
theorem wherrylaw09_ValueApart.tab6 : rtab .any (opsOf Tryd.f3 6) = wherrylaw09_ValueApart.T6 := by kernel_rfl
theorem wherrylaw09_ValueApart.bits6 : waitsOk wherrylaw09_ValueApart.T6.2 wherrylaw09_ValueApart.B6 = true := by kernel_rfl
set_option maxHeartbeats 8000000 in
set_option maxRecDepth 100000 in
theorem wherrylaw09_ValueApart.calls (k : Nat) (a0_0 : Int) (a0_1 : Int) (a0_2 : ByteArray) (a1_0 : Int) (a1_1 : Int) (a1_2 : ByteArray) (r : Bool) (w : World) (HTAB : Hid (Base.HasTab Tryd.prog w)) (h : wherrylaw09_ValueApart.f k a0_0 a0_1 a0_2 a1_0 a1_1 a1_2 = some r) :
    Calls Tryd.prog 3 #[.agg #[.int .i64 a0_0, .int .i64 a0_1, .string a0_2], .agg #[.int .i64 a1_0, .int .i64 a1_1, .string a1_2]] w fun e w' => e = .returned (.bool r) ∧ Below w.heap.size w w' := by
  have hu23 := Tryd.underlying23
  have HB := Aside0.mk (Below.refl w.heap.size w)
  have H : ((wherrylaw09_shown.f).bind fun t116 => ((wherryref09_May.f a0_0 a0_1 a0_2).bind fun t117 => ((wherryref09_May.f a1_0 a1_1 a1_2).bind fun t118 => (if t117 = true then (wherrylaw09_ValueApart.j0 k t116 (!t118) a0_0 a0_1 a0_2 a1_0 a1_1 a1_2) else (wherrylaw09_ValueApart.j0 k t116 true a0_0 a0_1 a0_2 a1_0 a1_1 a1_2))))) = some r := h
  clear h
  replace H := Option.bind_eq_some_iff.mp H
  obtain ⟨t116, A30, H⟩ := H
  replace H : ((wherryref09_May.f a0_0 a0_1 a0_2).bind fun t117 => ((wherryref09_May.f a1_0 a1_1 a1_2).bind fun t118 => (if t117 = true then (wherrylaw09_ValueApart.j0 k t116 (!t118) a0_0 a0_1 a0_2 a1_0 a1_1 a1_2) else (wherrylaw09_ValueApart.j0 k t116 true a0_0 a0_1 a0_2 a1_0 a1_1 a1_2)))) = some r := H
  have A3 := Aside0.mk A30
  clear A30
  replace H := Option.bind_eq_some_iff.mp H
  obtain ⟨t117, A40, H⟩ := H
  replace H : ((wherryref09_May.f a1_0 a1_1 a1_2).bind fun t118 => (if t117 = true then (wherrylaw09_ValueApart.j0 k t116 (!t118) a0_0 a0_1 a0_2 a1_0 a1_1 a1_2) else (wherrylaw09_ValueApart.j0 k t116 true a0_0 a0_1 a0_2 a1_0 a1_1 a1_2))) = some r := H
  have A4 := Aside0.mk A40
  clear A40
  replace H := Option.bind_eq_some_iff.mp H
  obtain ⟨t118, A50, H⟩ := H
  replace H : (if t117 = true then (wherrylaw09_ValueApart.j0 k t116 (!t118) a0_0 a0_1 a0_2 a1_0 a1_1 a1_2) else (wherrylaw09_ValueApart.j0 k t116 true a0_0 a0_1 a0_2 a1_0 a1_1 a1_2)) = some r := H
  have A5 := Aside0.mk A50
  clear A50
  have HC6 := Aside0.mk H
  clear H
  go_enter Tryd.func3, Tryd.ntmps3
  go_upto_region 4 with (first | ((with_reducible refine gate_dst (N := 2) rfl ?_); refine box_event ?hg (N := 2) ?hd (cs := #[.int .i64 a0_0, .int .i64 a0_1, .string a0_2]) (t := 23) ?hr ?_; (case hd => rfl); (case hg => rfl); (case hr => first | (go_simp; done) | (go_simp; rfl)); intro gb114 hg w7 hbox hb; have n0_ := Aside0.mk (below_step (by repeat (first | (with_reducible first | exact HB.out | apply below_alloc | apply pw_below_drewN | apply below_drew1) | exact HB.out)) hb); have n1_ := Aside0.mk (hbox); have n2_ := Aside0.mk ((by rw [hg]; exact (below_size (by repeat (first | (with_reducible first | exact HB.out | apply below_alloc | apply pw_below_drewN | apply below_drew1) | exact HB.out))) : w.heap.size ≤ gb114)); have n3_ := Aside0.mk ((by rw [hg]; exact (below_size (by repeat (first | (with_reducible first | exact HB.out | apply below_alloc | apply pw_below_drewN | apply below_drew1) | exact HB.out))) : w.heap.size ≤ gb114)); clear HB; have HB := n0_; have BK114 := n1_; have GW114 := n2_; have GE114 := n3_; clear n0_ n1_ n2_ n3_; clear hb hbox hg) | ((with_reducible refine gate_dst (N := 3) rfl ?_); refine box_event ?hg (N := 3) ?hd (cs := #[.int .i64 a1_0, .int .i64 a1_1, .string a1_2]) (t := 23) ?hr ?_; (case hd => rfl); (case hg => rfl); (case hr => first | (go_simp; done) | (go_simp; rfl)); intro gb115 hg w8 hbox hb; have n0_ := Aside0.mk (blk_below (g := gb114) (o := .cells #[.int .i64 a0_0, .int .i64 a0_1, .string a0_2] 23 (0, 0)) (by (with_reducible repeat (first | refine blk_drewN ?_ _ | refine blk_drew ?_ | refine blk_alloc ?_ _)); exact BK114.out) hb); have n1_ := Aside0.mk (below_step (by repeat (first | (with_reducible first | exact HB.out | apply below_alloc | apply pw_below_drewN | apply below_drew1 | refine below_set ?_ GE114.out) | exact HB.out)) hb); have n2_ := Aside0.mk (hbox); have n3_ := Aside0.mk ((by rw [hg]; exact (below_size (by repeat (first | (with_reducible first | exact HB.out | apply below_alloc | apply pw_below_drewN | apply below_drew1 | refine below_set ?_ GE114.out) | exact HB.out))) : w.heap.size ≤ gb115)); have n4_ := Aside0.mk ((by rw [hg]; exact (below_size (by repeat (first | (with_reducible first | exact HB.out | apply below_alloc | apply pw_below_drewN | apply below_drew1 | refine below_set ?_ GE114.out) | exact HB.out))) : w.heap.size ≤ gb115)); have n5_ := Aside0.mk ((by rw [hg]; exact Nat.ne_of_lt (blk_lt (g := gb114) (o := .cells #[.int .i64 a0_0, .int .i64 a0_1, .string a0_2] 23 (0, 0)) (by (with_reducible repeat (first | refine blk_drewN ?_ _ | refine blk_drew ?_ | refine blk_alloc ?_ _)); exact BK114.out)) : gb114 ≠ gb115)); have n6_ := Aside0.mk ((by rw [hg]; exact Nat.ne_of_gt (blk_lt (g := gb114) (o := .cells #[.int .i64 a0_0, .int .i64 a0_1, .string a0_2] 23 (0, 0)) (by (with_reducible repeat (first | refine blk_drewN ?_ _ | refine blk_drew ?_ | refine blk_alloc ?_ _)); exact BK114.out)) : gb115 ≠ gb114)); clear BK114; clear HB; have BK114 := n0_; have HB := n1_; have BK115 := n2_; have GW115 := n3_; have GE115 := n4_; have NB114_115 := n5_; have NB115_114 := n6_; clear n0_ n1_ n2_ n3_ n4_ n5_ n6_; clear hb hbox hg) | ((with_reducible refine gate_callee (f := 10) rfl ?_); refine goesL_ (some 8) rfl rfl Tryd.func10 (by kernel_rfl) rfl #[] rfl (by (try simp only [List.map_toArray, List.map_cons, List.map_nil]); first | done | rfl | (simp only [List.length_drop, List.length_take]; rfl)) ?_; (with_reducible refine (wherrylaw09_shown.calls  t116 _ A3.out).mono ?_); rintro e w9 ⟨rfl, hb⟩; refine ⟨_, rfl, ?_⟩; have n0_ := Aside0.mk (blk_below (g := gb114) (o := .cells #[.int .i64 a0_0, .int .i64 a0_1, .string a0_2] 23 (0, 0)) (by (with_reducible repeat (first | refine blk_drewN ?_ _ | refine blk_drew ?_ | refine blk_alloc ?_ _)); exact BK114.out) hb); have n1_ := Aside0.mk (blk_below (g := gb115) (o := .cells #[.int .i64 a1_0, .int .i64 a1_1, .string a1_2] 23 (0, 0)) (by (with_reducible repeat (first | refine blk_drewN ?_ _ | refine blk_drew ?_ | refine blk_alloc ?_ _)); exact BK115.out) hb); have n2_ := Aside0.mk (below_step (by repeat (first | (with_reducible first | exact HB.out | apply below_alloc | apply pw_below_drewN | apply below_drew1 | refine below_set ?_ GE114.out | refine below_set ?_ GE115.out) | exact HB.out)) hb); clear BK114; clear BK115; clear HB; have BK114 := n0_; have BK115 := n1_; have HB := n2_; clear n0_ n1_ n2_; (try clear hb); (try clear hb2); (try clear hk); (try clear hi); have hnb10 := NB114_115.out; have hnc10 := NB115_114.out; have hcz11_0 : w9.cell? ⟨gb114, 0, none⟩ = some (.int .i64 a0_0) := (blk_cell BK114.out 0).trans rfl; have hcz11_1 : w9.cell? ⟨gb114, 1, none⟩ = some (.int .i64 a0_1) := (blk_cell BK114.out 1).trans rfl; have hcz11_2 : w9.cell? ⟨gb114, 2, none⟩ = some (.string a0_2) := (blk_cell BK114.out 2).trans rfl; have hfz11_0 := blk_frozen BK114.out 0; have hfz11_1 := blk_frozen BK114.out 1; have hfz11_2 := blk_frozen BK114.out 2) | ((with_reducible refine gate_callee (f := 11) rfl ?_); refine goesL_ (some 10) rfl rfl Tryd.func11 (by kernel_rfl) rfl #[.agg #[.int .i64 a0_0, .int .i64 a0_1, .string a0_2]] rfl (by (try simp only [List.map_toArray, List.map_cons, List.map_nil]); first | done | rfl | (simp only [List.length_drop, List.length_take]; rfl)) ?_; (with_reducible refine (wherryref09_May.calls a0_0 a0_1 a0_2 t117 _ A4.out).mono ?_); rintro e w12 ⟨rfl, hb⟩; refine ⟨_, rfl, ?_⟩; have n0_ := Aside0.mk (blk_below (g := gb114) (o := .cells #[.int .i64 a0_0, .int .i64 a0_1, .string a0_2] 23 (0, 0)) (by (with_reducible repeat (first | refine blk_drewN ?_ _ | refine blk_drew ?_ | refine blk_alloc ?_ _)); exact BK114.out) hb); have n1_ := Aside0.mk (blk_below (g := gb115) (o := .cells #[.int .i64 a1_0, .int .i64 a1_1, .string a1_2] 23 (0, 0)) (by (with_reducible repeat (first | refine blk_drewN ?_ _ | refine blk_drew ?_ | refine blk_alloc ?_ _)); exact BK115.out) hb); have n2_ := Aside0.mk (below_step (by repeat (first | (with_reducible first | exact HB.out | apply below_alloc | apply pw_below_drewN | apply below_drew1 | refine below_set ?_ GE114.out | refine below_set ?_ GE115.out) | exact HB.out)) hb); clear BK114; clear BK115; clear HB; have BK114 := n0_; have BK115 := n1_; have HB := n2_; clear n0_ n1_ n2_; (try clear hb); (try clear hb2); (try clear hk); (try clear hi); have hcz13_0 : w12.cell? ⟨gb115, 0, none⟩ = some (.int .i64 a1_0) := (blk_cell BK115.out 0).trans rfl; have hcz13_1 : w12.cell? ⟨gb115, 1, none⟩ = some (.int .i64 a1_1) := (blk_cell BK115.out 1).trans rfl; have hcz13_2 : w12.cell? ⟨gb115, 2, none⟩ = some (.string a1_2) := (blk_cell BK115.out 2).trans rfl; have hfz13_0 := blk_frozen BK115.out 0; have hfz13_1 := blk_frozen BK115.out 1; have hfz13_2 := blk_frozen BK115.out 2) | ((with_reducible refine gate_callee (f := 11) rfl ?_); refine goesL_ (some 12) rfl rfl Tryd.func11 (by kernel_rfl) rfl #[.agg #[.int .i64 a1_0, .int .i64 a1_1, .string a1_2]] rfl (by (try simp only [List.map_toArray, List.map_cons, List.map_nil]); first | done | rfl | (simp only [List.length_drop, List.length_take]; rfl)) ?_; (with_reducible refine (wherryref09_May.calls a1_0 a1_1 a1_2 t118 _ A5.out).mono ?_); rintro e w14 ⟨rfl, hb⟩; refine ⟨_, rfl, ?_⟩; have n0_ := Aside0.mk (blk_below (g := gb114) (o := .cells #[.int .i64 a0_0, .int .i64 a0_1, .string a0_2] 23 (0, 0)) (by (with_reducible repeat (first | refine blk_drewN ?_ _ | refine blk_drew ?_ | refine blk_alloc ?_ _)); exact BK114.out) hb); have n1_ := Aside0.mk (blk_below (g := gb115) (o := .cells #[.int .i64 a1_0, .int .i64 a1_1, .string a1_2] 23 (0, 0)) (by (with_reducible repeat (first | refine blk_drewN ?_ _ | refine blk_drew ?_ | refine blk_alloc ?_ _)); exact BK115.out) hb); have n2_ := Aside0.mk (below_step (by repeat (first | (with_reducible first | exact HB.out | apply below_alloc | apply pw_below_drewN | apply below_drew1 | refine below_set ?_ GE114.out | refine below_set ?_ GE115.out) | exact HB.out)) hb); clear BK114; clear BK115; clear HB; have BK114 := n0_; have BK115 := n1_; have HB := n2_; clear n0_ n1_ n2_; (try clear hb); (try clear hb2); (try clear hk); (try clear hi)))
  (try simp only [Act.put, List.setIfInBounds_toArray, List.set_cons_zero, List.set_cons_succ])
  go_cut [18] (fun v18 wc => ∃ (kq : Nat) (x18_5 : Bool), v18 = .bool x18_5 ∧ Aside0 (wherrylaw09_ValueApart.j0 kq t116 x18_5 a0_0 a0_1 a0_2 a1_0 a1_1 a1_2 = some r) ∧ Aside0 (kq ≤ k) ∧ Aside0 (wc.heap[gb114]? = some (.cells #[.int .i64 a0_0, .int .i64 a0_1, .string a0_2] 23 (0, 0))) ∧ Aside0 (wc.heap[gb115]? = some (.cells #[.int .i64 a1_0, .int .i64 a1_1, .string a1_2] 23 (0, 0))) ∧ Aside0 (Below w.heap.size w wc))
  case first =>
    have H := HC6.out
    clear HC6
    by_cases c15 : t117 = true
    · subst c15
      have H1 : (wherrylaw09_ValueApart.j0 k t116 (!t118) a0_0 a0_1 a0_2 a1_0 a1_1 a1_2) = some r := by rw [if_pos rfl] at H; exact H
      clear H
      have H := H1
      clear H1
      have H' := Aside0.mk H
      clear H
      go_wp2
      go_meet
      case rel => exact ⟨_, (!t118), (by first | rfl | (simp; done) | (simp [*]; done)), H', ⟨by first | omega | exact Nat.le_refl _⟩, ⟨by (with_reducible repeat (first | refine blk_drewN ?_ _ | refine blk_drew ?_ | refine blk_alloc ?_ _)); exact BK114.out⟩, ⟨by (with_reducible repeat (first | refine blk_drewN ?_ _ | refine blk_drew ?_ | refine blk_alloc ?_ _)); exact BK115.out⟩, ⟨by repeat (first | (with_reducible first | exact HB.out | apply below_alloc | apply pw_below_drewN | apply below_drew1 | refine below_set ?_ GE114.out | refine below_set ?_ GE115.out) | exact HB.out)⟩⟩
    · replace c15 := Bool.eq_false_iff.mpr c15
      subst c15
      have H1 : (wherrylaw09_ValueApart.j0 k t116 true a0_0 a0_1 a0_2 a1_0 a1_1 a1_2) = some r := by rw [if_neg (show ¬ (false = true) by decide)] at H; exact H
      clear H
      have H := H1
      clear H1
      have H' := Aside0.mk H
      clear H
      go_wp2
      go_meet
      case rel => exact ⟨_, (true), (by first | rfl | (simp; done) | (simp [*]; done)), H', ⟨by first | omega | exact Nat.le_refl _⟩, ⟨by (with_reducible repeat (first | refine blk_drewN ?_ _ | refine blk_drew ?_ | refine blk_alloc ?_ _)); exact BK114.out⟩, ⟨by (with_reducible repeat (first | refine blk_drewN ?_ _ | refine blk_drew ?_ | refine blk_alloc ?_ _)); exact BK115.out⟩, ⟨by repeat (first | (with_reducible first | exact HB.out | apply below_alloc | apply pw_below_drewN | apply below_drew1 | refine below_set ?_ GE114.out | refine below_set ?_ GE115.out) | exact HB.out)⟩⟩
  case rest =>
    clear HC6
    try clear c1
    try clear p2
    try clear c3
    try clear c10
    try clear c11
    try clear c15
    try clear hcz11_0
    try clear hcz11_1
    try clear hcz11_2
    try clear hcz13_0
    try clear hcz13_1
    try clear hcz13_2
    try clear hfz11_0
    try clear hfz11_1
    try clear hfz11_2
    try clear hfz13_0
    try clear hfz13_1
    try clear hfz13_2
    obtain ⟨kq, x18_5, rfl, HA, HJ5, BK114, BK115, HB⟩ := hcut
    cases kq with
    | zero => exact absurd HA.out (by simp [wherrylaw09_ValueApart.j0])
    | succ kj5 =>
      have H := HA.out
      clear HA
      simp only [wherrylaw09_ValueApart.j0] at H
      by_cases c16 : x18_5 = true
      · subst c16
        have H1 : (some t116) = some r := by rw [if_pos rfl] at H; exact H
        clear H
        have H := H1
        clear H1
        obtain rfl := Option.some.inj H
        go_wp2
        go_ret
        exact ⟨by first | rfl | (simp [errW_none, errW_some] <;> rfl) | (simp [*, errW_none, errW_some] <;> rfl), by repeat (first | (with_reducible first | exact HB.out | apply below_alloc | apply pw_below_drewN | apply below_drew1 | refine below_set ?_ GE114.out | refine below_set ?_ GE115.out) | exact HB.out)⟩
      · replace c16 := Bool.eq_false_iff.mpr c16
        subst c16
        have H1 : (if t116 = true then ((value_Bytes.f a0_0 a0_1 a0_2).bind fun t119 => ((value_Bytes.f a1_0 a1_1 a1_2).bind fun t120 => (if ((t119.toList == t120.toList) == (a0_0 == a1_0 && (a0_1 == a1_1 && (a0_2.toList == a1_2.toList)))) = true then ((value_Show.f a0_0 a0_1 a0_2).bind fun t121 => ((value_Show.f a1_0 a1_1 a1_2).bind fun t122 => (some ((t121.toList == t122.toList) == (a0_0 == a1_0 && (a0_1 == a1_1 && (a0_2.toList == a1_2.toList))))))) else (some false)))) else (some false)) = some r := by rw [if_neg (show ¬ (false = true) by decide)] at H; exact H
        clear H
        have H := H1
        clear H1
        by_cases c17 : t116 = true
        · subst c17
          have H1 : ((value_Bytes.f a0_0 a0_1 a0_2).bind fun t119 => ((value_Bytes.f a1_0 a1_1 a1_2).bind fun t120 => (if ((t119.toList == t120.toList) == (a0_0 == a1_0 && (a0_1 == a1_1 && (a0_2.toList == a1_2.toList)))) = true then ((value_Show.f a0_0 a0_1 a0_2).bind fun t121 => ((value_Show.f a1_0 a1_1 a1_2).bind fun t122 => (some ((t121.toList == t122.toList) == (a0_0 == a1_0 && (a0_1 == a1_1 && (a0_2.toList == a1_2.toList))))))) else (some false)))) = some r := by rw [if_pos rfl] at H; exact H
          clear H
          have H := H1
          clear H1
          replace H := Option.bind_eq_some_iff.mp H
          obtain ⟨t119, A180, H⟩ := H
          replace H : ((value_Bytes.f a1_0 a1_1 a1_2).bind fun t120 => (if ((t119.toList == t120.toList) == (a0_0 == a1_0 && (a0_1 == a1_1 && (a0_2.toList == a1_2.toList)))) = true then ((value_Show.f a0_0 a0_1 a0_2).bind fun t121 => ((value_Show.f a1_0 a1_1 a1_2).bind fun t122 => (some ((t121.toList == t122.toList) == (a0_0 == a1_0 && (a0_1 == a1_1 && (a0_2.toList == a1_2.toList))))))) else (some false))) = some r := H
          have A18 := Aside0.mk A180
          clear A180
          replace H := Option.bind_eq_some_iff.mp H
          obtain ⟨t120, A190, H⟩ := H
          replace H : (if ((t119.toList == t120.toList) == (a0_0 == a1_0 && (a0_1 == a1_1 && (a0_2.toList == a1_2.toList)))) = true then ((value_Show.f a0_0 a0_1 a0_2).bind fun t121 => ((value_Show.f a1_0 a1_1 a1_2).bind fun t122 => (some ((t121.toList == t122.toList) == (a0_0 == a1_0 && (a0_1 == a1_1 && (a0_2.toList == a1_2.toList))))))) else (some false)) = some r := H
          have A19 := Aside0.mk A190
          clear A190
          by_cases c20 : ((t119.toList == t120.toList) == (a0_0 == a1_0 && (a0_1 == a1_1 && (a0_2.toList == a1_2.toList)))) = true
          · rw [if_pos c20] at H
            have c20b0 : ((t119.toList == t120.toList) == (a0_0 == a1_0 && (a0_1 == a1_1 && (a0_2.toList == a1_2.toList)))) = true := c20
            (try (have c20b1 : decide ((t119.toList == t120.toList) = (a0_0 == a1_0 && (a0_1 == a1_1 && (a0_2.toList == a1_2.toList)))) = true := by simpa using c20))
            (try (have c20b2 : ((t119.toList == t120.toList) == (a0_0 == a1_0 && (a0_1 == a1_1 && (a0_2.toList == a1_2.toList)))) = true := by simpa using c20))
            clear c20
            replace H := Option.bind_eq_some_iff.mp H
            obtain ⟨t121, A210, H⟩ := H
            replace H : ((value_Show.f a1_0 a1_1 a1_2).bind fun t122 => (some ((t121.toList == t122.toList) == (a0_0 == a1_0 && (a0_1 == a1_1 && (a0_2.toList == a1_2.toList)))))) = some r := H
            have A21 := Aside0.mk A210
            clear A210
            replace H := Option.bind_eq_some_iff.mp H
            obtain ⟨t122, A220, H⟩ := H
            replace H : (some ((t121.toList == t122.toList) == (a0_0 == a1_0 && (a0_1 == a1_1 && (a0_2.toList == a1_2.toList))))) = some r := H
            have A22 := Aside0.mk A220
            clear A220
            obtain rfl := Option.some.inj H
            try go_wp2
            have n0_ := Aside0.mk (blk_drew BK114.out)
            have n1_ := Aside0.mk (blk_drew BK115.out)
            have n2_ := Aside0.mk (below_drew1 HB.out)
            clear BK114
            clear BK115
            clear HB
            have BK114 := n0_
            have BK115 := n1_
            have HB := n2_
            clear n0_ n1_ n2_
            refine start_ (n := 24) (S := fun w' => w'.cell? ⟨gb114, 0, none⟩ = some (.int .i64 a0_0) ∧ w'.cell? ⟨gb114, 1, none⟩ = some (.int .i64 a0_1) ∧ w'.cell? ⟨gb114, 2, none⟩ = some (.string a0_2) ∧ w'.cell? ⟨gb115, 0, none⟩ = some (.int .i64 a1_0) ∧ w'.cell? ⟨gb115, 1, none⟩ = some (.int .i64 a1_1) ∧ w'.cell? ⟨gb115, 2, none⟩ = some (.string a1_2)) (ds := []) #[false, false, false, false, false, false, false, false, false, false, false, false, false, false, false, false, false, false, false, false, false, false, false, false] (by kernel_rfl) rfl rfl ⟨(blk_cell BK114.out 0).trans rfl, (blk_cell BK114.out 1).trans rfl, (blk_cell BK114.out 2).trans rfl, (blk_cell BK115.out 0).trans rfl, (blk_cell BK115.out 1).trans rfl, (blk_cell BK115.out 2).trans rfl⟩ (fun hHeld => ?_); refine with_tabW wherrylaw09_ValueApart.tab6 wherrylaw09_ValueApart.bits6 (fun HT_ HW_ => ?_)
            generalize wc.drew = w23 at BK114 BK115 HB hHeld ⊢
            refine pure_ (i := 0) (N := some 20) (v := ?_) (a' := ?_) #[true, false, false, false, false, false, false, false, false, false, false, false, false, false, false, false, false, false, false, false, false, false, false, false] rfl rfl (any_of HT_.out (by kernel_rfl)) (fun _ _ _ h => h) (Or.inl ⟨by rfl, ?_⟩) ?_ ?_
            rotate_left
            · intro w'
              go_simp
              with_reducible rfl
            rotate_left
            · simp only [Act.put, List.setIfInBounds_toArray, List.set_cons_zero, List.set_cons_succ, i64_w, i32_w]
              rfl
            refine pure_ (i := 1) (N := some 21) (v := ?_) (a' := ?_) #[true, true, false, false, false, false, false, false, false, false, false, false, false, false, false, false, false, false, false, false, false, false, false, false] rfl rfl (any_of HT_.out (by kernel_rfl)) (fun _ _ _ h => h) (Or.inl ⟨by rfl, ?_⟩) ?_ ?_
            rotate_left
            · intro w'
              go_simp
              with_reducible rfl
            rotate_left
            · simp only [Act.put, List.setIfInBounds_toArray, List.set_cons_zero, List.set_cons_succ, i64_w, i32_w]
              rfl
            refine take_ (i := 2) (N := some 22) (v := ?_) (a' := ?_) #[true, true, true, false, false, false, false, false, false, false, false, false, false, false, false, false, false, false, false, false, false, false, false, false] rfl rfl (take_ofW HT_.out HW_.out (by kernel_rfl)) (fun _ _ _ h => h) (Or.inl ⟨by rfl, ?_⟩) hHeld ?_ ?_
            rotate_left
            · rintro w' ⟨s0, s1, s2, s3, s4, s5⟩
              go_simp
              with_reducible rfl
            rotate_left
            · simp only [Act.put, List.setIfInBounds_toArray, List.set_cons_zero, List.set_cons_succ, i64_w, i32_w]
              rfl
            refine take_ (i := 4) (N := some 24) (v := ?_) (a' := ?_) #[true, true, true, false, true, false, false, false, false, false, false, false, false, false, false, false, false, false, false, false, false, false, false, false] rfl rfl (take_ofW HT_.out HW_.out (by kernel_rfl)) (fun _ _ _ h => h) (Or.inl ⟨by rfl, ?_⟩) hHeld ?_ ?_
            rotate_left
            · rintro w' ⟨s0, s1, s2, s3, s4, s5⟩
              go_simp
              with_reducible rfl
            rotate_left
            · simp only [Act.put, List.setIfInBounds_toArray, List.set_cons_zero, List.set_cons_succ, i64_w, i32_w]
              rfl
            refine take_ (i := 7) (N := some 27) (v := ?_) (a' := ?_) #[true, true, true, false, true, false, false, true, false, false, false, false, false, false, false, false, false, false, false, false, false, false, false, false] rfl rfl (take_ofW HT_.out HW_.out (by kernel_rfl)) (fun _ _ _ h => h) (Or.inl ⟨by rfl, ?_⟩) hHeld ?_ ?_
            rotate_left
            · rintro w' ⟨s0, s1, s2, s3, s4, s5⟩
              go_simp
              with_reducible rfl
            rotate_left
            · simp only [Act.put, List.setIfInBounds_toArray, List.set_cons_zero, List.set_cons_succ, i64_w, i32_w]
              rfl
            refine take_ (i := 8) (N := some 28) (v := ?_) (a' := ?_) #[true, true, true, false, true, false, false, true, true, false, false, false, false, false, false, false, false, false, false, false, false, false, false, false] rfl rfl (take_ofW HT_.out HW_.out (by kernel_rfl)) (fun _ _ _ h => h) (Or.inl ⟨by rfl, ?_⟩) hHeld ?_ ?_
            rotate_left
            · rintro w' ⟨s0, s1, s2, s3, s4, s5⟩
              go_simp
              with_reducible rfl
            rotate_left
            · simp only [Act.put, List.setIfInBounds_toArray, List.set_cons_zero, List.set_cons_succ, i64_w, i32_w]
              rfl
            refine pure_ (i := 9) (N := some 29) (v := ?_) (a' := ?_) #[true, true, true, false, true, false, false, true, true, true, false, false, false, false, false, false, false, false, false, false, false, false, false, false] rfl rfl (any_of HT_.out (by kernel_rfl)) (fun _ _ _ h => h) (Or.inl ⟨by rfl, ?_⟩) ?_ ?_
            rotate_left
            · intro w'
              go_simp
              with_reducible rfl
            rotate_left
            · simp only [Act.put, List.setIfInBounds_toArray, List.set_cons_zero, List.set_cons_succ, i64_w, i32_w]
              rfl
            refine one_ (i := 3) (N := some 23) #[true, true, true, true, true, false, false, true, true, true, false, false, false, false, false, false, false, false, false, false, false, false, false, false] rfl rfl (one_of HT_.out (by kernel_rfl)) (by decide) (fun K hK => ?_)
            refine goes_ Tryd.func12 (by kernel_rfl) rfl #[.agg #[.int .i64 a0_0, .int .i64 a0_1, .string a0_2]] (by rfl) rfl rfl (by (try simp only [List.map_toArray, List.map_cons, List.map_nil]); first | done | rfl | (simp only [List.length_drop, List.length_take]; rfl)) ?_
            with_reducible refine (value_Bytes.calls a0_0 a0_1 a0_2 t119 _ A18.out).mono ?_
            rintro e w24 ⟨rfl, hb⟩
            refine ⟨_, rfl, ?_⟩
            have n0_ := Aside0.mk (blk_below (g := gb114) (o := .cells #[.int .i64 a0_0, .int .i64 a0_1, .string a0_2] 23 (0, 0)) (by (with_reducible repeat (first | refine blk_drewN ?_ _ | refine blk_drew ?_ | refine blk_alloc ?_ _)); exact BK114.out) hb)
            have n1_ := Aside0.mk (blk_below (g := gb115) (o := .cells #[.int .i64 a1_0, .int .i64 a1_1, .string a1_2] 23 (0, 0)) (by (with_reducible repeat (first | refine blk_drewN ?_ _ | refine blk_drew ?_ | refine blk_alloc ?_ _)); exact BK115.out) hb)
            have n2_ := Aside0.mk (below_step (by repeat (first | (with_reducible first | exact HB.out | apply below_alloc | apply pw_below_drewN | apply below_drew1 | refine below_set ?_ GE114.out | refine below_set ?_ GE115.out) | exact HB.out)) hb)
            clear BK114
            clear BK115
            clear HB
            have BK114 := n0_
            have BK115 := n1_
            have HB := n2_
            clear n0_ n1_ n2_
            (try clear hb)
            (try clear hb2)
            (try clear hk)
            (try clear hi)
            refine hK.out _ _ ⟨(blk_cell BK114.out 0).trans rfl, (blk_cell BK114.out 1).trans rfl, (blk_cell BK114.out 2).trans rfl, (blk_cell BK115.out 0).trans rfl, (blk_cell BK115.out 1).trans rfl, (blk_cell BK115.out 2).trans rfl⟩ (fun hHeld => ?_)
            clear hK K
            refine norm_ (a' := ?_) ?_ ?_
            rotate_left
            · show Act.put _ (some 23) _ = _
              simp only [Act.put, List.setIfInBounds_toArray, List.set_cons_zero, List.set_cons_succ, i64_w, i32_w]
              rfl
            refine one_ (i := 5) (N := some 25) #[true, true, true, true, true, true, false, true, true, true, false, false, false, false, false, false, false, false, false, false, false, false, false, false] rfl rfl (one_of HT_.out (by kernel_rfl)) (by decide) (fun K hK => ?_)
            refine goes_ Tryd.func12 (by kernel_rfl) rfl #[.agg #[.int .i64 a1_0, .int .i64 a1_1, .string a1_2]] (by rfl) rfl rfl (by (try simp only [List.map_toArray, List.map_cons, List.map_nil]); first | done | rfl | (simp only [List.length_drop, List.length_take]; rfl)) ?_
            with_reducible refine (value_Bytes.calls a1_0 a1_1 a1_2 t120 _ A19.out).mono ?_
            rintro e w25 ⟨rfl, hb⟩
            refine ⟨_, rfl, ?_⟩
            have n0_ := Aside0.mk (blk_below (g := gb114) (o := .cells #[.int .i64 a0_0, .int .i64 a0_1, .string a0_2] 23 (0, 0)) (by (with_reducible repeat (first | refine blk_drewN ?_ _ | refine blk_drew ?_ | refine blk_alloc ?_ _)); exact BK114.out) hb)
            have n1_ := Aside0.mk (blk_below (g := gb115) (o := .cells #[.int .i64 a1_0, .int .i64 a1_1, .string a1_2] 23 (0, 0)) (by (with_reducible repeat (first | refine blk_drewN ?_ _ | refine blk_drew ?_ | refine blk_alloc ?_ _)); exact BK115.out) hb)
            have n2_ := Aside0.mk (below_step (by repeat (first | (with_reducible first | exact HB.out | apply below_alloc | apply pw_below_drewN | apply below_drew1 | refine below_set ?_ GE114.out | refine below_set ?_ GE115.out) | exact HB.out)) hb)
            clear BK114
            clear BK115
            clear HB
            have BK114 := n0_
            have BK115 := n1_
            have HB := n2_
            clear n0_ n1_ n2_
            (try clear hb)
            (try clear hb2)
            (try clear hk)
            (try clear hi)
            refine hK.out _ _ ⟨(blk_cell BK114.out 0).trans rfl, (blk_cell BK114.out 1).trans rfl, (blk_cell BK114.out 2).trans rfl, (blk_cell BK115.out 0).trans rfl, (blk_cell BK115.out 1).trans rfl, (blk_cell BK115.out 2).trans rfl⟩ (fun hHeld => ?_)
            clear hK K
            refine norm_ (a' := ?_) ?_ ?_
            rotate_left
            · show Act.put _ (some 25) _ = _
              simp only [Act.put, List.setIfInBounds_toArray, List.set_cons_zero, List.set_cons_succ, i64_w, i32_w]
              rfl
            refine pure_ (i := 6) (N := some 26) (v := ?_) (a' := ?_) #[true, true, true, true, true, true, true, true, true, true, false, false, false, false, false, false, false, false, false, false, false, false, false, false] rfl rfl (any_of HT_.out (by kernel_rfl)) (fun _ _ _ h => h) (Or.inl ⟨by rfl, ?_⟩) ?_ ?_
            rotate_left
            · intro w'
              go_simp
              with_reducible rfl
            rotate_left
            · simp only [Act.put, List.setIfInBounds_toArray, List.set_cons_zero, List.set_cons_succ, i64_w, i32_w]
              rfl
            refine pure_ (i := 10) (N := some 30) (v := ?_) (a' := ?_) #[true, true, true, true, true, true, true, true, true, true, true, false, false, false, false, false, false, false, false, false, false, false, false, false] rfl rfl (any_of HT_.out (by kernel_rfl)) (fun _ _ _ h => h) (Or.inl ⟨by rfl, ?_⟩) ?_ ?_
            rotate_left
            · intro w'
              go_simp
              with_reducible rfl
            rotate_left
            · simp only [Act.put, List.setIfInBounds_toArray, List.set_cons_zero, List.set_cons_succ, i64_w, i32_w]
              rfl
            refine pure_ (i := 11) (N := some 31) (v := ?_) (a' := ?_) #[true, true, true, true, true, true, true, true, true, true, true, true, false, false, false, false, false, false, false, false, false, false, false, false] rfl rfl (any_of HT_.out (by kernel_rfl)) (fun _ _ _ h => h) (Or.inl ⟨by rfl, ?_⟩) ?_ ?_
            rotate_left
            · intro w'
              go_simp
              with_reducible rfl
            rotate_left
            · simp only [Act.put, List.setIfInBounds_toArray, List.set_cons_zero, List.set_cons_succ, i64_w, i32_w]
              rfl
            refine pure_ (i := 12) (N := some 32) (v := ?_) (a' := ?_) #[true, true, true, true, true, true, true, true, true, true, true, true, true, false, false, false, false, false, false, false, false, false, false, false] rfl rfl (any_of HT_.out (by kernel_rfl)) (fun _ _ _ h => h) (Or.inl ⟨by rfl, ?_⟩) ?_ ?_
            rotate_left
            · intro w'
              go_simp
              with_reducible rfl
            rotate_left
            · simp only [Act.put, List.setIfInBounds_toArray, List.set_cons_zero, List.set_cons_succ, i64_w, i32_w]
              rfl
            refine take_ (i := 13) (N := some 33) (v := ?_) (a' := ?_) #[true, true, true, true, true, true, true, true, true, true, true, true, true, true, false, false, false, false, false, false, false, false, false, false] rfl rfl (take_ofW HT_.out HW_.out (by kernel_rfl)) (fun _ _ _ h => h) (Or.inl ⟨by rfl, ?_⟩) hHeld ?_ ?_
            rotate_left
            · rintro w' ⟨s0, s1, s2, s3, s4, s5⟩
              go_simp
              with_reducible rfl
            rotate_left
            · simp only [Act.put, List.setIfInBounds_toArray, List.set_cons_zero, List.set_cons_succ, i64_w, i32_w]
              rfl
            refine take_ (i := 15) (N := some 35) (v := ?_) (a' := ?_) #[true, true, true, true, true, true, true, true, true, true, true, true, true, true, false, true, false, false, false, false, false, false, false, false] rfl rfl (take_ofW HT_.out HW_.out (by kernel_rfl)) (fun _ _ _ h => h) (Or.inl ⟨by rfl, ?_⟩) hHeld ?_ ?_
            rotate_left
            · rintro w' ⟨s0, s1, s2, s3, s4, s5⟩
              go_simp
              with_reducible rfl
            rotate_left
            · simp only [Act.put, List.setIfInBounds_toArray, List.set_cons_zero, List.set_cons_succ, i64_w, i32_w]
              rfl
            refine take_ (i := 18) (N := some 38) (v := ?_) (a' := ?_) #[true, true, true, true, true, true, true, true, true, true, true, true, true, true, false, true, false, false, true, false, false, false, false, false] rfl rfl (take_ofW HT_.out HW_.out (by kernel_rfl)) (fun _ _ _ h => h) (Or.inl ⟨by rfl, ?_⟩) hHeld ?_ ?_
            rotate_left
            · rintro w' ⟨s0, s1, s2, s3, s4, s5⟩
              go_simp
              with_reducible rfl
            rotate_left
            · simp only [Act.put, List.setIfInBounds_toArray, List.set_cons_zero, List.set_cons_succ, i64_w, i32_w]
              rfl
            refine take_ (i := 19) (N := some 39) (v := ?_) (a' := ?_) #[true, true, true, true, true, true, true, true, true, true, true, true, true, true, false, true, false, false, true, true, false, false, false, false] rfl rfl (take_ofW HT_.out HW_.out (by kernel_rfl)) (fun _ _ _ h => h) (Or.inl ⟨by rfl, ?_⟩) hHeld ?_ ?_
            rotate_left
            · rintro w' ⟨s0, s1, s2, s3, s4, s5⟩
              go_simp
              with_reducible rfl
            rotate_left
            · simp only [Act.put, List.setIfInBounds_toArray, List.set_cons_zero, List.set_cons_succ, i64_w, i32_w]
              rfl
            refine pure_ (i := 20) (N := some 40) (v := ?_) (a' := ?_) #[true, true, true, true, true, true, true, true, true, true, true, true, true, true, false, true, false, false, true, true, true, false, false, false] rfl rfl (any_of HT_.out (by kernel_rfl)) (fun _ _ _ h => h) (Or.inl ⟨by rfl, ?_⟩) ?_ ?_
            rotate_left
            · intro w'
              go_simp
              with_reducible rfl
            rotate_left
            · simp only [Act.put, List.setIfInBounds_toArray, List.set_cons_zero, List.set_cons_succ, i64_w, i32_w]
              rfl
            refine one_ (i := 14) (N := some 34) #[true, true, true, true, true, true, true, true, true, true, true, true, true, true, true, true, false, false, true, true, true, false, false, false] rfl rfl (one_of HT_.out (by kernel_rfl)) (by decide) (fun K hK => ?_)
            refine goes_ Tryd.func13 (by kernel_rfl) rfl #[.agg #[.int .i64 a0_0, .int .i64 a0_1, .string a0_2]] (by rfl) rfl rfl (by (try simp only [List.map_toArray, List.map_cons, List.map_nil]); first | done | rfl | (simp only [List.length_drop, List.length_take]; rfl)) ?_
            with_reducible refine (value_Show.calls a0_0 a0_1 a0_2 t121 _ (fun _ => HTAB.out.go (by repeat (first | (with_reducible first | exact HB.out | apply below_alloc | apply pw_below_drewN | apply below_drew1 | refine below_set ?_ GE114.out | refine below_set ?_ GE115.out) | exact HB.out))) A21.out).mono ?_
            rintro e w26 ⟨rfl, hb⟩
            refine ⟨_, rfl, ?_⟩
            have n0_ := Aside0.mk (blk_below (g := gb114) (o := .cells #[.int .i64 a0_0, .int .i64 a0_1, .string a0_2] 23 (0, 0)) (by (with_reducible repeat (first | refine blk_drewN ?_ _ | refine blk_drew ?_ | refine blk_alloc ?_ _)); exact BK114.out) hb)
            have n1_ := Aside0.mk (blk_below (g := gb115) (o := .cells #[.int .i64 a1_0, .int .i64 a1_1, .string a1_2] 23 (0, 0)) (by (with_reducible repeat (first | refine blk_drewN ?_ _ | refine blk_drew ?_ | refine blk_alloc ?_ _)); exact BK115.out) hb)
            have n2_ := Aside0.mk (below_step (by repeat (first | (with_reducible first | exact HB.out | apply below_alloc | apply pw_below_drewN | apply below_drew1 | refine below_set ?_ GE114.out | refine below_set ?_ GE115.out) | exact HB.out)) hb)
            clear BK114
            clear BK115
            clear HB
            have BK114 := n0_
            have BK115 := n1_
            have HB := n2_
            clear n0_ n1_ n2_
            (try clear hb)
            (try clear hb2)
            (try clear hk)
            (try clear hi)
            refine hK.out _ _ ⟨(blk_cell BK114.out 0).trans rfl, (blk_cell BK114.out 1).trans rfl, (blk_cell BK114.out 2).trans rfl, (blk_cell BK115.out 0).trans rfl, (blk_cell BK115.out 1).trans rfl, (blk_cell BK115.out 2).trans rfl⟩ (fun hHeld => ?_)
            clear hK K
            refine norm_ (a' := ?_) ?_ ?_
            rotate_left
            · show Act.put _ (some 34) _ = _
              simp only [Act.put, List.setIfInBounds_toArray, List.set_cons_zero, List.set_cons_succ, i64_w, i32_w]
              rfl
            refine one_ (i := 16) (N := some 36) #[true, true, true, true, true, true, true, true, true, true, true, true, true, true, true, true, true, false, true, true, true, false, false, false] rfl rfl (one_of HT_.out (by kernel_rfl)) (by decide) (fun K hK => ?_)
            refine goes_ Tryd.func13 (by kernel_rfl) rfl #[.agg #[.int .i64 a1_0, .int .i64 a1_1, .string a1_2]] (by rfl) rfl rfl (by (try simp only [List.map_toArray, List.map_cons, List.map_nil]); first | done | rfl | (simp only [List.length_drop, List.length_take]; rfl)) ?_
            with_reducible refine (value_Show.calls a1_0 a1_1 a1_2 t122 _ (fun _ => HTAB.out.go (by repeat (first | (with_reducible first | exact HB.out | apply below_alloc | apply pw_below_drewN | apply below_drew1 | refine below_set ?_ GE114.out | refine below_set ?_ GE115.out) | exact HB.out))) A22.out).mono ?_
            rintro e w27 ⟨rfl, hb⟩
            refine ⟨_, rfl, ?_⟩
            have n0_ := Aside0.mk (blk_below (g := gb114) (o := .cells #[.int .i64 a0_0, .int .i64 a0_1, .string a0_2] 23 (0, 0)) (by (with_reducible repeat (first | refine blk_drewN ?_ _ | refine blk_drew ?_ | refine blk_alloc ?_ _)); exact BK114.out) hb)
            have n1_ := Aside0.mk (blk_below (g := gb115) (o := .cells #[.int .i64 a1_0, .int .i64 a1_1, .string a1_2] 23 (0, 0)) (by (with_reducible repeat (first | refine blk_drewN ?_ _ | refine blk_drew ?_ | refine blk_alloc ?_ _)); exact BK115.out) hb)
            have n2_ := Aside0.mk (below_step (by repeat (first | (with_reducible first | exact HB.out | apply below_alloc | apply pw_below_drewN | apply below_drew1 | refine below_set ?_ GE114.out | refine below_set ?_ GE115.out) | exact HB.out)) hb)
            clear BK114
            clear BK115
            clear HB
            have BK114 := n0_
            have BK115 := n1_
            have HB := n2_
            clear n0_ n1_ n2_
            (try clear hb)
            (try clear hb2)
            (try clear hk)
            (try clear hi)
            refine hK.out _ _ ⟨(blk_cell BK114.out 0).trans rfl, (blk_cell BK114.out 1).trans rfl, (blk_cell BK114.out 2).trans rfl, (blk_cell BK115.out 0).trans rfl, (blk_cell BK115.out 1).trans rfl, (blk_cell BK115.out 2).trans rfl⟩ (fun hHeld => ?_)
            clear hK K
            refine norm_ (a' := ?_) ?_ ?_
            rotate_left
            · show Act.put _ (some 36) _ = _
              simp only [Act.put, List.setIfInBounds_toArray, List.set_cons_zero, List.set_cons_succ, i64_w, i32_w]
              rfl
            refine pure_ (i := 17) (N := some 37) (v := ?_) (a' := ?_) #[true, true, true, true, true, true, true, true, true, true, true, true, true, true, true, true, true, true, true, true, true, false, false, false] rfl rfl (any_of HT_.out (by kernel_rfl)) (fun _ _ _ h => h) (Or.inl ⟨by rfl, ?_⟩) ?_ ?_
            rotate_left
            · intro w'
              go_simp
              with_reducible rfl
            rotate_left
            · simp only [Act.put, List.setIfInBounds_toArray, List.set_cons_zero, List.set_cons_succ, i64_w, i32_w]
              rfl
            refine pure_ (i := 21) (N := some 41) (v := ?_) (a' := ?_) #[true, true, true, true, true, true, true, true, true, true, true, true, true, true, true, true, true, true, true, true, true, true, false, false] rfl rfl (any_of HT_.out (by kernel_rfl)) (fun _ _ _ h => h) (Or.inl ⟨by rfl, ?_⟩) ?_ ?_
            rotate_left
            · intro w'
              go_simp
              with_reducible rfl
            rotate_left
            · simp only [Act.put, List.setIfInBounds_toArray, List.set_cons_zero, List.set_cons_succ, i64_w, i32_w]
              rfl
            refine pure_ (i := 22) (N := some 42) (v := ?_) (a' := ?_) #[true, true, true, true, true, true, true, true, true, true, true, true, true, true, true, true, true, true, true, true, true, true, true, false] rfl rfl (any_of HT_.out (by kernel_rfl)) (fun _ _ _ h => h) (Or.inl ⟨by rfl, ?_⟩) ?_ ?_
            rotate_left
            · intro w'
              go_simp
              with_reducible rfl
            rotate_left
            · simp only [Act.put, List.setIfInBounds_toArray, List.set_cons_zero, List.set_cons_succ, i64_w, i32_w]
              rfl
            refine pure_ (i := 23) (N := some 4) (v := ?_) (a' := ?_) #[true, true, true, true, true, true, true, true, true, true, true, true, true, true, true, true, true, true, true, true, true, true, true, true] rfl rfl (any_of HT_.out (by kernel_rfl)) (fun _ _ _ h => h) (Or.inl ⟨by rfl, ?_⟩) ?_ ?_
            rotate_left
            · intro w'
              go_simp
              with_reducible rfl
            rotate_left
            · simp only [Act.put, List.setIfInBounds_toArray, List.set_cons_zero, List.set_cons_succ, i64_w, i32_w]
              rfl
            refine done_ (done_of HT_.out (by kernel_rfl)) ?_
            try go_wp2
            go_ret
            exact ⟨by first | rfl | (simp [errW_none, errW_some] <;> rfl) | (simp [*, errW_none, errW_some] <;> rfl), by repeat (first | (with_reducible first | exact HB.out | apply below_alloc | apply pw_below_drewN | apply below_drew1 | refine below_set ?_ GE114.out | refine below_set ?_ GE115.out) | exact HB.out)⟩
          · rw [if_neg c20] at H
            have c20b0 : ((t119.toList == t120.toList) == (a0_0 == a1_0 && (a0_1 == a1_1 && (a0_2.toList == a1_2.toList)))) = false := by simpa using c20
            (try (have c20b1 : decide ((t119.toList == t120.toList) = (a0_0 == a1_0 && (a0_1 == a1_1 && (a0_2.toList == a1_2.toList)))) = false := by simpa using c20))
            (try (have c20b2 : ((t119.toList == t120.toList) == (a0_0 == a1_0 && (a0_1 == a1_1 && (a0_2.toList == a1_2.toList)))) = false := by simpa using c20))
            (try (have c20b3 : ¬ ((t119.toList == t120.toList) = (a0_0 == a1_0 && (a0_1 == a1_1 && (a0_2.toList == a1_2.toList)))) := by simpa using c20))
            clear c20
            obtain rfl := Option.some.inj H
            try go_wp2
            have n0_ := Aside0.mk (blk_drew BK114.out)
            have n1_ := Aside0.mk (blk_drew BK115.out)
            have n2_ := Aside0.mk (below_drew1 HB.out)
            clear BK114
            clear BK115
            clear HB
            have BK114 := n0_
            have BK115 := n1_
            have HB := n2_
            clear n0_ n1_ n2_
            refine start_ (n := 24) (S := fun w' => w'.cell? ⟨gb114, 0, none⟩ = some (.int .i64 a0_0) ∧ w'.cell? ⟨gb114, 1, none⟩ = some (.int .i64 a0_1) ∧ w'.cell? ⟨gb114, 2, none⟩ = some (.string a0_2) ∧ w'.cell? ⟨gb115, 0, none⟩ = some (.int .i64 a1_0) ∧ w'.cell? ⟨gb115, 1, none⟩ = some (.int .i64 a1_1) ∧ w'.cell? ⟨gb115, 2, none⟩ = some (.string a1_2)) (ds := []) #[false, false, false, false, false, false, false, false, false, false, false, false, false, false, false, false, false, false, false, false, false, false, false, false] (by kernel_rfl) rfl rfl ⟨(blk_cell BK114.out 0).trans rfl, (blk_cell BK114.out 1).trans rfl, (blk_cell BK114.out 2).trans rfl, (blk_cell BK115.out 0).trans rfl, (blk_cell BK115.out 1).trans rfl, (blk_cell BK115.out 2).trans rfl⟩ (fun hHeld => ?_); refine with_tabW wherrylaw09_ValueApart.tab6 wherrylaw09_ValueApart.bits6 (fun HT_ HW_ => ?_)
            generalize wc.drew = w28 at BK114 BK115 HB hHeld ⊢
            refine pure_ (i := 0) (N := some 20) (v := ?_) (a' := ?_) #[true, false, false, false, false, false, false, false, false, false, false, false, false, false, false, false, false, false, false, false, false, false, false, false] rfl rfl (any_of HT_.out (by kernel_rfl)) (fun _ _ _ h => h) (Or.inl ⟨by rfl, ?_⟩) ?_ ?_
            rotate_left
            · intro w'
              go_simp
              with_reducible rfl
            rotate_left
            · simp only [Act.put, List.setIfInBounds_toArray, List.set_cons_zero, List.set_cons_succ, i64_w, i32_w]
              rfl
            refine pure_ (i := 1) (N := some 21) (v := ?_) (a' := ?_) #[true, true, false, false, false, false, false, false, false, false, false, false, false, false, false, false, false, false, false, false, false, false, false, false] rfl rfl (any_of HT_.out (by kernel_rfl)) (fun _ _ _ h => h) (Or.inl ⟨by rfl, ?_⟩) ?_ ?_
            rotate_left
            · intro w'
              go_simp
              with_reducible rfl
            rotate_left
            · simp only [Act.put, List.setIfInBounds_toArray, List.set_cons_zero, List.set_cons_succ, i64_w, i32_w]
              rfl
            refine take_ (i := 2) (N := some 22) (v := ?_) (a' := ?_) #[true, true, true, false, false, false, false, false, false, false, false, false, false, false, false, false, false, false, false, false, false, false, false, false] rfl rfl (take_ofW HT_.out HW_.out (by kernel_rfl)) (fun _ _ _ h => h) (Or.inl ⟨by rfl, ?_⟩) hHeld ?_ ?_
            rotate_left
            · rintro w' ⟨s0, s1, s2, s3, s4, s5⟩
              go_simp
              with_reducible rfl
            rotate_left
            · simp only [Act.put, List.setIfInBounds_toArray, List.set_cons_zero, List.set_cons_succ, i64_w, i32_w]
              rfl
            refine take_ (i := 4) (N := some 24) (v := ?_) (a' := ?_) #[true, true, true, false, true, false, false, false, false, false, false, false, false, false, false, false, false, false, false, false, false, false, false, false] rfl rfl (take_ofW HT_.out HW_.out (by kernel_rfl)) (fun _ _ _ h => h) (Or.inl ⟨by rfl, ?_⟩) hHeld ?_ ?_
            rotate_left
            · rintro w' ⟨s0, s1, s2, s3, s4, s5⟩
              go_simp
              with_reducible rfl
            rotate_left
            · simp only [Act.put, List.setIfInBounds_toArray, List.set_cons_zero, List.set_cons_succ, i64_w, i32_w]
              rfl
            refine take_ (i := 7) (N := some 27) (v := ?_) (a' := ?_) #[true, true, true, false, true, false, false, true, false, false, false, false, false, false, false, false, false, false, false, false, false, false, false, false] rfl rfl (take_ofW HT_.out HW_.out (by kernel_rfl)) (fun _ _ _ h => h) (Or.inl ⟨by rfl, ?_⟩) hHeld ?_ ?_
            rotate_left
            · rintro w' ⟨s0, s1, s2, s3, s4, s5⟩
              go_simp
              with_reducible rfl
            rotate_left
            · simp only [Act.put, List.setIfInBounds_toArray, List.set_cons_zero, List.set_cons_succ, i64_w, i32_w]
              rfl
            refine take_ (i := 8) (N := some 28) (v := ?_) (a' := ?_) #[true, true, true, false, true, false, false, true, true, false, false, false, false, false, false, false, false, false, false, false, false, false, false, false] rfl rfl (take_ofW HT_.out HW_.out (by kernel_rfl)) (fun _ _ _ h => h) (Or.inl ⟨by rfl, ?_⟩) hHeld ?_ ?_
            rotate_left
            · rintro w' ⟨s0, s1, s2, s3, s4, s5⟩
              go_simp
              with_reducible rfl
            rotate_left
            · simp only [Act.put, List.setIfInBounds_toArray, List.set_cons_zero, List.set_cons_succ, i64_w, i32_w]
              rfl
            refine pure_ (i := 9) (N := some 29) (v := ?_) (a' := ?_) #[true, true, true, false, true, false, false, true, true, true, false, false, false, false, false, false, false, false, false, false, false, false, false, false] rfl rfl (any_of HT_.out (by kernel_rfl)) (fun _ _ _ h => h) (Or.inl ⟨by rfl, ?_⟩) ?_ ?_
            rotate_left
            · intro w'
              go_simp
              with_reducible rfl
            rotate_left
            · simp only [Act.put, List.setIfInBounds_toArray, List.set_cons_zero, List.set_cons_succ, i64_w, i32_w]
              rfl
            refine one_ (i := 3) (N := some 23) #[true, true, true, true, true, false, false, true, true, true, false, false, false, false, false, false, false, false, false, false, false, false, false, false] rfl rfl (one_of HT_.out (by kernel_rfl)) (by decide) (fun K hK => ?_)
            refine goes_ Tryd.func12 (by kernel_rfl) rfl #[.agg #[.int .i64 a0_0, .int .i64 a0_1, .string a0_2]] (by rfl) rfl rfl (by (try simp only [List.map_toArray, List.map_cons, List.map_nil]); first | done | rfl | (simp only [List.length_drop, List.length_take]; rfl)) ?_
            with_reducible refine (value_Bytes.calls a0_0 a0_1 a0_2 t119 _ A18.out).mono ?_
            rintro e w29 ⟨rfl, hb⟩
            refine ⟨_, rfl, ?_⟩
            have n0_ := Aside0.mk (blk_below (g := gb114) (o := .cells #[.int .i64 a0_0, .int .i64 a0_1, .string a0_2] 23 (0, 0)) (by (with_reducible repeat (first | refine blk_drewN ?_ _ | refine blk_drew ?_ | refine blk_alloc ?_ _)); exact BK114.out) hb)
            have n1_ := Aside0.mk (blk_below (g := gb115) (o := .cells #[.int .i64 a1_0, .int .i64 a1_1, .string a1_2] 23 (0, 0)) (by (with_reducible repeat (first | refine blk_drewN ?_ _ | refine blk_drew ?_ | refine blk_alloc ?_ _)); exact BK115.out) hb)
            have n2_ := Aside0.mk (below_step (by repeat (first | (with_reducible first | exact HB.out | apply below_alloc | apply pw_below_drewN | apply below_drew1 | refine below_set ?_ GE114.out | refine below_set ?_ GE115.out) | exact HB.out)) hb)
            clear BK114
            clear BK115
            clear HB
            have BK114 := n0_
            have BK115 := n1_
            have HB := n2_
            clear n0_ n1_ n2_
            (try clear hb)
            (try clear hb2)
            (try clear hk)
            (try clear hi)
            refine hK.out _ _ ⟨(blk_cell BK114.out 0).trans rfl, (blk_cell BK114.out 1).trans rfl, (blk_cell BK114.out 2).trans rfl, (blk_cell BK115.out 0).trans rfl, (blk_cell BK115.out 1).trans rfl, (blk_cell BK115.out 2).trans rfl⟩ (fun hHeld => ?_)
            clear hK K
            refine norm_ (a' := ?_) ?_ ?_
            rotate_left
            · show Act.put _ (some 23) _ = _
              simp only [Act.put, List.setIfInBounds_toArray, List.set_cons_zero, List.set_cons_succ, i64_w, i32_w]
              rfl
            refine one_ (i := 5) (N := some 25) #[true, true, true, true, true, true, false, true, true, true, false, false, false, false, false, false, false, false, false, false, false, false, false, false] rfl rfl (one_of HT_.out (by kernel_rfl)) (by decide) (fun K hK => ?_)
            refine goes_ Tryd.func12 (by kernel_rfl) rfl #[.agg #[.int .i64 a1_0, .int .i64 a1_1, .string a1_2]] (by rfl) rfl rfl (by (try simp only [List.map_toArray, List.map_cons, List.map_nil]); first | done | rfl | (simp only [List.length_drop, List.length_take]; rfl)) ?_
            with_reducible refine (value_Bytes.calls a1_0 a1_1 a1_2 t120 _ A19.out).mono ?_
            rintro e w30 ⟨rfl, hb⟩
            refine ⟨_, rfl, ?_⟩
            have n0_ := Aside0.mk (blk_below (g := gb114) (o := .cells #[.int .i64 a0_0, .int .i64 a0_1, .string a0_2] 23 (0, 0)) (by (with_reducible repeat (first | refine blk_drewN ?_ _ | refine blk_drew ?_ | refine blk_alloc ?_ _)); exact BK114.out) hb)
            have n1_ := Aside0.mk (blk_below (g := gb115) (o := .cells #[.int .i64 a1_0, .int .i64 a1_1, .string a1_2] 23 (0, 0)) (by (with_reducible repeat (first | refine blk_drewN ?_ _ | refine blk_drew ?_ | refine blk_alloc ?_ _)); exact BK115.out) hb)
            have n2_ := Aside0.mk (below_step (by repeat (first | (with_reducible first | exact HB.out | apply below_alloc | apply pw_below_drewN | apply below_drew1 | refine below_set ?_ GE114.out | refine below_set ?_ GE115.out) | exact HB.out)) hb)
            clear BK114
            clear BK115
            clear HB
            have BK114 := n0_
            have BK115 := n1_
            have HB := n2_
            clear n0_ n1_ n2_
            (try clear hb)
            (try clear hb2)
            (try clear hk)
            (try clear hi)
            refine hK.out _ _ ⟨(blk_cell BK114.out 0).trans rfl, (blk_cell BK114.out 1).trans rfl, (blk_cell BK114.out 2).trans rfl, (blk_cell BK115.out 0).trans rfl, (blk_cell BK115.out 1).trans rfl, (blk_cell BK115.out 2).trans rfl⟩ (fun hHeld => ?_)
            clear hK K
            refine norm_ (a' := ?_) ?_ ?_
            rotate_left
            · show Act.put _ (some 25) _ = _
              simp only [Act.put, List.setIfInBounds_toArray, List.set_cons_zero, List.set_cons_succ, i64_w, i32_w]
              rfl
            refine pure_ (i := 6) (N := some 26) (v := ?_) (a' := ?_) #[true, true, true, true, true, true, true, true, true, true, false, false, false, false, false, false, false, false, false, false, false, false, false, false] rfl rfl (any_of HT_.out (by kernel_rfl)) (fun _ _ _ h => h) (Or.inl ⟨by rfl, ?_⟩) ?_ ?_
            rotate_left
            · intro w'
              go_simp
              with_reducible rfl
            rotate_left
            · simp only [Act.put, List.setIfInBounds_toArray, List.set_cons_zero, List.set_cons_succ, i64_w, i32_w]
              rfl
            refine pure_ (i := 10) (N := some 30) (v := ?_) (a' := ?_) #[true, true, true, true, true, true, true, true, true, true, true, false, false, false, false, false, false, false, false, false, false, false, false, false] rfl rfl (any_of HT_.out (by kernel_rfl)) (fun _ _ _ h => h) (Or.inl ⟨by rfl, ?_⟩) ?_ ?_
            rotate_left
            · intro w'
              go_simp
              with_reducible rfl
            rotate_left
            · simp only [Act.put, List.setIfInBounds_toArray, List.set_cons_zero, List.set_cons_succ, i64_w, i32_w]
              rfl
            refine pure_ (i := 11) (N := some 31) (v := ?_) (a' := ?_) #[true, true, true, true, true, true, true, true, true, true, true, true, false, false, false, false, false, false, false, false, false, false, false, false] rfl rfl (any_of HT_.out (by kernel_rfl)) (fun _ _ _ h => h) (Or.inl ⟨by rfl, ?_⟩) ?_ ?_
            rotate_left
            · intro w'
              go_simp
              with_reducible rfl
            rotate_left
            · simp only [Act.put, List.setIfInBounds_toArray, List.set_cons_zero, List.set_cons_succ, i64_w, i32_w]
              rfl
            refine pure_ (i := 12) (N := some 32) (v := ?_) (a' := ?_) #[true, true, true, true, true, true, true, true, true, true, true, true, true, false, false, false, false, false, false, false, false, false, false, false] rfl rfl (any_of HT_.out (by kernel_rfl)) (fun _ _ _ h => h) (Or.inl ⟨by rfl, ?_⟩) ?_ ?_
            rotate_left
            · intro w'
              go_simp
              with_reducible rfl
            rotate_left
            · simp only [Act.put, List.setIfInBounds_toArray, List.set_cons_zero, List.set_cons_succ, i64_w, i32_w]
              rfl
            refine pure_ (i := 13) (N := some 33) (v := undef) (a' := ?_) #[true, true, true, true, true, true, true, true, true, true, true, true, true, true, false, false, false, false, false, false, false, false, false, false] rfl rfl (any_of HT_.out (by kernel_rfl)) (fun _ _ _ h => h) (Or.inr ⟨by rfl, rfl⟩) ?_ ?_
            rotate_left
            · simp only [Act.put, List.setIfInBounds_toArray, List.set_cons_zero, List.set_cons_succ, i64_w, i32_w]
              rfl
            refine pure_ (i := 14) (N := some 34) (v := undef) (a' := ?_) #[true, true, true, true, true, true, true, true, true, true, true, true, true, true, true, false, false, false, false, false, false, false, false, false] rfl rfl (any_of HT_.out (by kernel_rfl)) (fun _ _ _ h => h) (Or.inr ⟨by rfl, rfl⟩) ?_ ?_
            rotate_left
            · simp only [Act.put, List.setIfInBounds_toArray, List.set_cons_zero, List.set_cons_succ, i64_w, i32_w]
              rfl
            refine pure_ (i := 15) (N := some 35) (v := undef) (a' := ?_) #[true, true, true, true, true, true, true, true, true, true, true, true, true, true, true, true, false, false, false, false, false, false, false, false] rfl rfl (any_of HT_.out (by kernel_rfl)) (fun _ _ _ h => h) (Or.inr ⟨by rfl, rfl⟩) ?_ ?_
            rotate_left
            · simp only [Act.put, List.setIfInBounds_toArray, List.set_cons_zero, List.set_cons_succ, i64_w, i32_w]
              rfl
            refine pure_ (i := 16) (N := some 36) (v := undef) (a' := ?_) #[true, true, true, true, true, true, true, true, true, true, true, true, true, true, true, true, true, false, false, false, false, false, false, false] rfl rfl (any_of HT_.out (by kernel_rfl)) (fun _ _ _ h => h) (Or.inr ⟨by rfl, rfl⟩) ?_ ?_
            rotate_left
            · simp only [Act.put, List.setIfInBounds_toArray, List.set_cons_zero, List.set_cons_succ, i64_w, i32_w]
              rfl
            refine pure_ (i := 17) (N := some 37) (v := undef) (a' := ?_) #[true, true, true, true, true, true, true, true, true, true, true, true, true, true, true, true, true, true, false, false, false, false, false, false] rfl rfl (any_of HT_.out (by kernel_rfl)) (fun _ _ _ h => h) (Or.inr ⟨by rfl, rfl⟩) ?_ ?_
            rotate_left
            · simp only [Act.put, List.setIfInBounds_toArray, List.set_cons_zero, List.set_cons_succ, i64_w, i32_w]
              rfl
            refine pure_ (i := 18) (N := some 38) (v := undef) (a' := ?_) #[true, true, true, true, true, true, true, true, true, true, true, true, true, true, true, true, true, true, true, false, false, false, false, false] rfl rfl (any_of HT_.out (by kernel_rfl)) (fun _ _ _ h => h) (Or.inr ⟨by rfl, rfl⟩) ?_ ?_
            rotate_left
            · simp only [Act.put, List.setIfInBounds_toArray, List.set_cons_zero, List.set_cons_succ, i64_w, i32_w]
              rfl
            refine pure_ (i := 19) (N := some 39) (v := undef) (a' := ?_) #[true, true, true, true, true, true, true, true, true, true, true, true, true, true, true, true, true, true, true, true, false, false, false, false] rfl rfl (any_of HT_.out (by kernel_rfl)) (fun _ _ _ h => h) (Or.inr ⟨by rfl, rfl⟩) ?_ ?_
            rotate_left
            · simp only [Act.put, List.setIfInBounds_toArray, List.set_cons_zero, List.set_cons_succ, i64_w, i32_w]
              rfl
            refine pure_ (i := 20) (N := some 40) (v := undef) (a' := ?_) #[true, true, true, true, true, true, true, true, true, true, true, true, true, true, true, true, true, true, true, true, true, false, false, false] rfl rfl (any_of HT_.out (by kernel_rfl)) (fun _ _ _ h => h) (Or.inr ⟨by rfl, rfl⟩) ?_ ?_
            rotate_left
            · simp only [Act.put, List.setIfInBounds_toArray, List.set_cons_zero, List.set_cons_succ, i64_w, i32_w]
              rfl
            refine pure_ (i := 21) (N := some 41) (v := undef) (a' := ?_) #[true, true, true, true, true, true, true, true, true, true, true, true, true, true, true, true, true, true, true, true, true, true, false, false] rfl rfl (any_of HT_.out (by kernel_rfl)) (fun _ _ _ h => h) (Or.inr ⟨by rfl, rfl⟩) ?_ ?_
            rotate_left
            · simp only [Act.put, List.setIfInBounds_toArray, List.set_cons_zero, List.set_cons_succ, i64_w, i32_w]
              rfl
            refine pure_ (i := 22) (N := some 42) (v := ?_) (a' := ?_) #[true, true, true, true, true, true, true, true, true, true, true, true, true, true, true, true, true, true, true, true, true, true, true, false] rfl rfl (any_of HT_.out (by kernel_rfl)) (fun _ _ _ h => h) (Or.inl ⟨by rfl, ?_⟩) ?_ ?_
            rotate_left
            · intro w'
              go_simp
              with_reducible rfl
            rotate_left
            · simp only [Act.put, List.setIfInBounds_toArray, List.set_cons_zero, List.set_cons_succ, i64_w, i32_w]
              rfl
            refine pure_ (i := 23) (N := some 4) (v := ?_) (a' := ?_) #[true, true, true, true, true, true, true, true, true, true, true, true, true, true, true, true, true, true, true, true, true, true, true, true] rfl rfl (any_of HT_.out (by kernel_rfl)) (fun _ _ _ h => h) (Or.inl ⟨by rfl, ?_⟩) ?_ ?_
            rotate_left
            · intro w'
              go_simp
              with_reducible rfl
            rotate_left
            · simp only [Act.put, List.setIfInBounds_toArray, List.set_cons_zero, List.set_cons_succ, i64_w, i32_w]
              rfl
            refine done_ (done_of HT_.out (by kernel_rfl)) ?_
            try go_wp2
            go_ret
            exact ⟨by first | rfl | (simp [errW_none, errW_some] <;> rfl) | (simp [*, errW_none, errW_some] <;> rfl), by repeat (first | (with_reducible first | exact HB.out | apply below_alloc | apply pw_below_drewN | apply below_drew1 | refine below_set ?_ GE114.out | refine below_set ?_ GE115.out) | exact HB.out)⟩
        · replace c17 := Bool.eq_false_iff.mpr c17
          subst c17
          have H1 : (some false) = some r := by rw [if_neg (show ¬ (false = true) by decide)] at H; exact H
          clear H
          have H := H1
          clear H1
          obtain rfl := Option.some.inj H
          try go_wp2
          have n0_ := Aside0.mk (blk_drew BK114.out)
          have n1_ := Aside0.mk (blk_drew BK115.out)
          have n2_ := Aside0.mk (below_drew1 HB.out)
          clear BK114
          clear BK115
          clear HB
          have BK114 := n0_
          have BK115 := n1_
          have HB := n2_
          clear n0_ n1_ n2_
          refine start_ (n := 24) (S := fun w' => True) (ds := []) #[false, false, false, false, false, false, false, false, false, false, false, false, false, false, false, false, false, false, false, false, false, false, false, false] (by kernel_rfl) rfl rfl trivial (fun hHeld => ?_); refine with_tabW wherrylaw09_ValueApart.tab6 wherrylaw09_ValueApart.bits6 (fun HT_ HW_ => ?_)
          generalize wc.drew = w31 at BK114 BK115 HB hHeld ⊢
          refine pure_ (i := 0) (N := some 20) (v := ?_) (a' := ?_) #[true, false, false, false, false, false, false, false, false, false, false, false, false, false, false, false, false, false, false, false, false, false, false, false] rfl rfl (any_of HT_.out (by kernel_rfl)) (fun _ _ _ h => h) (Or.inl ⟨by rfl, ?_⟩) ?_ ?_
          rotate_left
          · intro w'
            go_simp
            with_reducible rfl
          rotate_left
          · simp only [Act.put, List.setIfInBounds_toArray, List.set_cons_zero, List.set_cons_succ, i64_w, i32_w]
            rfl
          refine pure_ (i := 1) (N := some 21) (v := ?_) (a' := ?_) #[true, true, false, false, false, false, false, false, false, false, false, false, false, false, false, false, false, false, false, false, false, false, false, false] rfl rfl (any_of HT_.out (by kernel_rfl)) (fun _ _ _ h => h) (Or.inl ⟨by rfl, ?_⟩) ?_ ?_
          rotate_left
          · intro w'
            go_simp
            with_reducible rfl
          rotate_left
          · simp only [Act.put, List.setIfInBounds_toArray, List.set_cons_zero, List.set_cons_succ, i64_w, i32_w]
            rfl
          refine pure_ (i := 2) (N := some 22) (v := undef) (a' := ?_) #[true, true, true, false, false, false, false, false, false, false, false, false, false, false, false, false, false, false, false, false, false, false, false, false] rfl rfl (any_of HT_.out (by kernel_rfl)) (fun _ _ _ h => h) (Or.inr ⟨by rfl, rfl⟩) ?_ ?_
          rotate_left
          · simp only [Act.put, List.setIfInBounds_toArray, List.set_cons_zero, List.set_cons_succ, i64_w, i32_w]
            rfl
          refine pure_ (i := 3) (N := some 23) (v := undef) (a' := ?_) #[true, true, true, true, false, false, false, false, false, false, false, false, false, false, false, false, false, false, false, false, false, false, false, false] rfl rfl (any_of HT_.out (by kernel_rfl)) (fun _ _ _ h => h) (Or.inr ⟨by rfl, rfl⟩) ?_ ?_
          rotate_left
          · simp only [Act.put, List.setIfInBounds_toArray, List.set_cons_zero, List.set_cons_succ, i64_w, i32_w]
            rfl
          refine pure_ (i := 4) (N := some 24) (v := undef) (a' := ?_) #[true, true, true, true, true, false, false, false, false, false, false, false, false, false, false, false, false, false, false, false, false, false, false, false] rfl rfl (any_of HT_.out (by kernel_rfl)) (fun _ _ _ h => h) (Or.inr ⟨by rfl, rfl⟩) ?_ ?_
          rotate_left
          · simp only [Act.put, List.setIfInBounds_toArray, List.set_cons_zero, List.set_cons_succ, i64_w, i32_w]
            rfl
          refine pure_ (i := 5) (N := some 25) (v := undef) (a' := ?_) #[true, true, true, true, true, true, false, false, false, false, false, false, false, false, false, false, false, false, false, false, false, false, false, false] rfl rfl (any_of HT_.out (by kernel_rfl)) (fun _ _ _ h => h) (Or.inr ⟨by rfl, rfl⟩) ?_ ?_
          rotate_left
          · simp only [Act.put, List.setIfInBounds_toArray, List.set_cons_zero, List.set_cons_succ, i64_w, i32_w]
            rfl
          refine pure_ (i := 6) (N := some 26) (v := undef) (a' := ?_) #[true, true, true, true, true, true, true, false, false, false, false, false, false, false, false, false, false, false, false, false, false, false, false, false] rfl rfl (any_of HT_.out (by kernel_rfl)) (fun _ _ _ h => h) (Or.inr ⟨by rfl, rfl⟩) ?_ ?_
          rotate_left
          · simp only [Act.put, List.setIfInBounds_toArray, List.set_cons_zero, List.set_cons_succ, i64_w, i32_w]
            rfl
          refine pure_ (i := 7) (N := some 27) (v := undef) (a' := ?_) #[true, true, true, true, true, true, true, true, false, false, false, false, false, false, false, false, false, false, false, false, false, false, false, false] rfl rfl (any_of HT_.out (by kernel_rfl)) (fun _ _ _ h => h) (Or.inr ⟨by rfl, rfl⟩) ?_ ?_
          rotate_left
          · simp only [Act.put, List.setIfInBounds_toArray, List.set_cons_zero, List.set_cons_succ, i64_w, i32_w]
            rfl
          refine pure_ (i := 8) (N := some 28) (v := undef) (a' := ?_) #[true, true, true, true, true, true, true, true, true, false, false, false, false, false, false, false, false, false, false, false, false, false, false, false] rfl rfl (any_of HT_.out (by kernel_rfl)) (fun _ _ _ h => h) (Or.inr ⟨by rfl, rfl⟩) ?_ ?_
          rotate_left
          · simp only [Act.put, List.setIfInBounds_toArray, List.set_cons_zero, List.set_cons_succ, i64_w, i32_w]
            rfl
          refine pure_ (i := 9) (N := some 29) (v := undef) (a' := ?_) #[true, true, true, true, true, true, true, true, true, true, false, false, false, false, false, false, false, false, false, false, false, false, false, false] rfl rfl (any_of HT_.out (by kernel_rfl)) (fun _ _ _ h => h) (Or.inr ⟨by rfl, rfl⟩) ?_ ?_
          rotate_left
          · simp only [Act.put, List.setIfInBounds_toArray, List.set_cons_zero, List.set_cons_succ, i64_w, i32_w]
            rfl
          refine pure_ (i := 10) (N := some 30) (v := undef) (a' := ?_) #[true, true, true, true, true, true, true, true, true, true, true, false, false, false, false, false, false, false, false, false, false, false, false, false] rfl rfl (any_of HT_.out (by kernel_rfl)) (fun _ _ _ h => h) (Or.inr ⟨by rfl, rfl⟩) ?_ ?_
          rotate_left
          · simp only [Act.put, List.setIfInBounds_toArray, List.set_cons_zero, List.set_cons_succ, i64_w, i32_w]
            rfl
          refine pure_ (i := 11) (N := some 31) (v := ?_) (a' := ?_) #[true, true, true, true, true, true, true, true, true, true, true, true, false, false, false, false, false, false, false, false, false, false, false, false] rfl rfl (any_of HT_.out (by kernel_rfl)) (fun _ _ _ h => h) (Or.inl ⟨by rfl, ?_⟩) ?_ ?_
          rotate_left
          · intro w'
            go_simp
            with_reducible rfl
          rotate_left
          · simp only [Act.put, List.setIfInBounds_toArray, List.set_cons_zero, List.set_cons_succ, i64_w, i32_w]
            rfl
          refine pure_ (i := 12) (N := some 32) (v := ?_) (a' := ?_) #[true, true, true, true, true, true, true, true, true, true, true, true, true, false, false, false, false, false, false, false, false, false, false, false] rfl rfl (any_of HT_.out (by kernel_rfl)) (fun _ _ _ h => h) (Or.inl ⟨by rfl, ?_⟩) ?_ ?_
          rotate_left
          · intro w'
            go_simp
            with_reducible rfl
          rotate_left
          · simp only [Act.put, List.setIfInBounds_toArray, List.set_cons_zero, List.set_cons_succ, i64_w, i32_w]
            rfl
          refine pure_ (i := 13) (N := some 33) (v := undef) (a' := ?_) #[true, true, true, true, true, true, true, true, true, true, true, true, true, true, false, false, false, false, false, false, false, false, false, false] rfl rfl (any_of HT_.out (by kernel_rfl)) (fun _ _ _ h => h) (Or.inr ⟨by rfl, rfl⟩) ?_ ?_
          rotate_left
          · simp only [Act.put, List.setIfInBounds_toArray, List.set_cons_zero, List.set_cons_succ, i64_w, i32_w]
            rfl
          refine pure_ (i := 14) (N := some 34) (v := undef) (a' := ?_) #[true, true, true, true, true, true, true, true, true, true, true, true, true, true, true, false, false, false, false, false, false, false, false, false] rfl rfl (any_of HT_.out (by kernel_rfl)) (fun _ _ _ h => h) (Or.inr ⟨by rfl, rfl⟩) ?_ ?_
          rotate_left
          · simp only [Act.put, List.setIfInBounds_toArray, List.set_cons_zero, List.set_cons_succ, i64_w, i32_w]
            rfl
          refine pure_ (i := 15) (N := some 35) (v := undef) (a' := ?_) #[true, true, true, true, true, true, true, true, true, true, true, true, true, true, true, true, false, false, false, false, false, false, false, false] rfl rfl (any_of HT_.out (by kernel_rfl)) (fun _ _ _ h => h) (Or.inr ⟨by rfl, rfl⟩) ?_ ?_
          rotate_left
          · simp only [Act.put, List.setIfInBounds_toArray, List.set_cons_zero, List.set_cons_succ, i64_w, i32_w]
            rfl
          refine pure_ (i := 16) (N := some 36) (v := undef) (a' := ?_) #[true, true, true, true, true, true, true, true, true, true, true, true, true, true, true, true, true, false, false, false, false, false, false, false] rfl rfl (any_of HT_.out (by kernel_rfl)) (fun _ _ _ h => h) (Or.inr ⟨by rfl, rfl⟩) ?_ ?_
          rotate_left
          · simp only [Act.put, List.setIfInBounds_toArray, List.set_cons_zero, List.set_cons_succ, i64_w, i32_w]
            rfl
          refine pure_ (i := 17) (N := some 37) (v := undef) (a' := ?_) #[true, true, true, true, true, true, true, true, true, true, true, true, true, true, true, true, true, true, false, false, false, false, false, false] rfl rfl (any_of HT_.out (by kernel_rfl)) (fun _ _ _ h => h) (Or.inr ⟨by rfl, rfl⟩) ?_ ?_
          rotate_left
          · simp only [Act.put, List.setIfInBounds_toArray, List.set_cons_zero, List.set_cons_succ, i64_w, i32_w]
            rfl
          refine pure_ (i := 18) (N := some 38) (v := undef) (a' := ?_) #[true, true, true, true, true, true, true, true, true, true, true, true, true, true, true, true, true, true, true, false, false, false, false, false] rfl rfl (any_of HT_.out (by kernel_rfl)) (fun _ _ _ h => h) (Or.inr ⟨by rfl, rfl⟩) ?_ ?_
          rotate_left
          · simp only [Act.put, List.setIfInBounds_toArray, List.set_cons_zero, List.set_cons_succ, i64_w, i32_w]
            rfl
          refine pure_ (i := 19) (N := some 39) (v := undef) (a' := ?_) #[true, true, true, true, true, true, true, true, true, true, true, true, true, true, true, true, true, true, true, true, false, false, false, false] rfl rfl (any_of HT_.out (by kernel_rfl)) (fun _ _ _ h => h) (Or.inr ⟨by rfl, rfl⟩) ?_ ?_
          rotate_left
          · simp only [Act.put, List.setIfInBounds_toArray, List.set_cons_zero, List.set_cons_succ, i64_w, i32_w]
            rfl
          refine pure_ (i := 20) (N := some 40) (v := undef) (a' := ?_) #[true, true, true, true, true, true, true, true, true, true, true, true, true, true, true, true, true, true, true, true, true, false, false, false] rfl rfl (any_of HT_.out (by kernel_rfl)) (fun _ _ _ h => h) (Or.inr ⟨by rfl, rfl⟩) ?_ ?_
          rotate_left
          · simp only [Act.put, List.setIfInBounds_toArray, List.set_cons_zero, List.set_cons_succ, i64_w, i32_w]
            rfl
          refine pure_ (i := 21) (N := some 41) (v := undef) (a' := ?_) #[true, true, true, true, true, true, true, true, true, true, true, true, true, true, true, true, true, true, true, true, true, true, false, false] rfl rfl (any_of HT_.out (by kernel_rfl)) (fun _ _ _ h => h) (Or.inr ⟨by rfl, rfl⟩) ?_ ?_
          rotate_left
          · simp only [Act.put, List.setIfInBounds_toArray, List.set_cons_zero, List.set_cons_succ, i64_w, i32_w]
            rfl
          refine pure_ (i := 22) (N := some 42) (v := ?_) (a' := ?_) #[true, true, true, true, true, true, true, true, true, true, true, true, true, true, true, true, true, true, true, true, true, true, true, false] rfl rfl (any_of HT_.out (by kernel_rfl)) (fun _ _ _ h => h) (Or.inl ⟨by rfl, ?_⟩) ?_ ?_
          rotate_left
          · intro w'
            go_simp
            with_reducible rfl
          rotate_left
          · simp only [Act.put, List.setIfInBounds_toArray, List.set_cons_zero, List.set_cons_succ, i64_w, i32_w]
            rfl
          refine pure_ (i := 23) (N := some 4) (v := ?_) (a' := ?_) #[true, true, true, true, true, true, true, true, true, true, true, true, true, true, true, true, true, true, true, true, true, true, true, true] rfl rfl (any_of HT_.out (by kernel_rfl)) (fun _ _ _ h => h) (Or.inl ⟨by rfl, ?_⟩) ?_ ?_
          rotate_left
          · intro w'
            go_simp
            with_reducible rfl
          rotate_left
          · simp only [Act.put, List.setIfInBounds_toArray, List.set_cons_zero, List.set_cons_succ, i64_w, i32_w]
            rfl
          refine done_ (done_of HT_.out (by kernel_rfl)) ?_
          try go_wp2
          go_ret
          exact ⟨by first | rfl | (simp [errW_none, errW_some] <;> rfl) | (simp [*, errW_none, errW_some] <;> rfl), by repeat (first | (with_reducible first | exact HB.out | apply below_alloc | apply pw_below_drewN | apply below_drew1 | refine below_set ?_ GE114.out | refine below_set ?_ GE115.out) | exact HB.out)⟩
def value_Less.f (a0_0 : Int) (a0_1 : Int) (a0_2 : ByteArray) (a1_0 : Int) (a1_1 : Int) (a1_2 : ByteArray) : Option (Bool) := if a0_0 = a1_0 then (if a0_1 = a1_1 then (some (Op.bytesLess a0_2.toList a1_2.toList)) else (some (decide (a0_1 < a1_1)))) else (some (decide (a0_0 < a1_0)))
set_option maxHeartbeats 8000000 in
set_option maxRecDepth 100000 in
theorem value_Less.calls (a0_0 : Int) (a0_1 : Int) (a0_2 : ByteArray) (a1_0 : Int) (a1_1 : Int) (a1_2 : ByteArray) (r : Bool) (w : World) (h : value_Less.f a0_0 a0_1 a0_2 a1_0 a1_1 a1_2 = some r) :
    Calls Tryd.prog 14 #[.agg #[.int .i64 a0_0, .int .i64 a0_1, .string a0_2], .agg #[.int .i64 a1_0, .int .i64 a1_1, .string a1_2]] w fun e w' => e = .returned (.bool r) ∧ Below w.heap.size w w' := by
  have hu23 := Tryd.underlying23
  have HB := Aside0.mk (Below.refl w.heap.size w)
  have H : (if a0_0 = a1_0 then (if a0_1 = a1_1 then (some (Op.bytesLess a0_2.toList a1_2.toList)) else (some (decide (a0_1 < a1_1)))) else (some (decide (a0_0 < a1_0)))) = some r := h
  clear h
  by_cases c3 : a0_0 = a1_0
  · rw [if_pos c3] at H
    have c3b0 : (a0_0 == a1_0) = true := beq_iff_eq.mpr c3
    have c3b1 : (a0_0 != a1_0) = false := bne_eq_false_iff_eq.mpr c3
    clear c3
    by_cases c4 : a0_1 = a1_1
    · rw [if_pos c4] at H
      have c4b0 : (a0_1 == a1_1) = true := beq_iff_eq.mpr c4
      have c4b1 : (a0_1 != a1_1) = false := bne_eq_false_iff_eq.mpr c4
      clear c4
      obtain rfl := Option.some.inj H
      go_enter Tryd.func14, Tryd.ntmps14
      go_wp2_with (first | ((with_reducible refine gate_dst (N := 2) rfl ?_); refine box_event ?hg (N := 2) ?hd (cs := #[.int .i64 a0_0, .int .i64 a0_1, .string a0_2]) (t := 23) ?hr ?_; (case hd => rfl); (case hg => rfl); (case hr => first | (go_simp; done) | (go_simp; rfl)); intro gb123 hg w5 hbox hb; have n0_ := Aside0.mk (below_step (by repeat (first | (with_reducible first | exact HB.out | apply below_alloc | apply pw_below_drewN | apply below_drew1) | exact HB.out)) hb); have n1_ := Aside0.mk (hbox); have n2_ := Aside0.mk ((by rw [hg]; exact (below_size (by repeat (first | (with_reducible first | exact HB.out | apply below_alloc | apply pw_below_drewN | apply below_drew1) | exact HB.out))) : w.heap.size ≤ gb123)); have n3_ := Aside0.mk ((by rw [hg]; exact (below_size (by repeat (first | (with_reducible first | exact HB.out | apply below_alloc | apply pw_below_drewN | apply below_drew1) | exact HB.out))) : w.heap.size ≤ gb123)); clear HB; have HB := n0_; have BK123 := n1_; have GW123 := n2_; have GE123 := n3_; clear n0_ n1_ n2_ n3_; clear hb hbox hg) | ((with_reducible refine gate_dst (N := 3) rfl ?_); refine box_event ?hg (N := 3) ?hd (cs := #[.int .i64 a1_0, .int .i64 a1_1, .string a1_2]) (t := 23) ?hr ?_; (case hd => rfl); (case hg => rfl); (case hr => first | (go_simp; done) | (go_simp; rfl)); intro gb124 hg w6 hbox hb; have n0_ := Aside0.mk (blk_below (g := gb123) (o := .cells #[.int .i64 a0_0, .int .i64 a0_1, .string a0_2] 23 (0, 0)) (by (with_reducible repeat (first | refine blk_drewN ?_ _ | refine blk_drew ?_ | refine blk_alloc ?_ _)); exact BK123.out) hb); have n1_ := Aside0.mk (below_step (by repeat (first | (with_reducible first | exact HB.out | apply below_alloc | apply pw_below_drewN | apply below_drew1 | refine below_set ?_ GE123.out) | exact HB.out)) hb); have n2_ := Aside0.mk (hbox); have n3_ := Aside0.mk ((by rw [hg]; exact (below_size (by repeat (first | (with_reducible first | exact HB.out | apply below_alloc | apply pw_below_drewN | apply below_drew1 | refine below_set ?_ GE123.out) | exact HB.out))) : w.heap.size ≤ gb124)); have n4_ := Aside0.mk ((by rw [hg]; exact (below_size (by repeat (first | (with_reducible first | exact HB.out | apply below_alloc | apply pw_below_drewN | apply below_drew1 | refine below_set ?_ GE123.out) | exact HB.out))) : w.heap.size ≤ gb124)); have n5_ := Aside0.mk ((by rw [hg]; exact Nat.ne_of_lt (blk_lt (g := gb123) (o := .cells #[.int .i64 a0_0, .int .i64 a0_1, .string a0_2] 23 (0, 0)) (by (with_reducible repeat (first | refine blk_drewN ?_ _ | refine blk_drew ?_ | refine blk_alloc ?_ _)); exact BK123.out)) : gb123 ≠ gb124)); have n6_ := Aside0.mk ((by rw [hg]; exact Nat.ne_of_gt (blk_lt (g := gb123) (o := .cells #[.int .i64 a0_0, .int .i64 a0_1, .string a0_2] 23 (0, 0)) (by (with_reducible repeat (first | refine blk_drewN ?_ _ | refine blk_drew ?_ | refine blk_alloc ?_ _)); exact BK123.out)) : gb124 ≠ gb123)); clear BK123; clear HB; have BK123 := n0_; have HB := n1_; have BK124 := n2_; have GW124 := n3_; have GE124 := n4_; have NB123_124 := n5_; have NB124_123 := n6_; clear n0_ n1_ n2_ n3_ n4_ n5_ n6_; clear hb hbox hg; have hnb7 := NB123_124.out; have hnc7 := NB124_123.out; have hcz8_0 : w6.cell? ⟨gb123, 0, none⟩ = some (.int .i64 a0_0) := (blk_cell BK123.out 0).trans rfl; have hcz8_1 : w6.cell? ⟨gb123, 1, none⟩ = some (.int .i64 a0_1) := (blk_cell BK123.out 1).trans rfl; have hcz8_2 : w6.cell? ⟨gb123, 2, none⟩ = some (.string a0_2) := (blk_cell BK123.out 2).trans rfl; have hfz8_0 := blk_frozen BK123.out 0; have hfz8_1 := blk_frozen BK123.out 1; have hfz8_2 := blk_frozen BK123.out 2; have hcz9_0 : w6.cell? ⟨gb124, 0, none⟩ = some (.int .i64 a1_0) := (blk_cell BK124.out 0).trans rfl; have hcz9_1 : w6.cell? ⟨gb124, 1, none⟩ = some (.int .i64 a1_1) := (blk_cell BK124.out 1).trans rfl; have hcz9_2 : w6.cell? ⟨gb124, 2, none⟩ = some (.string a1_2) := (blk_cell BK124.out 2).trans rfl; have hfz9_0 := blk_frozen BK124.out 0; have hfz9_1 := blk_frozen BK124.out 1; have hfz9_2 := blk_frozen BK124.out 2))
      go_ret
      exact ⟨by first | rfl | (simp [errW_none, errW_some] <;> rfl) | (simp [*, errW_none, errW_some] <;> rfl), by repeat (first | (with_reducible first | exact HB.out | apply below_alloc | apply pw_below_drewN | apply below_drew1 | refine below_set ?_ GE123.out | refine below_set ?_ GE124.out) | exact HB.out)⟩
    · rw [if_neg c4] at H
      have c4b0 : (a0_1 == a1_1) = false := beq_eq_false_iff_ne.mpr c4
      have c4b1 : (a0_1 != a1_1) = true := bne_iff_ne.mpr c4
      obtain rfl := Option.some.inj H
      go_enter Tryd.func14, Tryd.ntmps14
      go_wp2_with (first | ((with_reducible refine gate_dst (N := 2) rfl ?_); refine box_event ?hg (N := 2) ?hd (cs := #[.int .i64 a0_0, .int .i64 a0_1, .string a0_2]) (t := 23) ?hr ?_; (case hd => rfl); (case hg => rfl); (case hr => first | (go_simp; done) | (go_simp; rfl)); intro gb123 hg w10 hbox hb; have n0_ := Aside0.mk (below_step (by repeat (first | (with_reducible first | exact HB.out | apply below_alloc | apply pw_below_drewN | apply below_drew1) | exact HB.out)) hb); have n1_ := Aside0.mk (hbox); have n2_ := Aside0.mk ((by rw [hg]; exact (below_size (by repeat (first | (with_reducible first | exact HB.out | apply below_alloc | apply pw_below_drewN | apply below_drew1) | exact HB.out))) : w.heap.size ≤ gb123)); have n3_ := Aside0.mk ((by rw [hg]; exact (below_size (by repeat (first | (with_reducible first | exact HB.out | apply below_alloc | apply pw_below_drewN | apply below_drew1) | exact HB.out))) : w.heap.size ≤ gb123)); clear HB; have HB := n0_; have BK123 := n1_; have GW123 := n2_; have GE123 := n3_; clear n0_ n1_ n2_ n3_; clear hb hbox hg) | ((with_reducible refine gate_dst (N := 3) rfl ?_); refine box_event ?hg (N := 3) ?hd (cs := #[.int .i64 a1_0, .int .i64 a1_1, .string a1_2]) (t := 23) ?hr ?_; (case hd => rfl); (case hg => rfl); (case hr => first | (go_simp; done) | (go_simp; rfl)); intro gb124 hg w11 hbox hb; have n0_ := Aside0.mk (blk_below (g := gb123) (o := .cells #[.int .i64 a0_0, .int .i64 a0_1, .string a0_2] 23 (0, 0)) (by (with_reducible repeat (first | refine blk_drewN ?_ _ | refine blk_drew ?_ | refine blk_alloc ?_ _)); exact BK123.out) hb); have n1_ := Aside0.mk (below_step (by repeat (first | (with_reducible first | exact HB.out | apply below_alloc | apply pw_below_drewN | apply below_drew1 | refine below_set ?_ GE123.out) | exact HB.out)) hb); have n2_ := Aside0.mk (hbox); have n3_ := Aside0.mk ((by rw [hg]; exact (below_size (by repeat (first | (with_reducible first | exact HB.out | apply below_alloc | apply pw_below_drewN | apply below_drew1 | refine below_set ?_ GE123.out) | exact HB.out))) : w.heap.size ≤ gb124)); have n4_ := Aside0.mk ((by rw [hg]; exact (below_size (by repeat (first | (with_reducible first | exact HB.out | apply below_alloc | apply pw_below_drewN | apply below_drew1 | refine below_set ?_ GE123.out) | exact HB.out))) : w.heap.size ≤ gb124)); have n5_ := Aside0.mk ((by rw [hg]; exact Nat.ne_of_lt (blk_lt (g := gb123) (o := .cells #[.int .i64 a0_0, .int .i64 a0_1, .string a0_2] 23 (0, 0)) (by (with_reducible repeat (first | refine blk_drewN ?_ _ | refine blk_drew ?_ | refine blk_alloc ?_ _)); exact BK123.out)) : gb123 ≠ gb124)); have n6_ := Aside0.mk ((by rw [hg]; exact Nat.ne_of_gt (blk_lt (g := gb123) (o := .cells #[.int .i64 a0_0, .int .i64 a0_1, .string a0_2] 23 (0, 0)) (by (with_reducible repeat (first | refine blk_drewN ?_ _ | refine blk_drew ?_ | refine blk_alloc ?_ _)); exact BK123.out)) : gb124 ≠ gb123)); clear BK123; clear HB; have BK123 := n0_; have HB := n1_; have BK124 := n2_; have GW124 := n3_; have GE124 := n4_; have NB123_124 := n5_; have NB124_123 := n6_; clear n0_ n1_ n2_ n3_ n4_ n5_ n6_; clear hb hbox hg; have hnb12 := NB123_124.out; have hnc12 := NB124_123.out; have hcz13_0 : w11.cell? ⟨gb123, 0, none⟩ = some (.int .i64 a0_0) := (blk_cell BK123.out 0).trans rfl; have hcz13_1 : w11.cell? ⟨gb123, 1, none⟩ = some (.int .i64 a0_1) := (blk_cell BK123.out 1).trans rfl; have hcz13_2 : w11.cell? ⟨gb123, 2, none⟩ = some (.string a0_2) := (blk_cell BK123.out 2).trans rfl; have hfz13_0 := blk_frozen BK123.out 0; have hfz13_1 := blk_frozen BK123.out 1; have hfz13_2 := blk_frozen BK123.out 2; have hcz14_0 : w11.cell? ⟨gb124, 0, none⟩ = some (.int .i64 a1_0) := (blk_cell BK124.out 0).trans rfl; have hcz14_1 : w11.cell? ⟨gb124, 1, none⟩ = some (.int .i64 a1_1) := (blk_cell BK124.out 1).trans rfl; have hcz14_2 : w11.cell? ⟨gb124, 2, none⟩ = some (.string a1_2) := (blk_cell BK124.out 2).trans rfl; have hfz14_0 := blk_frozen BK124.out 0; have hfz14_1 := blk_frozen BK124.out 1; have hfz14_2 := blk_frozen BK124.out 2))
      go_ret
      exact ⟨by first | rfl | (simp [errW_none, errW_some] <;> rfl) | (simp [*, errW_none, errW_some] <;> rfl), by repeat (first | (with_reducible first | exact HB.out | apply below_alloc | apply pw_below_drewN | apply below_drew1 | refine below_set ?_ GE123.out | refine below_set ?_ GE124.out) | exact HB.out)⟩
  · rw [if_neg c3] at H
    have c3b0 : (a0_0 == a1_0) = false := beq_eq_false_iff_ne.mpr c3
    have c3b1 : (a0_0 != a1_0) = true := bne_iff_ne.mpr c3
    obtain rfl := Option.some.inj H
    go_enter Tryd.func14, Tryd.ntmps14
    go_wp2_with (first | ((with_reducible refine gate_dst (N := 2) rfl ?_); refine box_event ?hg (N := 2) ?hd (cs := #[.int .i64 a0_0, .int .i64 a0_1, .string a0_2]) (t := 23) ?hr ?_; (case hd => rfl); (case hg => rfl); (case hr => first | (go_simp; done) | (go_simp; rfl)); intro gb123 hg w15 hbox hb; have n0_ := Aside0.mk (below_step (by repeat (first | (with_reducible first | exact HB.out | apply below_alloc | apply pw_below_drewN | apply below_drew1) | exact HB.out)) hb); have n1_ := Aside0.mk (hbox); have n2_ := Aside0.mk ((by rw [hg]; exact (below_size (by repeat (first | (with_reducible first | exact HB.out | apply below_alloc | apply pw_below_drewN | apply below_drew1) | exact HB.out))) : w.heap.size ≤ gb123)); have n3_ := Aside0.mk ((by rw [hg]; exact (below_size (by repeat (first | (with_reducible first | exact HB.out | apply below_alloc | apply pw_below_drewN | apply below_drew1) | exact HB.out))) : w.heap.size ≤ gb123)); clear HB; have HB := n0_; have BK123 := n1_; have GW123 := n2_; have GE123 := n3_; clear n0_ n1_ n2_ n3_; clear hb hbox hg) | ((with_reducible refine gate_dst (N := 3) rfl ?_); refine box_event ?hg (N := 3) ?hd (cs := #[.int .i64 a1_0, .int .i64 a1_1, .string a1_2]) (t := 23) ?hr ?_; (case hd => rfl); (case hg => rfl); (case hr => first | (go_simp; done) | (go_simp; rfl)); intro gb124 hg w16 hbox hb; have n0_ := Aside0.mk (blk_below (g := gb123) (o := .cells #[.int .i64 a0_0, .int .i64 a0_1, .string a0_2] 23 (0, 0)) (by (with_reducible repeat (first | refine blk_drewN ?_ _ | refine blk_drew ?_ | refine blk_alloc ?_ _)); exact BK123.out) hb); have n1_ := Aside0.mk (below_step (by repeat (first | (with_reducible first | exact HB.out | apply below_alloc | apply pw_below_drewN | apply below_drew1 | refine below_set ?_ GE123.out) | exact HB.out)) hb); have n2_ := Aside0.mk (hbox); have n3_ := Aside0.mk ((by rw [hg]; exact (below_size (by repeat (first | (with_reducible first | exact HB.out | apply below_alloc | apply pw_below_drewN | apply below_drew1 | refine below_set ?_ GE123.out) | exact HB.out))) : w.heap.size ≤ gb124)); have n4_ := Aside0.mk ((by rw [hg]; exact (below_size (by repeat (first | (with_reducible first | exact HB.out | apply below_alloc | apply pw_below_drewN | apply below_drew1 | refine below_set ?_ GE123.out) | exact HB.out))) : w.heap.size ≤ gb124)); have n5_ := Aside0.mk ((by rw [hg]; exact Nat.ne_of_lt (blk_lt (g := gb123) (o := .cells #[.int .i64 a0_0, .int .i64 a0_1, .string a0_2] 23 (0, 0)) (by (with_reducible repeat (first | refine blk_drewN ?_ _ | refine blk_drew ?_ | refine blk_alloc ?_ _)); exact BK123.out)) : gb123 ≠ gb124)); have n6_ := Aside0.mk ((by rw [hg]; exact Nat.ne_of_gt (blk_lt (g := gb123) (o := .cells #[.int .i64 a0_0, .int .i64 a0_1, .string a0_2] 23 (0, 0)) (by (with_reducible repeat (first | refine blk_drewN ?_ _ | refine blk_drew ?_ | refine blk_alloc ?_ _)); exact BK123.out)) : gb124 ≠ gb123)); clear BK123; clear HB; have BK123 := n0_; have HB := n1_; have BK124 := n2_; have GW124 := n3_; have GE124 := n4_; have NB123_124 := n5_; have NB124_123 := n6_; clear n0_ n1_ n2_ n3_ n4_ n5_ n6_; clear hb hbox hg; have hnb17 := NB123_124.out; have hnc17 := NB124_123.out; have hcz18_0 : w16.cell? ⟨gb123, 0, none⟩ = some (.int .i64 a0_0) := (blk_cell BK123.out 0).trans rfl; have hcz18_1 : w16.cell? ⟨gb123, 1, none⟩ = some (.int .i64 a0_1) := (blk_cell BK123.out 1).trans rfl; have hcz18_2 : w16.cell? ⟨gb123, 2, none⟩ = some (.string a0_2) := (blk_cell BK123.out 2).trans rfl; have hfz18_0 := blk_frozen BK123.out 0; have hfz18_1 := blk_frozen BK123.out 1; have hfz18_2 := blk_frozen BK123.out 2; have hcz19_0 : w16.cell? ⟨gb124, 0, none⟩ = some (.int .i64 a1_0) := (blk_cell BK124.out 0).trans rfl; have hcz19_1 : w16.cell? ⟨gb124, 1, none⟩ = some (.int .i64 a1_1) := (blk_cell BK124.out 1).trans rfl; have hcz19_2 : w16.cell? ⟨gb124, 2, none⟩ = some (.string a1_2) := (blk_cell BK124.out 2).trans rfl; have hfz19_0 := blk_frozen BK124.out 0; have hfz19_1 := blk_frozen BK124.out 1; have hfz19_2 := blk_frozen BK124.out 2))
    go_ret
    exact ⟨by first | rfl | (simp [errW_none, errW_some] <;> rfl) | (simp [*, errW_none, errW_some] <;> rfl), by repeat (first | (with_reducible first | exact HB.out | apply below_alloc | apply pw_below_drewN | apply below_drew1 | refine below_set ?_ GE123.out | refine below_set ?_ GE124.out) | exact HB.out)⟩
end Go.Proofs.YthhgfdejadbigaaDoor.GA
/-
  Chapter 9: less, as one Bool.
-/
set_option linter.unusedVariables false
set_option linter.unusedSimpArgs false
namespace Go.Proofs.YthhgfdejadbigaaDoor.GA
open Go.RowKit Go.Proofs.YthhgfdejadbigaaDoorW.PrintWords Go.Proofs.YthhgfdejadbigaaDoorW.PrintLast Go.Proofs.YthhgfdejadbigaaDoorW.PrintMore
def lessG (a0 a1 : Int) (a2 : List UInt8) (b0 b1 : Int) (b2 : List UInt8) : Bool := if a0 = b0 then (if a1 = b1 then Op.bytesLess a2 b2 else decide (a1 < b1)) else decide (a0 < b0)
theorem less_f (a0 a1 : Int) (a2 : ByteArray) (b0 b1 : Int) (b2 : ByteArray) : value_Less.f a0 a1 a2 b0 b1 b2 = some (lessG a0 a1 a2.toList b0 b1 b2.toList) := by
  unfold value_Less.f lessG
  split <;> (try split) <;> rfl
theorem bl_total {a b : List UInt8} (h1 : Op.bytesLess a b = false) (h2 : Op.bytesLess b a = false) : a = b := by
  have h := Base.lessS_total (a := Base.ofL a) (b := Base.ofL b) (by unfold Base.lessS; rw [Base.toList_toL, Base.toList_toL]; simpa using h1) (by unfold Base.lessS; rw [Base.toList_toL, Base.toList_toL]; simpa using h2)
  have h3 := congrArg Base.toL h
  simpa using h3
theorem lessG_irrefl (a0 a1 : Int) (a2 : List UInt8) : lessG a0 a1 a2 a0 a1 a2 = false := by
  unfold lessG; rw [if_pos rfl, if_pos rfl]; exact Base.bl_irrefl _
theorem lessG_trans {a0 a1 b0 b1 c0 c1 : Int} {a2 b2 c2 : List UInt8} (h1 : lessG a0 a1 a2 b0 b1 b2 = true) (h2 : lessG b0 b1 b2 c0 c1 c2 = true) : lessG a0 a1 a2 c0 c1 c2 = true := by
  unfold lessG at *
  by_cases e1 : a0 = b0
  · subst e1
    rw [if_pos rfl] at h1
    by_cases e2 : a0 = c0
    · subst e2
      rw [if_pos rfl] at h2 ⊢
      by_cases f1 : a1 = b1
      · subst f1
        rw [if_pos rfl] at h1
        by_cases f2 : a1 = c1
        · subst f2
          rw [if_pos rfl] at h2 ⊢
          exact Base.bl_trans _ _ _ h1 h2
        · rw [if_neg f2] at h2 ⊢; exact h2
      · rw [if_neg f1] at h1
        have h1 := of_decide_eq_true h1
        by_cases f2 : b1 = c1
        · subst f2; rw [if_neg f1]; exact decide_eq_true h1
        · rw [if_neg f2] at h2
          have h2 := of_decide_eq_true h2
          rw [if_neg (by omega)]; exact decide_eq_true (by omega)
    · rw [if_neg e2] at h2 ⊢; exact h2
  · rw [if_neg e1] at h1
    have h1 := of_decide_eq_true h1
    by_cases e2 : b0 = c0
    · subst e2; rw [if_neg e1]; exact decide_eq_true h1
    · rw [if_neg e2] at h2
      have h2 := of_decide_eq_true h2
      rw [if_neg (by omega)]; exact decide_eq_true (by omega)
theorem lessG_total {a0 a1 b0 b1 : Int} {a2 b2 : List UInt8} (h1 : lessG a0 a1 a2 b0 b1 b2 = false) (h2 : lessG b0 b1 b2 a0 a1 a2 = false) : a0 = b0 ∧ a1 = b1 ∧ a2 = b2 := by
  unfold lessG at *
  by_cases e1 : a0 = b0
  · subst e1
    rw [if_pos rfl] at h1 h2
    by_cases f1 : a1 = b1
    · subst f1
      rw [if_pos rfl] at h1 h2
      exact ⟨rfl, rfl, bl_total h1 h2⟩
    · rw [if_neg f1] at h1
      rw [if_neg (Ne.symm f1)] at h2
      have := of_decide_eq_false h1; have := of_decide_eq_false h2; omega
  · rw [if_neg e1] at h1
    rw [if_neg (Ne.symm e1)] at h2
    have := of_decide_eq_false h1; have := of_decide_eq_false h2; omega
theorem neG (a0 a1 : Int) (a2 : ByteArray) (b0 b1 : Int) (b2 : ByteArray) : (!(a0 == b0) || (!(a1 == b1) || (!(a2.toList == b2.toList)))) = !decide (a0 = b0 ∧ a1 = b1 ∧ a2.toList = b2.toList) := by
  rw [Bool.eq_iff_iff]
  simp
end Go.Proofs.YthhgfdejadbigaaDoor.GA
/-
  Chapter 9: what the references print, as plain functions: bytes, texts, less at any size.
-/
set_option linter.unusedVariables false
set_option linter.unusedSimpArgs false
namespace Go.Proofs.YthhgfdejadbigaaDoor.GA
open Go.RowKit Go.Proofs.YthhgfdejadbigaaDoorW.PrintWords Go.Proofs.YthhgfdejadbigaaDoorW.PrintLast Go.Proofs.YthhgfdejadbigaaDoorW.PrintMore
open Go.Proofs.Base (toL ofL ofN toL_inj toL_append ofN_size app_size)
theorem str1 {x : Int} {n : Nat} (h : x % 256 = (n : Int)) : strOfNums [x % 256] = ofN [n] := by
  rw [h]
  rfl
theorem bytes_f {k n : Int} {s : ByteArray} (hn : Base.i64 n) (hs : Base.okS s) : wherryref09_Bytes.f k n s = some (Base.valB k n s) := by
  unfold wherryref09_Bytes.f Base.valB
  rw [may_f]
  simp only [Option.bind_some]
  cases hm : Base.mayV k n s with
  | false => rw [if_neg Bool.false_ne_true, if_neg Bool.false_ne_true]; rfl
  | true =>
    obtain ⟨hk, h1024⟩ := Base.mayV_k hm
    rw [if_pos rfl, if_pos rfl]
    by_cases h3 : k = 3
    · subst h3
      have hsz := Base.textB_size (s := s) hs
      unfold wherryref01_Text.f
      rw [if_pos rfl, if_pos (show s.size ≤ 140737488351232 from hs)]
      simp only [Option.bind_some]
      rw [if_pos (by omega), if_pos trivial]
      rfl
    · have hsz := Base.intB_size hn.1 hn.2
      unfold wherryref01_Int.f
      rw [if_neg h3, if_neg h3, if_pos (show -9223372036854775808 ≤ n ∧ n ≤ 9223372036854775807 from hn)]
      simp only [Option.bind_some]
      rw [str1 (n := k.toNat) (by omega), if_pos (by rw [ofN_size]; simp; omega)]
theorem vars_l0 (l : List (S60)) (hw : wfL l) (hm : ∀ x ∈ l, Base.named x.f0 = true ∧ (toVar x).v.may = true) (h16 : l.length ≤ 16) : ∀ (d k i : Nat) (acc : ByteArray), l.length - i = d → i ≤ l.length → d + 1 ≤ k → acc.size + 2000 * d ≤ 1000000 →
    wherryref09_VarsBytes.l0 k l acc (i : Int) = some (acc ++ Base.varsCat ((l.map toVar).drop i)) := by
  intro d
  induction d with
  | zero =>
    intro k i acc hd h1 hk hsz
    obtain ⟨k, rfl⟩ : ∃ m, k = m + 1 := ⟨k - 1, by omega⟩
    simp only [wherryref09_VarsBytes.l0]
    rw [if_neg (by omega), List.drop_eq_nil_of_le (by simp; omega)]
    exact congrArg some (Base.app_empty _).symm
  | succ d ih =>
    intro k i acc hd h1 hk hsz
    obtain ⟨k, rfl⟩ : ∃ m, k = m + 1 := ⟨k - 1, by omega⟩
    have hi : i < l.length := by omega
    obtain ⟨w1, w2, w3, w4⟩ := hw l[i] (List.getElem_mem hi)
    obtain ⟨m1, m2⟩ := hm l[i] (List.getElem_mem hi)
    have hdr : (l.map toVar).drop i = toVar l[i] :: (l.map toVar).drop (i + 1) := by
      rw [List.drop_eq_getElem_cons (by simpa using hi)]; simp
    have ht := Base.textB_size (s := l[i].f0) w1
    have h32 := (Base.named_size m1).1
    have hv := Base.valB_size (k := l[i].f1.f0) (n := l[i].f1.f1) (s := l[i].f1.f2) w3 m2
    simp only [wherryref09_VarsBytes.l0]
    rw [if_pos (by omega), if_pos (by omega), rdT hi]
    unfold wherryref01_Text.f
    rw [if_pos (show l[i].f0.size ≤ 140737488351232 from w1)]
    simp only [Option.bind_some]
    rw [if_pos (by omega), bytes_f (k := l[i].f1.f0) (n := l[i].f1.f1) (s := l[i].f1.f2) w3 w4]
    simp only [Option.bind_some]
    rw [if_pos (by rw [app_size]; omega), wrap_nat hi (by omega), ih k (i + 1) _ (by omega) (by omega) (by omega) (by rw [app_size, app_size]; omega), hdr]
    show some _ = some (acc ++ ((Base.textB l[i].f0 ++ Base.valB l[i].f1.f0 l[i].f1.f1 l[i].f1.f2) ++ Base.varsCat _))
    rw [Base.app_assoc, Base.app_assoc, Base.app_assoc]
theorem vars_k {l : List (S60)} (hw : wfL l) {k : Nat} (hk : 200 ≤ k) : wherryref09_VarsBytes.f k l = some (Base.varsB (l.map toVar)) := by
  unfold wherryref09_VarsBytes.f Base.varsB
  rw [right_k (fun x hx => by have := (hw x hx).1; unfold Base.okS at this; show x.f0.size ≤ _; exact Nat.le_trans this (by omega)) hk]
  simp only [Option.bind_some]
  cases hr : Base.rightV (l.map toVar) with
  | false => rw [if_neg Bool.false_ne_true, if_neg Bool.false_ne_true]; rfl
  | true =>
    obtain ⟨h16, hall⟩ := Base.rightV_all hr
    rw [List.length_map] at h16
    rw [if_pos rfl, if_pos rfl]
    have hwr : IntKind.u64.wrap (l.length : Int) = (l.length : Int) := by
      have : IntKind.u64.wrap (l.length : Int) = (l.length : Int) % 18446744073709551616 := by simp [IntKind.wrap, IntKind.bits, IntKind.signed]
      omega
    have hu := Base.uintB_size (v := l.length) (by omega)
    unfold wherryref01_Uint.f
    rw [hwr, if_pos (by omega)]
    simp only [Option.bind_some]
    have h := vars_l0 l hw (fun x hx => hall (toVar x) (List.mem_map_of_mem hx)) h16 l.length k 0 (Base.uintB l.length) (by omega) (by omega) (by omega) (by omega)
    rw [Int.toNat_natCast]
    rw [List.length_map]
    simpa using h
theorem less_any {a b : ByteArray} {k : Nat} (ha : a.size ≤ 9223372036854775807) (hk : 2 * a.size + 2 ≤ k) : wherryref02_Less.f k a b = some (Op.bytesLess a.toList b.toList) := by
  unfold wherryref02_Less.f
  have h := less_l0 a b ha a.size k 0 (by omega) (by omega) (by omega) (by omega)
  rw [Base.toList_toL, Base.toList_toL]
  simpa using h
theorem refless_f {a0 a1 b0 b1 : Int} {a2 b2 : ByteArray} {k : Nat} (ha : a2.size ≤ 9223372036854775807) (hk : 2 * a2.size + 2 ≤ k) : wherryref09_Less.f k a0 a1 a2 b0 b1 b2 = some (lessG a0 a1 a2.toList b0 b1 b2.toList) := by
  unfold wherryref09_Less.f lessG
  split
  · split
    · rw [less_any ha hk]; rfl
    · rfl
  · rfl
theorem ofL1 (n : Nat) : ofL [UInt8.ofNat n] = ofN [n] := rfl
theorem ofL_snoc (l : List UInt8) (n : Nat) : ofL (l ++ [UInt8.ofNat n]) = ofL l ++ ofN [n] := toL_inj (by rw [toL_append]; simp [ofN])
theorem dec_fin (u k : Nat) (y : Int) (acc d : ByteArray) (m : Bool) (hds : d.size = 1) (hd : d = ofN [48 + u % 10]) (hsz : acc.size + Lib.nDigits u ≤ 100000) (hya : y.natAbs = u / 10)
    (ih : ¬ u < 10 → wherryref09_decimal.l0 k y (d ++ acc) m = some ((if m = true then (⟨#[45]⟩ : ByteArray) else ByteArray.empty) ++ (ofL (Lib.decDigits (u / 10)) ++ (d ++ acc)))) :
    (if d.size + acc.size ≤ 9223372036854775807 then (if y = 0 then (if m = true then (if 1 + (d ++ acc).size ≤ 9223372036854775807 then (some ((⟨#[45]⟩ : ByteArray) ++ (d ++ acc))) else (none)) else (some (d ++ acc))) else (wherryref09_decimal.l0 k y (d ++ acc) m)) else (none)) = some ((if m = true then (⟨#[45]⟩ : ByteArray) else ByteArray.empty) ++ (ofL (Lib.decDigits u) ++ acc)) := by
  have h1 : d.size + acc.size ≤ 9223372036854775807 := by omega
  have h2 : 1 + (d ++ acc).size ≤ 9223372036854775807 := by rw [app_size]; omega
  rw [if_pos h1]
  by_cases hu : u < 10
  · have hdd : ofL (Lib.decDigits u) = d := by
      rw [Lib.decDigits, dif_pos hu, hd, Nat.mod_eq_of_lt hu, ofL1]
    have hy0 : y = 0 := by omega
    rw [if_pos hy0, hdd]
    cases m with
    | true => rw [if_pos rfl, if_pos h2, if_pos rfl]
    | false => rw [if_neg Bool.false_ne_true, if_neg Bool.false_ne_true, Base.empty_app]
  · have hdd : ofL (Lib.decDigits u) = ofL (Lib.decDigits (u / 10)) ++ d := by
      rw [Lib.decDigits, dif_neg hu, hd, ofL_snoc]
    have hy0 : ¬ y = 0 := by omega
    rw [if_neg hy0, ih hu, hdd, Base.app_assoc (ofL _)]
theorem dec_div {u : Nat} {x : Int} (hx : x.natAbs = u) (h0 : -9223372036854775808 ≤ x) (h1 : x ≤ 9223372036854775807) : ∃ y : Int, wrap64 (Int.tdiv x 10) = y ∧ y.natAbs = u / 10 ∧ -9223372036854775808 ≤ y ∧ y ≤ 9223372036854775807 := by
  rcases Int.natAbs_eq x with h | h
  · rw [hx] at h
    refine ⟨((u / 10 : Nat) : Int), ?_, by omega, by omega, by omega⟩
    rw [h, show Int.tdiv (u : Int) 10 = ((u / 10 : Nat) : Int) from rfl]
    unfold wrap64; omega
  · rw [hx] at h
    refine ⟨-((u / 10 : Nat) : Int), ?_, by omega, by omega, by omega⟩
    rw [h, Int.neg_tdiv, show Int.tdiv (u : Int) 10 = ((u / 10 : Nat) : Int) from rfl]
    unfold wrap64; omega
theorem dec_mod {u : Nat} {x : Int} (hx : x.natAbs = u) : (Int.tmod x 10 < 0 ∧ wrap64 (48 + wrap64 (-(Int.tmod x 10))) % 256 = ((48 + u % 10 : Nat) : Int)) ∨ (¬ Int.tmod x 10 < 0 ∧ wrap64 (48 + Int.tmod x 10) % 256 = ((48 + u % 10 : Nat) : Int)) := by
  rcases Int.natAbs_eq x with h | h
  · rw [hx] at h
    refine .inr ?_
    rw [h, show Int.tmod (u : Int) 10 = ((u % 10 : Nat) : Int) from rfl]
    exact ⟨by omega, by unfold wrap64; omega⟩
  · rw [hx] at h
    rw [h, Int.neg_tmod, show Int.tmod (u : Int) 10 = ((u % 10 : Nat) : Int) from rfl]
    by_cases hz : u % 10 = 0
    · exact .inr ⟨by omega, by unfold wrap64; omega⟩
    · exact .inl ⟨by omega, by unfold wrap64; omega⟩
theorem dec_l0 : ∀ (u k : Nat) (x : Int) (acc : ByteArray) (m : Bool), x.natAbs = u → -9223372036854775808 ≤ x → x ≤ 9223372036854775807 → Lib.nDigits u ≤ k → acc.size + Lib.nDigits u ≤ 100000 →
    wherryref09_decimal.l0 k x acc m = some ((if m = true then (⟨#[45]⟩ : ByteArray) else ByteArray.empty) ++ (ofL (Lib.decDigits u) ++ acc)) := by
  intro u
  induction u using Nat.strongRecOn with
  | _ u ih =>
    intro k x acc m hx h0 h1 hk hsz
    have hp := Lib.nDigits_pos u
    obtain ⟨k, rfl⟩ : ∃ j, k = j + 1 := ⟨k - 1, by omega⟩
    obtain ⟨y, hy, hya, hy0, hy1⟩ := dec_div hx h0 h1
    have hs1 : (ofN [48 + u % 10]).size = 1 := by rw [ofN_size]; rfl
    have hih : ¬ u < 10 → wherryref09_decimal.l0 k y (ofN [48 + u % 10] ++ acc) m = some ((if m = true then (⟨#[45]⟩ : ByteArray) else ByteArray.empty) ++ (ofL (Lib.decDigits (u / 10)) ++ (ofN [48 + u % 10] ++ acc))) := by
      intro hu
      have hn := Lib.nDigits_big hu
      exact ih (u / 10) (by omega) k y _ m hya hy0 hy1 (by omega) (by rw [app_size]; omega)
    have hfin := dec_fin u k y acc (ofN [48 + u % 10]) m hs1 rfl hsz hya hih
    simp only [wherryref09_decimal.l0]
    rw [hy]
    rcases dec_mod hx with ⟨hc, hd⟩ | ⟨hc, hd⟩
    · rw [if_pos hc]
      simp only [Option.bind_some]
      rw [str1 hd]
      exact hfin
    · rw [if_neg hc]
      simp only [Option.bind_some]
      rw [str1 hd]
      exact hfin
theorem nDigits_le {u : Nat} (h : u ≤ 9223372036854775808) : Lib.nDigits u ≤ 19 := by
  refine Nat.le_of_not_lt fun hlt => ?_
  have h1 : ∀ (k v : Nat), k + 1 < Lib.nDigits v → 10 ^ (k + 1) ≤ v := by
    intro k
    induction k with
    | zero =>
      intro v hv
      by_cases h10 : v < 10
      · rw [Lib.nDigits_small h10] at hv; omega
      · simpa using h10
    | succ k ih =>
      intro v hv
      by_cases h10 : v < 10
      · rw [Lib.nDigits_small h10] at hv; omega
      · rw [Lib.nDigits_big h10] at hv
        have := ih (v / 10) (by omega)
        rw [Nat.pow_succ]; omega
  have := h1 18 u (by omega)
  have e : (10 : Nat) ^ 19 = 10000000000000000000 := by decide
  omega
theorem dec_f {n : Int} {k : Nat} (hn : Base.i64 n) (hk : 20 ≤ k) : wherryref09_decimal.f k n = some (Base.intT n) := by
  unfold wherryref09_decimal.f
  have hd := nDigits_le (u := n.natAbs) (by have := hn.1; have := hn.2; omega)
  rw [dec_l0 n.natAbs k n _ _ rfl hn.1 hn.2 (by omega) (by have : (⟨#[]⟩ : ByteArray).size = 0 := rfl; omega)]
  refine congrArg some (toL_inj ?_)
  rw [toL_append, toL_append]
  show _ ++ (_ ++ []) = Lib.itoa n
  unfold Lib.itoa
  by_cases h : n < 0
  · rw [if_pos h, if_pos (by simpa using h)]; simp; rfl
  · rw [if_neg h, if_neg (by simpa using h)]
    have : n.natAbs = n.toNat := by omega
    rw [this]; simp; rfl
theorem show_l0 (s : ByteArray) (hs : s.size ≤ 1024) (a b : Int) : ∀ (d k i : Nat) (acc : ByteArray), s.size - i = d → i ≤ s.size → 2 * d + 2 ≤ k → acc.size + 4 * d ≤ 100000 →
    wherryref09_Show.l0 k acc (i : Int) a b s = some (acc ++ Base.escAll ((toL s).drop i) ++ Base.b1 34) := by
  intro d
  induction d with
  | zero =>
    intro k i acc hd h1 hk hsz
    obtain ⟨k, rfl⟩ : ∃ m, k = m + 1 := ⟨k - 1, by omega⟩
    simp only [wherryref09_Show.l0]
    rw [if_neg (by omega), if_pos (by omega), drop_end (show s.size ≤ i by omega)]
    exact congrArg some (congrArg (· ++ Base.b1 34) (Base.app_empty acc).symm)
  | succ d ih =>
    intro k i acc hd h1 hk hsz
    obtain ⟨k, rfl⟩ : ∃ m, k = m + 1 + 1 := ⟨k - 2, by omega⟩
    have hi : i < s.size := by omega
    have hb := s[i].toNat_lt
    have hcut : s.extract ((i : Int)).toNat (((i + 1 : Nat) : Int)).toNat = Base.b1 s[i].toNat := by
      rw [Int.toNat_natCast, Int.toNat_natCast]
      refine toL_inj ?_
      show (s.extract i (i + 1)).data.toList = _
      rw [ByteArray.data_extract, Array.toList_extract, List.extract_eq_take_drop]
      have hdr := drop_at hi
      show List.take (i + 1 - i) (List.drop i (toL s)) = _
      rw [hdr, show i + 1 - i = 1 by omega]
      simp [Base.b1, Base.toL_ofN]
    have hgo : ∀ acc' : ByteArray, acc'.size ≤ acc.size + 4 → wherryref09_Show.l0 k acc' (wrap64 ((i : Int) + 1)) a b s = some (acc' ++ Base.escAll ((toL s).drop (i + 1)) ++ Base.b1 34) := by
      intro acc' h
      rw [wrap_nat hi (by omega)]
      exact ih k (i + 1) acc' (by omega) (by omega) (by omega) (by omega)
    have hfin : ∀ e : ByteArray, e = Base.escB s[i].toNat → some ((acc ++ e) ++ Base.escAll ((toL s).drop (i + 1)) ++ Base.b1 34) = some (acc ++ Base.escAll ((toL s).drop i) ++ Base.b1 34) := by
      intro e he
      rw [drop_at hi, he, Base.app_assoc acc]
      rfl
    simp only [wherryref09_Show.l0]
    rw [if_pos (by omega), if_pos (by omega), wrap_nat hi (by omega), if_pos (by omega), if_pos (by omega), bt_nat hi, hcut]
    generalize s[i].toNat = c at hb hfin
    clear hcut
    have h1s : (Base.b1 c).size = 1 := by unfold Base.b1; rw [ofN_size]; rfl
    have hlow : ∀ q : ByteArray, (if c = 34 ∨ c = 92 then False else (c < 32 ∨ 126 < c)) → q = (⟨#[92, 120]⟩ : ByteArray) ++ Base.hexB c → q = Base.escB c := by
      intro q hq e
      split at hq
      · exact hq.elim
      · rename_i hn
        unfold Base.escB
        rw [if_neg hn, if_pos hq, e]
        exact toL_inj (by rw [toL_append]; rfl)
    have hhex : wherryref09_hex.f (c : Int) = some (Base.hexB c) := by
      unfold wherryref09_hex.f; rw [if_pos (by omega)]; rfl
    have hhs : (Base.hexB c).size = 2 := by unfold Base.hexB; rw [ofN_size]; rfl
    have h2s : (⟨#[92, 120]⟩ : ByteArray).size = 2 := rfl
    have h3s : (⟨#[92]⟩ : ByteArray).size = 1 := rfl
    have hj : ∀ f : Bool, f = decide (c = 34 ∨ c = 92) → wherryref09_Show.j1 (k + 1) acc (i : Int) (c : Int) (Base.b1 c) f a b s = some (acc ++ Base.escAll ((toL s).drop i) ++ Base.b1 34) := by
      intro f hf
      simp only [wherryref09_Show.j1]
      by_cases hq : c = 34 ∨ c = 92
      · rw [if_pos (by rw [hf]; exact decide_eq_true hq), if_pos (by omega), if_neg (by omega), if_neg (by omega), if_pos (by rw [app_size]; omega), hgo _ (by rw [app_size, app_size]; omega)]
        refine hfin _ ?_
        unfold Base.escB
        rw [if_pos hq]
        exact toL_inj (by rw [toL_append]; rfl)
      · rw [if_neg (by rw [hf]; simpa using hq)]
        by_cases hp : c < 32
        · rw [if_pos (by omega), hhex]
          simp only [Option.bind_some]
          rw [if_pos (by omega), if_pos (by rw [app_size]; omega), hgo _ (by rw [app_size, app_size]; omega)]
          exact hfin _ (hlow _ (by rw [if_neg hq]; exact .inl hp) rfl)
        · rw [if_neg (by omega)]
          by_cases hp2 : 126 < c
          · rw [if_pos (by omega), hhex]
            simp only [Option.bind_some]
            rw [if_pos (by omega), if_pos (by rw [app_size]; omega), hgo _ (by rw [app_size, app_size]; omega)]
            exact hfin _ (hlow _ (by rw [if_neg hq]; exact .inr hp2) rfl)
          · rw [if_neg (by omega), if_pos (by omega), hgo _ (by rw [app_size]; omega)]
            refine hfin _ ?_
            unfold Base.escB
            rw [if_neg hq, if_neg (by omega)]
    by_cases hc : c = 34
    · rw [if_pos (by omega)]
      exact hj true (by simp [hc])
    · rw [if_neg (by omega)]
      refine hj _ ?_
      rw [Bool.eq_iff_iff, beq_iff_eq, decide_eq_true_iff]
      omega
theorem show_f {k : Nat} {a b : Int} {s : ByteArray} (hb : Base.i64 b) (hk : 3000 ≤ k) : wherryref09_Show.f k a b s = some (Base.showM a b s) := by
  unfold wherryref09_Show.f Base.showM
  rw [may_f]
  simp only [Option.bind_some]
  cases hm : Base.mayV a b s with
  | false => rw [if_neg Bool.false_ne_true, if_neg Bool.false_ne_true]
  | true =>
    obtain ⟨hk3, hs⟩ := Base.mayV_k hm
    rw [if_pos rfl, if_pos rfl]
    by_cases h1 : a = 1
    · rw [if_pos h1, if_pos h1, dec_f hb (by omega)]; rfl
    · rw [if_neg h1, if_neg h1]
      by_cases h2 : a = 2
      · rw [if_pos h2, if_pos h2]
        by_cases hb1 : b = 1
        · rw [if_pos hb1, hb1]; rfl
        · rw [if_neg hb1, beq_eq_false_iff_ne.2 hb1]; rfl
      · rw [if_neg h2, if_neg h2]
        have h := show_l0 s hs a b s.size k 0 (⟨#[34]⟩ : ByteArray) (by omega) (by omega) (by omega) (by have : (⟨#[34]⟩ : ByteArray).size = 1 := rfl; omega)
        rw [List.drop_zero] at h
        exact h
end Go.Proofs.YthhgfdejadbigaaDoor.GA
/-
  Chapter 9: the document's examples hold: plain laws over what was printed.
-/
set_option linter.unusedVariables false
set_option linter.unusedSimpArgs false
namespace Go.Proofs.YthhgfdejadbigaaDoor.GA
open Go.RowKit Go.Proofs.YthhgfdejadbigaaDoorW.PrintWords Go.Proofs.YthhgfdejadbigaaDoorW.PrintLast Go.Proofs.YthhgfdejadbigaaDoorW.PrintMore
theorem shown_bytes : value_Bytes.f 1 3 (⟨#[]⟩ : ByteArray) = some ⟨#[1, 6]⟩ := by
  have h : Base.valB 1 3 (⟨#[]⟩ : ByteArray) = ⟨#[1, 6]⟩ := by
    unfold Base.valB
    rw [if_pos (by decide), if_neg (by decide)]
    have e : Base.intB 3 = ⟨#[6]⟩ := by
      unfold Base.intB Base.uintB
      have e2 : Base.zig 3 = 6 := by decide
      rw [e2, Base.uintN_lt (by omega)]; rfl
    rw [e]; rfl
  unfold value_Bytes.f
  rw [if_pos (by decide), h]
theorem shown_show : value_Show.f 3 0 (⟨#[97, 34, 98]⟩ : ByteArray) = some ⟨#[34, 97, 92, 34, 98, 34]⟩ := by
  unfold value_Show.f
  rw [if_pos (by decide)]
  kernel_rfl
theorem shown_put1 : value_Put.f ([] : List (S60)) (⟨#[120]⟩ : ByteArray) 1 1 (⟨#[]⟩ : ByteArray) = some ([⟨⟨#[120]⟩, ⟨1, 1, ⟨#[]⟩⟩⟩], 0) := by
  unfold value_Put.f
  rw [if_pos (by decide)]
  kernel_rfl
theorem shown_put2 : value_Put.f ([⟨⟨#[120]⟩, ⟨1, 1, ⟨#[]⟩⟩⟩] : List (S60)) (⟨#[97]⟩ : ByteArray) 1 2 (⟨#[]⟩ : ByteArray) = some ([⟨⟨#[97]⟩, ⟨1, 2, ⟨#[]⟩⟩⟩, ⟨⟨#[120]⟩, ⟨1, 1, ⟨#[]⟩⟩⟩], 0) := by
  unfold value_Put.f
  rw [if_pos (by decide)]
  kernel_rfl
theorem shown_named : value_Named.f (⟨#[97, 110, 100]⟩ : ByteArray) = some false := by
  unfold value_Named.f
  rw [if_pos (by decide)]
  kernel_rfl
theorem shown_true : wherrylaw09_shown.f = some true := by
  unfold wherrylaw09_shown.f
  rw [shown_bytes, shown_show, shown_put1]
  simp only [Option.bind_some]
  rw [shown_put2, shown_named]
  kernel_rfl
end Go.Proofs.YthhgfdejadbigaaDoor.GA
/-
  Chapter 9: values that may be, their bytes and their texts are apart; ValueApart.
-/
set_option linter.unusedVariables false
set_option linter.unusedSimpArgs false
namespace Go.Proofs.Base
open Go Go.RowKit
theorem mayV_1 {n : Int} {s : ByteArray} (h : mayV 1 n s = true) : s.size = 0 := by unfold mayV at h; simpa using h
theorem mayV_2 {n : Int} {s : ByteArray} (h : mayV 2 n s = true) : (n = 0 ∨ n = 1) ∧ s.size = 0 := by unfold mayV at h; simpa using h
theorem mayV_3 {n : Int} {s : ByteArray} (h : mayV 3 n s = true) : n = 0 ∧ s.size ≤ 1024 := by unfold mayV at h; simpa using h
theorem size00 {s t : ByteArray} (h : s.size = 0) (k : t.size = 0) : s = t := toL_inj (by rw [List.eq_nil_of_length_eq_zero ((toL_length s).trans h), List.eq_nil_of_length_eq_zero ((toL_length t).trans k)])
theorem valB_inj {a b a' b' : Int} {c c' : ByteArray} (h : mayV a b c = true) (h' : mayV a' b' c' = true) (e : valB a b c = valB a' b' c') : a = a' ∧ b = b' ∧ c = c' := by
  have hk := (mayV_k h).1
  have hk' := (mayV_k h').1
  unfold valB at e
  rw [if_pos h, if_pos h'] at e
  have e1 := congrArg nb e
  rw [nb_append, nb_append, nb_ofN (by simp; omega), nb_ofN (by simp; omega)] at e1
  simp only [List.cons_append, List.nil_append, List.cons.injEq] at e1
  have ha : a = a' := by omega
  subst ha
  have e2 := app_left e
  rcases hk with rfl | rfl | rfl
  · rw [if_neg (by omega), if_neg (by omega)] at e2
    exact ⟨rfl, intB_inj e2, size00 (mayV_1 h) (mayV_1 h')⟩
  · rw [if_neg (by omega), if_neg (by omega)] at e2
    exact ⟨rfl, intB_inj e2, size00 (mayV_2 h).2 (mayV_2 h').2⟩
  · rw [if_pos rfl, if_pos rfl] at e2
    exact ⟨rfl, (mayV_3 h).1.trans (mayV_3 h').1.symm, textB_inj e2⟩
def numV : List UInt8 → Nat → Nat
  | [], a => a
  | c :: r, a => numV r (10 * a + (c.toNat - 48))
theorem numV_append : ∀ (l m : List UInt8) (a : Nat), numV (l ++ m) a = numV m (numV l a)
  | [], m, a => rfl
  | c :: r, m, a => numV_append r m _
theorem numV_dec : ∀ u : Nat, numV (Lib.decDigits u) 0 = u := by
  intro u
  induction u using Nat.strongRecOn with
  | _ u ih =>
    by_cases h : u < 10
    · rw [Lib.decDigits, dif_pos h]
      show 10 * 0 + ((UInt8.ofNat (48 + u)).toNat - 48) = u
      rw [UInt8.toNat_ofNat', Nat.mod_eq_of_lt (by omega)]; omega
    · rw [Lib.decDigits, dif_neg h, numV_append, ih (u / 10) (by omega)]
      show 10 * (u / 10) + ((UInt8.ofNat (48 + u % 10)).toNat - 48) = u
      rw [UInt8.toNat_ofNat', Nat.mod_eq_of_lt (by omega)]; omega
theorem dec_inj {a b : Nat} (h : Lib.decDigits a = Lib.decDigits b) : a = b := by rw [← numV_dec a, ← numV_dec b, h]
theorem dec_head : ∀ u : Nat, ∃ c r, Lib.decDigits u = c :: r ∧ 48 ≤ c.toNat ∧ c.toNat ≤ 57 := by
  intro u
  induction u using Nat.strongRecOn with
  | _ u ih =>
    by_cases h : u < 10
    · refine ⟨UInt8.ofNat (48 + u), [], by rw [Lib.decDigits, dif_pos h], ?_, ?_⟩ <;> rw [UInt8.toNat_ofNat', Nat.mod_eq_of_lt (by omega)] <;> omega
    · obtain ⟨c, r, e, h1, h2⟩ := ih (u / 10) (by omega)
      exact ⟨c, r ++ [UInt8.ofNat (48 + u % 10)], by rw [Lib.decDigits, dif_neg h, e]; rfl, h1, h2⟩
theorem itoa_head (n : Int) : ∃ c r, Lib.itoa n = c :: r ∧ ((n < 0 ∧ c.toNat = 45 ∧ r = Lib.decDigits n.natAbs) ∨ (¬ n < 0 ∧ 48 ≤ c.toNat ∧ c.toNat ≤ 57 ∧ c :: r = Lib.decDigits n.toNat)) := by
  unfold Lib.itoa
  by_cases h : n < 0
  · rw [if_pos h]; exact ⟨45, _, rfl, .inl ⟨h, rfl, rfl⟩⟩
  · rw [if_neg h]
    obtain ⟨c, r, e, h1, h2⟩ := dec_head n.toNat
    exact ⟨c, r, e, .inr ⟨h, h1, h2, e.symm⟩⟩
theorem itoa_inj {a b : Int} (h : Lib.itoa a = Lib.itoa b) : a = b := by
  obtain ⟨c, r, e, h1⟩ := itoa_head a
  obtain ⟨d, q, f, h2⟩ := itoa_head b
  rw [e, f] at h
  injection h with hc hr
  subst hc hr
  rcases h1 with ⟨n1, c1, r1⟩ | ⟨n1, c1, c2, r1⟩ <;> rcases h2 with ⟨n2, d1, q1⟩ | ⟨n2, d1, d2, q1⟩
  · have := dec_inj (r1.symm.trans q1); omega
  · omega
  · omega
  · have := dec_inj (r1.symm.trans q1); omega
def escN (c : Nat) : List Nat := if c = 34 ∨ c = 92 then [92, c] else if c < 32 ∨ 126 < c then [92, 120, hexD (c / 16), hexD (c % 16)] else [c]
theorem hexD_inj {a b : Nat} (ha : a < 16) (hb : b < 16) (h : hexD a = hexD b) : a = b := by unfold hexD at h; split at h <;> split at h <;> omega
theorem hexD_b {n : Nat} (h : n < 16) : hexD n < 256 := by unfold hexD; split <;> omega
theorem nb_esc {c : Nat} (h : c < 256) : nb (escB c) = escN c := by
  unfold escB escN b1
  have h1 := hexD_b (n := c / 16) (by omega)
  have h2 := hexD_b (n := c % 16) (by omega)
  split
  · exact nb_ofN (by simp; omega)
  · split
    · exact nb_ofN (by simp; omega)
    · exact nb_ofN (by simp; omega)
theorem nb_escAll : ∀ l : List UInt8, nb (escAll l) = l.flatMap fun c => escN c.toNat
  | [] => rfl
  | c :: r => by
    show nb (escB c.toNat ++ escAll r) = _
    rw [nb_append, nb_esc c.toNat_lt, nb_escAll r]; rfl
theorem escN_pre {c d : Nat} (hc : c < 256) (hd : d < 256) {x y : List Nat} (h : escN c ++ x = escN d ++ y) : c = d ∧ x = y := by
  unfold escN at h
  by_cases c1 : c = 34 ∨ c = 92
  · rw [if_pos c1] at h
    by_cases d1 : d = 34 ∨ d = 92
    · rw [if_pos d1] at h
      simp only [List.cons_append, List.nil_append, List.cons.injEq, true_and] at h
      exact h
    · rw [if_neg d1] at h
      by_cases d2 : d < 32 ∨ 126 < d
      · rw [if_pos d2] at h
        simp only [List.cons_append, List.nil_append, List.cons.injEq, true_and] at h
        omega
      · rw [if_neg d2] at h
        simp only [List.cons_append, List.nil_append, List.cons.injEq] at h
        omega
  · rw [if_neg c1] at h
    by_cases c2 : c < 32 ∨ 126 < c
    · rw [if_pos c2] at h
      by_cases d1 : d = 34 ∨ d = 92
      · rw [if_pos d1] at h
        simp only [List.cons_append, List.nil_append, List.cons.injEq, true_and] at h
        omega
      · rw [if_neg d1] at h
        by_cases d2 : d < 32 ∨ 126 < d
        · rw [if_pos d2] at h
          simp only [List.cons_append, List.nil_append, List.cons.injEq, true_and] at h
          obtain ⟨h1, h2, h3⟩ := h
          have := hexD_inj (by omega) (by omega) h1
          have := hexD_inj (by omega) (by omega) h2
          exact ⟨by omega, h3⟩
        · rw [if_neg d2] at h
          simp only [List.cons_append, List.nil_append, List.cons.injEq] at h
          omega
    · rw [if_neg c2] at h
      by_cases d1 : d = 34 ∨ d = 92
      · rw [if_pos d1] at h
        simp only [List.cons_append, List.nil_append, List.cons.injEq] at h
        omega
      · rw [if_neg d1] at h
        by_cases d2 : d < 32 ∨ 126 < d
        · rw [if_pos d2] at h
          simp only [List.cons_append, List.nil_append, List.cons.injEq] at h
          omega
        · rw [if_neg d2] at h
          simp only [List.cons_append, List.nil_append, List.cons.injEq] at h
          exact h
theorem escN_ne (c : Nat) : escN c ≠ [] := by unfold escN; split <;> (try split) <;> simp
theorem esc_inj : ∀ (l m : List UInt8), (l.flatMap fun c => escN c.toNat) = (m.flatMap fun c => escN c.toNat) → l = m
  | [], [], _ => rfl
  | [], d :: q, h => by
    rw [List.flatMap_cons, List.flatMap_nil] at h
    exact absurd (List.append_eq_nil_iff.1 h.symm).1 (escN_ne _)
  | c :: r, [], h => by
    rw [List.flatMap_cons, List.flatMap_nil] at h
    exact absurd (List.append_eq_nil_iff.1 h).1 (escN_ne _)
  | c :: r, d :: q, h => by
    rw [List.flatMap_cons, List.flatMap_cons] at h
    obtain ⟨h1, h2⟩ := escN_pre c.toNat_lt d.toNat_lt h
    rw [esc_inj r q h2, UInt8.toNat_inj.1 h1]
theorem showT_inj {s t : ByteArray} (h : showT s = showT t) : s = t := by
  unfold showT at h
  have h1 := congrArg nb (app_left (app_right h |>.symm.symm |> fun e => (by rw [e] : b1 34 ++ escAll (toL s) = b1 34 ++ escAll (toL t))))
  rw [nb_escAll, nb_escAll] at h1
  exact toL_inj (esc_inj _ _ h1)
theorem showT_head (s : ByteArray) : ∃ r, nb (showT s) = 34 :: r := by
  unfold showT
  rw [nb_append, nb_append, show nb (b1 34) = [34] from nb_ofN (by simp)]
  exact ⟨_, rfl⟩
theorem intT_head (n : Int) : ∃ c r, nb (intT n) = c :: r ∧ (c = 45 ∨ (48 ≤ c ∧ c ≤ 57)) := by
  obtain ⟨c, r, e, h⟩ := itoa_head n
  refine ⟨c.toNat, r.map UInt8.toNat, ?_, by omega⟩
  show (Lib.itoa n).map UInt8.toNat = _
  rw [e]; rfl
theorem boolT_head (b : Bool) : ∃ r, nb (boolT b) = (if b then 116 else 102) :: r := by
  cases b
  · exact ⟨[97, 108, 115, 101], by decide⟩
  · exact ⟨[114, 117, 101], by decide⟩
theorem showM_inj {a b a' b' : Int} {c c' : ByteArray} (h : mayV a b c = true) (h' : mayV a' b' c' = true) (e : showM a b c = showM a' b' c') : a = a' ∧ b = b' ∧ c = c' := by
  have hk := (mayV_k h).1
  have hk' := (mayV_k h').1
  unfold showM at e
  rw [if_pos h, if_pos h'] at e
  have ne : ∀ {x y : ByteArray} {p q : Nat} {u v : List Nat}, nb x = p :: u → nb y = q :: v → x = y → p = q := fun h1 h2 h3 => by
    rw [h3, h2] at h1; injection h1 with h1; exact h1.symm
  obtain ⟨r3, t3⟩ := showT_head c
  obtain ⟨q3, t3'⟩ := showT_head c'
  obtain ⟨p1, r1, t1, b1⟩ := intT_head b
  obtain ⟨p1', q1, t1', b1'⟩ := intT_head b'
  obtain ⟨r2, t2⟩ := boolT_head (b == 1)
  obtain ⟨q2, t2'⟩ := boolT_head (b' == 1)
  have hb2 : (if (b == 1) = true then 116 else 102) = 116 ∨ (if (b == 1) = true then 116 else 102) = 102 := by split <;> omega
  have hb2' : (if (b' == 1) = true then 116 else 102) = 116 ∨ (if (b' == 1) = true then 116 else 102) = 102 := by split <;> omega
  rcases hk with rfl | rfl | rfl <;> rcases hk' with rfl | rfl | rfl
  · rw [if_pos rfl, if_pos rfl] at e
    exact ⟨rfl, itoa_inj (congrArg toL e), size00 (mayV_1 h) (mayV_1 h')⟩
  · rw [if_pos rfl, if_neg (by omega), if_pos rfl] at e
    have := ne t1 t2' e; omega
  · rw [if_pos rfl, if_neg (by omega), if_neg (by omega)] at e
    have := ne t1 t3' e; omega
  · rw [if_neg (by omega), if_pos rfl, if_pos rfl] at e
    have := ne t2 t1' e; omega
  · rw [if_neg (by omega), if_pos rfl, if_neg (by omega), if_pos rfl] at e
    have h3 := ne t2 t2' e
    obtain ⟨m1, m2⟩ := mayV_2 h
    obtain ⟨m3, m4⟩ := mayV_2 h'
    refine ⟨rfl, ?_, size00 m2 m4⟩
    rcases m1 with rfl | rfl <;> rcases m3 with rfl | rfl <;> first | rfl | (exfalso; revert h3; decide)
  · rw [if_neg (by omega), if_pos rfl, if_neg (by omega), if_neg (by omega)] at e
    have := ne t2 t3' e; omega
  · rw [if_neg (by omega), if_neg (by omega), if_pos rfl] at e
    have := ne t3 t1' e; omega
  · rw [if_neg (by omega), if_neg (by omega), if_neg (by omega), if_pos rfl] at e
    have := ne t3 t2' e; omega
  · rw [if_neg (by omega), if_neg (by omega), if_neg (by omega), if_neg (by omega)] at e
    exact ⟨rfl, (mayV_3 h).1.trans (mayV_3 h').1.symm, showT_inj e⟩
end Go.Proofs.Base
namespace Go.Proofs.YthhgfdejadbigaaDoor.GA
open Go Go.RowKit Go.Proofs.YthhgfdejadbigaaDoorW.PrintWords Go.Proofs.YthhgfdejadbigaaDoorW.PrintLast Go.Proofs.YthhgfdejadbigaaDoorW.PrintMore
theorem tl {x y : ByteArray} : (x.toList == y.toList) = decide (x = y) := by
  rw [Bool.eq_iff_iff, beq_iff_eq, decide_eq_true_iff, Base.toList_toL, Base.toList_toL]
  exact ⟨Base.toL_inj, fun h => by rw [h]⟩
theorem apart_pure {a b : Int} {c : ByteArray} {a' b' : Int} {c' : ByteArray} (ha : Base.i64 a) (hb : Base.i64 b) (hc : Base.okS c) (ha' : Base.i64 a') (hb' : Base.i64 b') (hc' : Base.okS c') : ∃ k, wherrylaw09_ValueApart.f k a b c a' b' c' = some true := by
  refine ⟨5, ?_⟩
  have hBy : value_Bytes.f a b c = some (Base.valB a b c) := by unfold value_Bytes.f; rw [if_pos (show wfV a b c from ⟨ha, hb, hc⟩)]
  have hBy' : value_Bytes.f a' b' c' = some (Base.valB a' b' c') := by unfold value_Bytes.f; rw [if_pos (show wfV a' b' c' from ⟨ha', hb', hc'⟩)]
  have hSh : value_Show.f a b c = some (Base.showM a b c) := by unfold value_Show.f; rw [if_pos hb]
  have hSh' : value_Show.f a' b' c' = some (Base.showM a' b' c') := by unfold value_Show.f; rw [if_pos hb']
  unfold wherrylaw09_ValueApart.f
  rw [shown_true, may_f, may_f]
  simp only [Option.bind_some]
  cases hm : Base.mayV a b c with
  | false => simp [wherrylaw09_ValueApart.j0]
  | true =>
    cases hm' : Base.mayV a' b' c' with
    | false => simp [wherrylaw09_ValueApart.j0]
    | true =>
      have e1 : (Base.valB a b c = Base.valB a' b' c') ↔ (a = a' ∧ b = b' ∧ c = c') := ⟨Base.valB_inj hm hm', fun ⟨h1, h2, h3⟩ => by rw [h1, h2, h3]⟩
      have e2 : (Base.showM a b c = Base.showM a' b' c') ↔ (a = a' ∧ b = b' ∧ c = c') := ⟨Base.showM_inj hm hm', fun ⟨h1, h2, h3⟩ => by rw [h1, h2, h3]⟩
      have e3 : (a == a' && (b == b' && (c.toList == c'.toList))) = decide (a = a' ∧ b = b' ∧ c = c') := by
        rw [tl, Bool.eq_iff_iff]; simp
      simp only [wherrylaw09_ValueApart.j0, Bool.not_true, Bool.false_eq_true, if_false, if_true]
      rw [hBy, hBy']
      simp only [Option.bind_some]
      rw [e3, tl, show decide (Base.valB a b c = Base.valB a' b' c') = decide (a = a' ∧ b = b' ∧ c = c') from decide_eq_decide.2 e1, if_pos (by simp)]
      rw [hSh, hSh']
      simp only [Option.bind_some]
      rw [tl, show decide (Base.showM a b c = Base.showM a' b' c') = decide (a = a' ∧ b = b' ∧ c = c') from decide_eq_decide.2 e2]
      simp
theorem apart_row {W : World} {a b : Int} {c : ByteArray} {a' b' : Int} {c' : ByteArray} (HTAB : Hid (Base.HasTab Tryd.prog W)) (ha : Base.i64 a) (hb : Base.i64 b) (hc : Base.okS c) (ha' : Base.i64 a') (hb' : Base.i64 b') (hc' : Base.okS c') :
    Calls Tryd.prog 3 #[.agg #[.int .i64 a, .int .i64 b, .string c], .agg #[.int .i64 a', .int .i64 b', .string c']] W fun e W' => e = .returned (.bool true) ∧ Below W.heap.size W W' := by
  obtain ⟨k, hk⟩ := apart_pure ha hb hc ha' hb' hc'
  exact wherrylaw09_ValueApart.calls k a b c a' b' c' true W HTAB hk
end Go.Proofs.YthhgfdejadbigaaDoor.GA
/-
  A handed value, opened as the print's kinds read it: whatever type it has. Nothing of a program but its types.
-/
set_option linter.unusedVariables false
set_option linter.unusedSimpArgs false
namespace Go.Proofs.YthhgfdejadbigaaDoor.OpenK
open Go Go.RowKit Go.WideShapes Go.ChangeShapes Go.Proofs.YthhgfdejadbigaaDoorW.PrintWords
def LightP {H : Type} (P : Program) (t : TypeId) (d : DataW H) : Prop := ∀ n ∈ d.weights P t, n ≤ 140737488351232
def Opens (P : Program) (t : TypeId) {α : Type} (d : Kd α) (WF : α → Prop) : Prop :=
  ∀ (H : Type) (enc : TypeId × Value → H) (w : World) (base : Nat) (spare : Nat → Bool) (held : Bool) (n : Nat) (cs : List Value) (x : DataW H × List MemPlace),
    DataW.trod enc P w base spare held n t cs = some x → LightP P t x.1 → ∃ a, d.K w a cs ∧ WF a
section
variable {P : Program} {H : Type} {enc : TypeId × Value → H} {w : World} {base : Nat} {spare : Nat → Bool} {held : Bool}
theorem light_part {t : TypeId} {fs : Array Field} {ds : List (DataW H)} (hu : P.underlying t = some (.struct fs)) (h : LightP P t (.agg ds)) {j : Nat} {f : Field} {d : DataW H} (hf : fs[j]? = some f) (hd : ds[j]? = some d) : LightP P f.type d := by
  intro n hn
  refine h n ?_
  simp only [DataW.weights, hu]
  exact DataW.weights_mem_each (j := j) (by simp [hf]) hd n hn
theorem mem_weightsAll {e : TypeId} : ∀ {l : List (DataW H)} {d : DataW H}, d ∈ l → ∀ n ∈ d.weights P e, n ∈ DataW.weightsAll P e l
  | x :: r, d, h, n, hn => by
    simp only [DataW.weightsAll, List.mem_append]
    rcases List.mem_cons.1 h with rfl | h
    · exact .inl hn
    · exact .inr (mem_weightsAll h n hn)
theorem light_elem {t e : TypeId} {es sp : List (DataW H)} (hu : P.underlying t = some (.slice e)) (h : LightP P t (.slice es sp)) {d : DataW H} (hd : d ∈ es) : LightP P e d := by
  intro n hn
  refine h n ?_
  simp only [DataW.weights, hu, List.mem_cons, List.mem_append]
  exact .inr (.inl (mem_weightsAll hd n hn))
theorem fld {fs : Array Field} {cs : List Value} {xs : List (DataW H × List MemPlace)} {m : Nat} (hf : ∀ (i : Nat) (f : Field), fs[i]? = some f → DataW.trod enc P w base spare held m f.type ((cs.drop f.offset).take (P.cellsOf f.type)) = xs[i]?)
    {i : Nat} {f : Field} (hi : fs[i]? = some f) {t : TypeId} (ht : f.type = t) {k : Nat} (hk : P.cellsOf t = k) {c : List Value} (hc : (cs.drop f.offset).take k = c) {x : DataW H × List MemPlace} (hx : xs[i]? = some x) : DataW.trod enc P w base spare held m t c = some x := by
  have h := hf i f hi
  rw [ht, hk, hc, hx] at h
  exact h
end
section
variable {P : Program} {t e : TypeId}
theorem opens_int {k : IntKind} (hu : P.underlying t = some (.int k)) : Opens P t (Kd.int k) (fun n => (Lit.int k n).wf = true) := by
  intro H enc w base spare held n cs x h _
  obtain ⟨z, rfl, _, wk⟩ := DataW.trod_int hu h
  exact ⟨z, rfl, wk⟩
theorem opens_bool (hu : P.underlying t = some .bool) : Opens P t Kd.bool (fun _ => True) := by
  intro H enc w base spare held n cs x h _
  obtain ⟨z, rfl, _⟩ := DataW.trod_bool hu h
  exact ⟨z, rfl, trivial⟩
theorem opens_string (hu : P.underlying t = some .string) : Opens P t Kd.string (fun s => s.size ≤ 140737488351232) := by
  intro H enc w base spare held n cs x h hl
  obtain ⟨s, rfl, rfl, _⟩ := DataW.trod_string hu h
  refine ⟨s, rfl, ?_⟩
  have := hl s.data.toList.length (by simp [DataW.weights])
  exact Nat.le_trans (by show s.data.size ≤ _; simp) this
theorem opens_slice {α : Type} {d : Kd α} {WF : α → Prop} {b : Nat} (hu : P.underlying t = some (.slice e)) (hc : P.cellsOf e = d.sz) (hb : P.bytesOf e = b) (hp : 0 < d.sz) (hd : Opens P e d WF) :
    Opens P t (Kd.slice e d) (fun l => (∀ x ∈ l, WF x) ∧ l.length * b ≤ 140737488351232) := by
  intro H enc w base spare held n cs x h hl
  rcases Go.Deep.open_slice hu h with ⟨rfl, _⟩ | ⟨a, len, cap, m, n', D, Pl, rfl, _, hlc, hcm, hm, rfl, hi⟩
  · exact ⟨[], ⟨none, 0, rfl, Nat.le_refl _, ⟨rfl, by simp, fun h => absurd h (by simp)⟩⟩, ⟨fun x hx => (by cases hx), by simp⟩⟩
  · have hlm : len ≤ m := by rw [hm]; split <;> omega
    have hex : ∀ i : Fin len, ∃ (v : α) (c : List Value), d.K w v c ∧ WF v ∧ c.length = d.sz ∧ ∀ j u, c[j]? = some u → w.cell? (a.add (i.val * d.sz + j)) = some u := by
      intro i
      obtain ⟨cs', hc', ht⟩ := hi i.val (by omega)
      obtain ⟨v, hk, hw⟩ := hd H enc w base spare held n' cs' _ ht (light_elem hu hl (List.mem_map.2 ⟨i.val, List.mem_range.2 i.isLt, rfl⟩))
      rw [hc] at hc'
      obtain ⟨_, hcl, hat⟩ := World.cells?_some hc'
      refine ⟨v, cs', hk, hw, d.K_len hk, fun j u hj => ?_⟩
      have hj4 : j < d.sz := by have := (List.getElem?_eq_some_iff.1 hj).1; rwa [d.K_len hk] at this
      have := hat j hj4
      rw [← Go.Deep.add_add, this, hj]
    obtain ⟨f, hf⟩ := Classical.axiomOfChoice hex
    refine ⟨(List.finRange len).map f, ⟨some a, cap, by simp, by simpa using hlc, ⟨rfl, ?_, fun hn => ⟨a, rfl, fun j p hj => ?_⟩⟩⟩, fun y hy => ?_, ?_⟩
    · unfold maxLen at hcm; simp; omega
    · rw [List.getElem?_map, Option.map_eq_some_iff] at hj
      obtain ⟨i, hi', rfl⟩ := hj
      obtain ⟨c, hk, _, hlen, hcc⟩ := hf i
      have hij : i.val = j := by
        obtain ⟨hlt, rfl⟩ := List.getElem?_eq_some_iff.1 hi'
        simp
      subst hij
      exact ⟨c, hlen, hk, hcc⟩
    · obtain ⟨i, _, rfl⟩ := List.mem_map.1 hy
      obtain ⟨c, _, hw, _⟩ := hf i
      exact hw
    · have := hl ((((List.range len).map D).length + ((List.range (m - len)).map fun j => D (len + j)).length) * P.bytesOf e) (by
        simp only [DataW.weights, hu]
        exact List.mem_cons_self)
      rw [hb] at this
      simp only [List.length_map, List.length_range] at this
      simp only [List.length_map, List.length_finRange]
      refine Nat.le_trans (Nat.mul_le_mul_right _ ?_) this
      omega
end
end Go.Proofs.YthhgfdejadbigaaDoor.OpenK
/-
  The laws' arguments, opened. Printed by genopen3.py.
-/
set_option linter.unusedVariables false
set_option linter.unusedSimpArgs false
namespace Go.Proofs.YthhgfdejadbigaaDoor.GA
open Go Go.RowKit Go.WideShapes Go.ChangeShapes Go.Proofs.YthhgfdejadbigaaDoor.OpenK Go.Proofs.YthhgfdejadbigaaDoorW.PrintWords
def wf23 (x : S23) : Prop := (Lit.int .i64 x.f0).wf = true ∧ (Lit.int .i64 x.f1).wf = true ∧ (x.f2).size ≤ 140737488351232
set_option maxRecDepth 100000 in
theorem opens_T23 : Opens Tryd.prog 23 k23 wf23 := by
  intro H enc w base spare held n cs x h hl
  obtain ⟨xs, m, _, rfl, hcl, hlen, hf⟩ := DataW.trod_struct Tryd.underlying23 h
  match cs, hcl.trans (show Tryd.prog.cellsOf 23 = 3 by kernel_rfl), xs, hlen with
  | [c0, c1, c2], _, [x0, x1, x2], _ =>
    obtain ⟨a0, q0, w0⟩ := (opens_int Tryd.underlying3) H enc w base spare held m [c0] x0 (fld hf (i := 0) rfl rfl (show Tryd.prog.cellsOf 3 = 1 by kernel_rfl) (c := [c0]) rfl (x := x0) rfl) (light_part Tryd.underlying23 hl (j := 0) rfl rfl)
    obtain ⟨a1, q1, w1⟩ := (opens_int Tryd.underlying2) H enc w base spare held m [c1] x1 (fld hf (i := 1) rfl rfl (show Tryd.prog.cellsOf 2 = 1 by kernel_rfl) (c := [c1]) rfl (x := x1) rfl) (light_part Tryd.underlying23 hl (j := 1) rfl rfl)
    obtain ⟨a2, q2, w2⟩ := (opens_string Tryd.underlying9) H enc w base spare held m [c2] x2 (fld hf (i := 2) rfl rfl (show Tryd.prog.cellsOf 9 = 1 by kernel_rfl) (c := [c2]) rfl (x := x2) rfl) (light_part Tryd.underlying23 hl (j := 2) rfl rfl)
    exact ⟨⟨a0, a1, a2⟩, ⟨[c0], [c1, c2], rfl, q0, ⟨[c1], [c2], rfl, q1, q2⟩⟩, ⟨w0, w1, w2⟩⟩
def wf60 (x : S60) : Prop := (x.f0).size ≤ 140737488351232 ∧ wf23 x.f1
set_option maxRecDepth 100000 in
theorem opens_T60 : Opens Tryd.prog 60 k60 wf60 := by
  intro H enc w base spare held n cs x h hl
  obtain ⟨xs, m, _, rfl, hcl, hlen, hf⟩ := DataW.trod_struct Tryd.underlying60 h
  match cs, hcl.trans (show Tryd.prog.cellsOf 60 = 4 by kernel_rfl), xs, hlen with
  | [c0, c1, c2, c3], _, [x0, x1], _ =>
    obtain ⟨a0, q0, w0⟩ := (opens_string Tryd.underlying9) H enc w base spare held m [c0] x0 (fld hf (i := 0) rfl rfl (show Tryd.prog.cellsOf 9 = 1 by kernel_rfl) (c := [c0]) rfl (x := x0) rfl) (light_part Tryd.underlying60 hl (j := 0) rfl rfl)
    obtain ⟨a1, q1, w1⟩ := opens_T23 H enc w base spare held m [c1, c2, c3] x1 (fld hf (i := 1) rfl rfl (show Tryd.prog.cellsOf 23 = 3 by kernel_rfl) (c := [c1, c2, c3]) rfl (x := x1) rfl) (light_part Tryd.underlying60 hl (j := 1) rfl rfl)
    exact ⟨⟨a0, a1⟩, ⟨[c0], [c1, c2, c3], rfl, q0, q1⟩, ⟨w0, w1⟩⟩
set_option maxRecDepth 100000 in
theorem flat_23 {H : Type} {enc : TypeId × Value → H} {w : World} {base : Nat} {spare : Nat → Bool} {held : Bool} {n : Nat} {cs : List Value} {x : DataW H × List MemPlace} (h : DataW.trod enc Tryd.prog w base spare held n 23 cs = some x) (hl : LightP Tryd.prog 23 x.1) :
    ∃ (a0 : Int) (a1 : Int) (a2 : ByteArray), cs = [.int .i64 a0, .int .i64 a1, .string a2] ∧ (Lit.int .i64 a0).wf = true ∧ (Lit.int .i64 a1).wf = true ∧ (a2).size ≤ 140737488351232 := by
  obtain ⟨xs, m, _, rfl, hcl, hlen, hf⟩ := DataW.trod_struct Tryd.underlying23 h
  match cs, hcl.trans (show Tryd.prog.cellsOf 23 = 3 by kernel_rfl), xs, hlen with
  | [e0, e1, e2], _, [x0, x1, x2], _ =>
    obtain ⟨a0, eq0, p0⟩ := (opens_int Tryd.underlying3) H enc w base spare held m [e0] x0 (fld hf (i := 0) rfl rfl (show Tryd.prog.cellsOf 3 = 1 by kernel_rfl) (c := [e0]) rfl (x := x0) rfl) (light_part Tryd.underlying23 hl (j := 0) rfl rfl)
    obtain rfl := List.head_eq_of_cons_eq eq0
    obtain ⟨a1, eq1, p1⟩ := (opens_int Tryd.underlying2) H enc w base spare held m [e1] x1 (fld hf (i := 1) rfl rfl (show Tryd.prog.cellsOf 2 = 1 by kernel_rfl) (c := [e1]) rfl (x := x1) rfl) (light_part Tryd.underlying23 hl (j := 1) rfl rfl)
    obtain rfl := List.head_eq_of_cons_eq eq1
    obtain ⟨a2, eq2, p2⟩ := (opens_string Tryd.underlying9) H enc w base spare held m [e2] x2 (fld hf (i := 2) rfl rfl (show Tryd.prog.cellsOf 9 = 1 by kernel_rfl) (c := [e2]) rfl (x := x2) rfl) (light_part Tryd.underlying23 hl (j := 2) rfl rfl)
    obtain rfl := List.head_eq_of_cons_eq eq2
    exact ⟨a0, a1, a2, rfl, p0, p1, p2⟩
set_option maxRecDepth 100000 in
theorem flat_44 {H : Type} {enc : TypeId × Value → H} {w : World} {base : Nat} {spare : Nat → Bool} {held : Bool} {n : Nat} {cs : List Value} {x : DataW H × List MemPlace} (h : DataW.trod enc Tryd.prog w base spare held n 44 cs = some x) (hl : LightP Tryd.prog 44 x.1) :
    ∃ (a0 : Int) (a1 : Int) (a2 : ByteArray) (a3 : Int) (a4 : Int) (a5 : ByteArray) (a6 : ByteArray) (A7 : Option Addr) (c7 : Nat) (a7 : List (S60)), cs = [.int .i64 a0, .int .i64 a1, .string a2, .int .i64 a3, .int .i64 a4, .string a5, .string a6, .slice A7 a7.length c7] ∧ (Lit.int .i64 a0).wf = true ∧ (Lit.int .i64 a1).wf = true ∧ (a2).size ≤ 140737488351232 ∧ (Lit.int .i64 a3).wf = true ∧ (Lit.int .i64 a4).wf = true ∧ (a5).size ≤ 140737488351232 ∧ (a6).size ≤ 140737488351232 ∧ (a7.length ≤ c7 ∧ Kd.C k60 w A7 a7.length a7 ∧ ((∀ y ∈ a7, wf60 y) ∧ (a7).length * 48 ≤ 140737488351232)) := by
  obtain ⟨xs, m, _, rfl, hcl, hlen, hf⟩ := DataW.trod_struct Tryd.underlying44 h
  match cs, hcl.trans (show Tryd.prog.cellsOf 44 = 8 by kernel_rfl), xs, hlen with
  | [e0, e1, e2, e3, e4, e5, e6, e7], _, [x0, x1, x2, x3], _ =>
    obtain ⟨a0, a1, a2, eq0, p0, p1, p2⟩ := flat_23 (fld hf (i := 0) rfl rfl (show Tryd.prog.cellsOf 23 = 3 by kernel_rfl) (c := [e0, e1, e2]) rfl (x := x0) rfl) (light_part Tryd.underlying44 hl (j := 0) rfl rfl)
    simp only [List.cons.injEq, and_true] at eq0
    obtain ⟨rfl, rfl, rfl⟩ := eq0
    obtain ⟨a3, a4, a5, eq1, p3, p4, p5⟩ := flat_23 (fld hf (i := 1) rfl rfl (show Tryd.prog.cellsOf 23 = 3 by kernel_rfl) (c := [e3, e4, e5]) rfl (x := x1) rfl) (light_part Tryd.underlying44 hl (j := 1) rfl rfl)
    simp only [List.cons.injEq, and_true] at eq1
    obtain ⟨rfl, rfl, rfl⟩ := eq1
    obtain ⟨a6, eq2, p6⟩ := (opens_string Tryd.underlying9) H enc w base spare held m [e6] x2 (fld hf (i := 2) rfl rfl (show Tryd.prog.cellsOf 9 = 1 by kernel_rfl) (c := [e6]) rfl (x := x2) rfl) (light_part Tryd.underlying44 hl (j := 2) rfl rfl)
    obtain rfl := List.head_eq_of_cons_eq eq2
    obtain ⟨a7, ⟨A7, c7, eq3, hc7, hC7⟩, wf7_⟩ := (opens_slice (b := 48) Tryd.underlying29 (by kernel_rfl) (by kernel_rfl) (by decide) opens_T60) H enc w base spare held m [e7] x3 (fld hf (i := 3) rfl rfl (show Tryd.prog.cellsOf 29 = 1 by kernel_rfl) (c := [e7]) rfl (x := x3) rfl) (light_part Tryd.underlying44 hl (j := 3) rfl rfl)
    obtain rfl := List.head_eq_of_cons_eq eq3
    exact ⟨a0, a1, a2, a3, a4, a5, a6, A7, c7, a7, rfl, p0, p1, p2, p3, p4, p5, p6, ⟨hc7, hC7, wf7_⟩⟩
set_option maxRecDepth 100000 in
theorem flat_58 {H : Type} {enc : TypeId × Value → H} {w : World} {base : Nat} {spare : Nat → Bool} {held : Bool} {n : Nat} {cs : List Value} {x : DataW H × List MemPlace} (h : DataW.trod enc Tryd.prog w base spare held n 58 cs = some x) (hl : LightP Tryd.prog 58 x.1) :
    ∃ (A0 : Option Addr) (c0 : Nat) (a0 : List (S60)) (a1 : ByteArray) (a2 : Int) (a3 : Int) (a4 : ByteArray) (a5 : ByteArray), cs = [.slice A0 a0.length c0, .string a1, .int .i64 a2, .int .i64 a3, .string a4, .string a5] ∧ (a0.length ≤ c0 ∧ Kd.C k60 w A0 a0.length a0 ∧ ((∀ y ∈ a0, wf60 y) ∧ (a0).length * 48 ≤ 140737488351232)) ∧ (a1).size ≤ 140737488351232 ∧ (Lit.int .i64 a2).wf = true ∧ (Lit.int .i64 a3).wf = true ∧ (a4).size ≤ 140737488351232 ∧ (a5).size ≤ 140737488351232 := by
  obtain ⟨xs, m, _, rfl, hcl, hlen, hf⟩ := DataW.trod_struct Tryd.underlying58 h
  match cs, hcl.trans (show Tryd.prog.cellsOf 58 = 6 by kernel_rfl), xs, hlen with
  | [e0, e1, e2, e3, e4, e5], _, [x0, x1, x2, x3], _ =>
    obtain ⟨a0, ⟨A0, c0, eq0, hc0, hC0⟩, wf0_⟩ := (opens_slice (b := 48) Tryd.underlying29 (by kernel_rfl) (by kernel_rfl) (by decide) opens_T60) H enc w base spare held m [e0] x0 (fld hf (i := 0) rfl rfl (show Tryd.prog.cellsOf 29 = 1 by kernel_rfl) (c := [e0]) rfl (x := x0) rfl) (light_part Tryd.underlying58 hl (j := 0) rfl rfl)
    obtain rfl := List.head_eq_of_cons_eq eq0
    obtain ⟨a1, eq1, p1⟩ := (opens_string Tryd.underlying9) H enc w base spare held m [e1] x1 (fld hf (i := 1) rfl rfl (show Tryd.prog.cellsOf 9 = 1 by kernel_rfl) (c := [e1]) rfl (x := x1) rfl) (light_part Tryd.underlying58 hl (j := 1) rfl rfl)
    obtain rfl := List.head_eq_of_cons_eq eq1
    obtain ⟨a2, a3, a4, eq2, p2, p3, p4⟩ := flat_23 (fld hf (i := 2) rfl rfl (show Tryd.prog.cellsOf 23 = 3 by kernel_rfl) (c := [e2, e3, e4]) rfl (x := x2) rfl) (light_part Tryd.underlying58 hl (j := 2) rfl rfl)
    simp only [List.cons.injEq, and_true] at eq2
    obtain ⟨rfl, rfl, rfl⟩ := eq2
    obtain ⟨a5, eq3, p5⟩ := (opens_string Tryd.underlying9) H enc w base spare held m [e5] x3 (fld hf (i := 3) rfl rfl (show Tryd.prog.cellsOf 9 = 1 by kernel_rfl) (c := [e5]) rfl (x := x3) rfl) (light_part Tryd.underlying58 hl (j := 3) rfl rfl)
    obtain rfl := List.head_eq_of_cons_eq eq3
    exact ⟨A0, c0, a0, a1, a2, a3, a4, a5, rfl, ⟨hc0, hC0, wf0_⟩, p1, p2, p3, p4, p5⟩
end Go.Proofs.YthhgfdejadbigaaDoor.GA
