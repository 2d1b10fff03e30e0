/-
  Merged from GAx11, GAx15, BackP, BackH, OpenK, OpenS.
-/
import Derived.Test.YthhgfdejadbigaaDoorGAx6
import Derived.Test.YthhgfdejadbigaaDoorValTV
import Derived.Test.YthhgfdejadbigaaDoorTakeR
import Derived.Test.YthhgfdejadbigaaDoorLawD
import Derived.Lib.Hide
import Derived.Lib.QuietBelow
import Derived.Test.YthhgfdejadbigaaDoorWWords
import Derived.Deep.Slices
import Derived.Deep.Fields
import Derived.SizedLaws
import Derived.OpenShut
import Derived.ChangeArms
namespace Go.Proofs.YthhgfdejadbigaaDoor.GA
open Go.RowKit Go.Proofs.YthhgfdejadbigaaDoorW.PrintWords Go.Proofs.YthhgfdejadbigaaDoorW.PrintLast Go.Proofs.YthhgfdejadbigaaDoorW.PrintMore
attribute [local go_sem] max2_int min2_int max_two min_two max_three min_three max_four min_four   -- for this text's walks alone
set_option linter.unusedVariables false
set_option linter.unusedSimpArgs false
def value_May.f (a0_0 : Int) (a0_1 : Int) (a0_2 : ByteArray) : Option (Bool) := some (Base.mayV a0_0 a0_1 a0_2)
theorem value_May.calls (a0_0 : Int) (a0_1 : Int) (a0_2 : ByteArray) (r : Bool) (w : World) (h : value_May.f a0_0 a0_1 a0_2 = some r) :
    Calls Tryd.prog 22 #[.agg #[.int .i64 a0_0, .int .i64 a0_1, .string a0_2]] w fun e w' => e = .returned (.bool r) ∧ Below w.heap.size w w' := by
  obtain rfl := Option.some.inj h
  exact val_May a0_0 a0_1 a0_2 w
def wherryref01_Text.f (a0 : ByteArray) : Option (ByteArray) := if a0.size ≤ 140737488351232 then some (Base.textB a0) else none
theorem wherryref01_Text.calls (a0 : ByteArray) (r : ByteArray) (w : World) (h : wherryref01_Text.f a0 = some r) :
    Calls Tryd.prog 51 #[.string a0] w fun e w' => e = .returned (.string r) ∧ Below w.heap.size w w' := by
  unfold wherryref01_Text.f at h
  split at h
  · rename_i hw
    obtain rfl := Option.some.inj h
    exact ref_Text a0 w hw
  · cases h
def wherryref01_Int.f (a0 : Int) : Option (ByteArray) := if -9223372036854775808 ≤ a0 ∧ a0 ≤ 9223372036854775807 then some (Base.intB a0) else none
theorem wherryref01_Int.calls (a0 : Int) (r : ByteArray) (w : World) (h : wherryref01_Int.f a0 = some r) :
    Calls Tryd.prog 52 #[.int .i64 a0] w fun e w' => e = .returned (.string r) ∧ Below w.heap.size w w' := by
  unfold wherryref01_Int.f at h
  split at h
  · rename_i hw
    obtain rfl := Option.some.inj h
    exact ref_Int a0 w hw.1 hw.2
  · cases h
def wherryref09_Bytes.f (a0_0 : Int) (a0_1 : Int) (a0_2 : ByteArray) : Option (ByteArray) := (wherryref09_May.f a0_0 a0_1 a0_2).bind fun t213 => (if t213 = true then (if a0_0 = 3 then ((wherryref01_Text.f a0_2).bind fun t214 => (if 1 + t214.size ≤ 9223372036854775807 then (some ((⟨#[3]⟩ : ByteArray) ++ t214)) else (none))) else ((some (([(a0_0) % 256] : List Int) : List Int)).bind fun y215 => ((wherryref01_Int.f a0_1).bind fun t218 => (if (strOfNums y215).size + t218.size ≤ 9223372036854775807 then (some ((strOfNums y215) ++ t218)) else (none))))) else (some (⟨#[]⟩ : ByteArray)))
def wherryref09_Bytes.T6 : Bool × List (List Nat × List Nat) := (true, [([], []), ([0], [0]), ([1], [1]), ([2], [2]), ([3], [3]), ([], []), ([5], [5]), ([6], [6]), ([4, 7], [4, 7]), ([8, 7, 0, 1, 2, 3, 4, 5, 6, 7, 8], [8])])
def wherryref09_Bytes.B6 : List Nat := [0, 1, 3, 7, 15, 0, 32, 96, 255, 511]
theorem wherryref09_Bytes.tab6 : rtab .any (opsOf Tryd.f25 6) = wherryref09_Bytes.T6 := by kernel_rfl
theorem wherryref09_Bytes.bits6 : waitsOk wherryref09_Bytes.T6.2 wherryref09_Bytes.B6 = true := by kernel_rfl
set_option maxHeartbeats 8000000 in
set_option maxRecDepth 100000 in
theorem wherryref09_Bytes.calls (a0_0 : Int) (a0_1 : Int) (a0_2 : ByteArray) (r : ByteArray) (w : World) (h : wherryref09_Bytes.f a0_0 a0_1 a0_2 = some r) :
    Calls Tryd.prog 25 #[.agg #[.int .i64 a0_0, .int .i64 a0_1, .string a0_2]] w fun e w' => e = .returned (.string r) ∧ Below w.heap.size w w' := by
  have hu23 := Tryd.underlying23
  have HB := Aside0.mk (Below.refl w.heap.size w)
  have H : ((wherryref09_May.f a0_0 a0_1 a0_2).bind fun t213 => (if t213 = true then (if a0_0 = 3 then ((wherryref01_Text.f a0_2).bind fun t214 => (if 1 + t214.size ≤ 9223372036854775807 then (some ((⟨#[3]⟩ : ByteArray) ++ t214)) else (none))) else ((some (([(a0_0) % 256] : List Int) : List Int)).bind fun y215 => ((wherryref01_Int.f a0_1).bind fun t218 => (if (strOfNums y215).size + t218.size ≤ 9223372036854775807 then (some ((strOfNums y215) ++ t218)) else (none))))) else (some (⟨#[]⟩ : ByteArray)))) = some r := h
  clear h
  replace H := Option.bind_eq_some_iff.mp H
  obtain ⟨t213, A20, H⟩ := H
  replace H : (if t213 = true then (if a0_0 = 3 then ((wherryref01_Text.f a0_2).bind fun t214 => (if 1 + t214.size ≤ 9223372036854775807 then (some ((⟨#[3]⟩ : ByteArray) ++ t214)) else (none))) else ((some (([(a0_0) % 256] : List Int) : List Int)).bind fun y215 => ((wherryref01_Int.f a0_1).bind fun t218 => (if (strOfNums y215).size + t218.size ≤ 9223372036854775807 then (some ((strOfNums y215) ++ t218)) else (none))))) else (some (⟨#[]⟩ : ByteArray))) = some r := H
  have A2 := Aside0.mk A20
  clear A20
  by_cases c3 : t213 = true
  · subst c3
    have H1 : (if a0_0 = 3 then ((wherryref01_Text.f a0_2).bind fun t214 => (if 1 + t214.size ≤ 9223372036854775807 then (some ((⟨#[3]⟩ : ByteArray) ++ t214)) else (none))) else ((some (([(a0_0) % 256] : List Int) : List Int)).bind fun y215 => ((wherryref01_Int.f a0_1).bind fun t218 => (if (strOfNums y215).size + t218.size ≤ 9223372036854775807 then (some ((strOfNums y215) ++ t218)) else (none))))) = some r := by rw [if_pos rfl] at H; exact H
    clear H
    have H := H1
    clear H1
    by_cases c4 : a0_0 = 3
    · rw [if_pos c4] at H
      have c4b0 : (a0_0 == 3) = true := beq_iff_eq.mpr c4
      have c4b1 : (a0_0 != 3) = false := bne_eq_false_iff_eq.mpr c4
      clear c4
      replace H := Option.bind_eq_some_iff.mp H
      obtain ⟨t214, A50, H⟩ := H
      replace H : (if 1 + t214.size ≤ 9223372036854775807 then (some ((⟨#[3]⟩ : ByteArray) ++ t214)) else (none)) = some r := H
      have A5 := Aside0.mk A50
      clear A50
      by_cases c6 : 1 + t214.size ≤ 9223372036854775807
      · rw [if_pos c6] at H
        have c6b0 := eq_true c6
        have c6b1 : decide (1 + t214.size ≤ 9223372036854775807) = true := decide_eq_true c6
        try have c6b2 : (9223372036854775807 < 1 + t214.size) = False := eq_false (Nat.not_lt.2 c6)
        obtain rfl := Option.some.inj H
        go_enter Tryd.func25, Tryd.ntmps25
        go_wp2_with (first | ((with_reducible refine gate_dst (N := 1) rfl ?_); refine box_event ?hg (N := 1) ?hd (cs := #[.int .i64 a0_0, .int .i64 a0_1, .string a0_2]) (t := 23) ?hr ?_; (case hd => rfl); (case hg => rfl); (case hr => first | (go_simp; done) | (go_simp; rfl)); intro gb212 hg w7 hbox hb; have n0_ := Aside0.mk (below_step (by repeat (first | (with_reducible first | exact HB.out | apply below_alloc | apply pw_below_drewN | apply below_drew1) | exact HB.out)) hb); have n1_ := Aside0.mk (hbox); have n2_ := Aside0.mk ((by rw [hg]; exact (below_size (by repeat (first | (with_reducible first | exact HB.out | apply below_alloc | apply pw_below_drewN | apply below_drew1) | exact HB.out))) : w.heap.size ≤ gb212)); have n3_ := Aside0.mk ((by rw [hg]; exact (below_size (by repeat (first | (with_reducible first | exact HB.out | apply below_alloc | apply pw_below_drewN | apply below_drew1) | exact HB.out))) : w.heap.size ≤ gb212)); clear HB; have HB := n0_; have BK212 := n1_; have GW212 := n2_; have GE212 := n3_; clear n0_ n1_ n2_ n3_; clear hb hbox hg; have hcz8_0 : w7.cell? ⟨gb212, 0, none⟩ = some (.int .i64 a0_0) := (blk_cell BK212.out 0).trans rfl; have hcz8_1 : w7.cell? ⟨gb212, 1, none⟩ = some (.int .i64 a0_1) := (blk_cell BK212.out 1).trans rfl; have hcz8_2 : w7.cell? ⟨gb212, 2, none⟩ = some (.string a0_2) := (blk_cell BK212.out 2).trans rfl; have hfz8_0 := blk_frozen BK212.out 0; have hfz8_1 := blk_frozen BK212.out 1; have hfz8_2 := blk_frozen BK212.out 2) | ((with_reducible refine gate_callee (f := 11) rfl ?_); refine goesL_ (some 5) rfl rfl Tryd.func11 (by kernel_rfl) rfl #[.agg #[.int .i64 a0_0, .int .i64 a0_1, .string a0_2]] rfl (by (try simp only [List.map_toArray, List.map_cons, List.map_nil]); first | done | rfl | (simp only [List.length_drop, List.length_take]; rfl)) ?_; (with_reducible refine (wherryref09_May.calls a0_0 a0_1 a0_2 true _ A2.out).mono ?_); rintro e w9 ⟨rfl, hb⟩; refine ⟨_, rfl, ?_⟩; have n0_ := Aside0.mk (blk_below (g := gb212) (o := .cells #[.int .i64 a0_0, .int .i64 a0_1, .string a0_2] 23 (0, 0)) (by (with_reducible repeat (first | refine blk_drewN ?_ _ | refine blk_drew ?_ | refine blk_alloc ?_ _)); exact BK212.out) hb); have n1_ := Aside0.mk (below_step (by repeat (first | (with_reducible first | exact HB.out | apply below_alloc | apply pw_below_drewN | apply below_drew1 | refine below_set ?_ GE212.out) | exact HB.out)) hb); clear BK212; clear HB; have BK212 := n0_; have HB := n1_; clear n0_ n1_; (try clear hb); (try clear hb2); (try clear hk); (try clear hi); have hcz10_0 : w9.cell? ⟨gb212, 0, none⟩ = some (.int .i64 a0_0) := (blk_cell BK212.out 0).trans rfl; have hcz10_1 : w9.cell? ⟨gb212, 1, none⟩ = some (.int .i64 a0_1) := (blk_cell BK212.out 1).trans rfl; have hcz10_2 : w9.cell? ⟨gb212, 2, none⟩ = some (.string a0_2) := (blk_cell BK212.out 2).trans rfl; have hfz10_0 := blk_frozen BK212.out 0; have hfz10_1 := blk_frozen BK212.out 1; have hfz10_2 := blk_frozen BK212.out 2) | ((with_reducible refine gate_callee (f := 51) rfl ?_); refine goesL_ (some 13) rfl rfl Tryd.func51 (by kernel_rfl) rfl #[.string a0_2] rfl (by (try simp only [List.map_toArray, List.map_cons, List.map_nil]); first | done | rfl | (simp only [List.length_drop, List.length_take]; rfl)) ?_; (with_reducible refine (wherryref01_Text.calls a0_2 t214 _ A5.out).mono ?_); rintro e w11 ⟨rfl, hb⟩; refine ⟨_, rfl, ?_⟩; have n0_ := Aside0.mk (blk_below (g := gb212) (o := .cells #[.int .i64 a0_0, .int .i64 a0_1, .string a0_2] 23 (0, 0)) (by (with_reducible repeat (first | refine blk_drewN ?_ _ | refine blk_drew ?_ | refine blk_alloc ?_ _)); exact BK212.out) hb); have n1_ := Aside0.mk (below_step (by repeat (first | (with_reducible first | exact HB.out | apply below_alloc | apply pw_below_drewN | apply below_drew1 | refine below_set ?_ GE212.out) | exact HB.out)) hb); clear BK212; clear HB; have BK212 := n0_; have HB := n1_; clear n0_ n1_; (try clear hb); (try clear hb2); (try clear hk); (try clear hi)))
        go_ret
        exact ⟨by first | rfl | (simp [errW_none, errW_some] <;> rfl) | (simp [*, errW_none, errW_some] <;> rfl), by repeat (first | (with_reducible first | exact HB.out | apply below_alloc | apply pw_below_drewN | apply below_drew1 | refine below_set ?_ GE212.out) | exact HB.out)⟩
      · rw [if_neg c6] at H
        exact absurd H (by simp)
    · rw [if_neg c4] at H
      have c4b0 : (a0_0 == 3) = false := beq_eq_false_iff_ne.mpr c4
      have c4b1 : (a0_0 != 3) = true := bne_iff_ne.mpr c4
      obtain ⟨y215, hy215⟩ : ∃ y_ : List Int, y_ = (([(a0_0) % 256] : List Int)) := ⟨_, rfl⟩
      replace H : ((wherryref01_Int.f a0_1).bind fun t218 => (if (strOfNums y215).size + t218.size ≤ 9223372036854775807 then (some ((strOfNums y215) ++ t218)) else (none))) = some r := by first | (rw [hy215]; with_reducible exact H) | (have H2_ := (Option.bind_some _ _).symm.trans H; rw [hy215]; with_reducible exact H2_) | (have H2_ := (Option.bind_some _ _).symm.trans H; with_reducible exact H2_) | with_reducible exact H | (rw [hy215]; exact H) | exact H
      have Ny215 := Aside0.mk hy215
      clear hy215
      replace H := Option.bind_eq_some_iff.mp H
      obtain ⟨t218, A120, H⟩ := H
      replace H : (if (strOfNums y215).size + t218.size ≤ 9223372036854775807 then (some ((strOfNums y215) ++ t218)) else (none)) = some r := H
      have A12 := Aside0.mk A120
      clear A120
      by_cases c13 : (strOfNums y215).size + t218.size ≤ 9223372036854775807
      · rw [if_pos c13] at H
        have c13b0 := eq_true c13
        have c13b1 : decide ((strOfNums y215).size + t218.size ≤ 9223372036854775807) = true := decide_eq_true c13
        try have c13b2 : (9223372036854775807 < (strOfNums y215).size + t218.size) = False := eq_false (Nat.not_lt.2 c13)
        obtain rfl := Option.some.inj H
        go_enter Tryd.func25, Tryd.ntmps25
        try go_wp2_with (first | ((with_reducible refine gate_dst (N := 1) rfl ?_); refine box_event ?hg (N := 1) ?hd (cs := #[.int .i64 a0_0, .int .i64 a0_1, .string a0_2]) (t := 23) ?hr ?_; (case hd => rfl); (case hg => rfl); (case hr => first | (go_simp; done) | (go_simp; rfl)); intro gb212 hg w14 hbox hb; have n0_ := Aside0.mk (below_step (by repeat (first | (with_reducible first | exact HB.out | apply below_alloc | apply pw_below_drewN | apply below_drew1) | exact HB.out)) hb); have n1_ := Aside0.mk (hbox); have n2_ := Aside0.mk ((by rw [hg]; exact (below_size (by repeat (first | (with_reducible first | exact HB.out | apply below_alloc | apply pw_below_drewN | apply below_drew1) | exact HB.out))) : w.heap.size ≤ gb212)); have n3_ := Aside0.mk ((by rw [hg]; exact (below_size (by repeat (first | (with_reducible first | exact HB.out | apply below_alloc | apply pw_below_drewN | apply below_drew1) | exact HB.out))) : w.heap.size ≤ gb212)); clear HB; have HB := n0_; have BK212 := n1_; have GW212 := n2_; have GE212 := n3_; clear n0_ n1_ n2_ n3_; clear hb hbox hg; have hcz15_0 : w14.cell? ⟨gb212, 0, none⟩ = some (.int .i64 a0_0) := (blk_cell BK212.out 0).trans rfl; have hcz15_1 : w14.cell? ⟨gb212, 1, none⟩ = some (.int .i64 a0_1) := (blk_cell BK212.out 1).trans rfl; have hcz15_2 : w14.cell? ⟨gb212, 2, none⟩ = some (.string a0_2) := (blk_cell BK212.out 2).trans rfl; have hfz15_0 := blk_frozen BK212.out 0; have hfz15_1 := blk_frozen BK212.out 1; have hfz15_2 := blk_frozen BK212.out 2) | ((with_reducible refine gate_callee (f := 11) rfl ?_); refine goesL_ (some 5) rfl rfl Tryd.func11 (by kernel_rfl) rfl #[.agg #[.int .i64 a0_0, .int .i64 a0_1, .string a0_2]] rfl (by (try simp only [List.map_toArray, List.map_cons, List.map_nil]); first | done | rfl | (simp only [List.length_drop, List.length_take]; rfl)) ?_; (with_reducible refine (wherryref09_May.calls a0_0 a0_1 a0_2 true _ A2.out).mono ?_); rintro e w16 ⟨rfl, hb⟩; refine ⟨_, rfl, ?_⟩; have n0_ := Aside0.mk (blk_below (g := gb212) (o := .cells #[.int .i64 a0_0, .int .i64 a0_1, .string a0_2] 23 (0, 0)) (by (with_reducible repeat (first | refine blk_drewN ?_ _ | refine blk_drew ?_ | refine blk_alloc ?_ _)); exact BK212.out) hb); have n1_ := Aside0.mk (below_step (by repeat (first | (with_reducible first | exact HB.out | apply below_alloc | apply pw_below_drewN | apply below_drew1 | refine below_set ?_ GE212.out) | exact HB.out)) hb); clear BK212; clear HB; have BK212 := n0_; have HB := n1_; clear n0_ n1_; (try clear hb); (try clear hb2); (try clear hk); (try clear hi); have hcz17_0 : w16.cell? ⟨gb212, 0, none⟩ = some (.int .i64 a0_0) := (blk_cell BK212.out 0).trans rfl; have hcz17_1 : w16.cell? ⟨gb212, 1, none⟩ = some (.int .i64 a0_1) := (blk_cell BK212.out 1).trans rfl; have hcz17_2 : w16.cell? ⟨gb212, 2, none⟩ = some (.string a0_2) := (blk_cell BK212.out 2).trans rfl; have hfz17_0 := blk_frozen BK212.out 0; have hfz17_1 := blk_frozen BK212.out 1; have hfz17_2 := blk_frozen BK212.out 2))
        have n0_ := Aside0.mk (blk_drew BK212.out)
        have n1_ := Aside0.mk (below_drew1 HB.out)
        clear BK212
        clear HB
        have BK212 := n0_
        have HB := n1_
        clear n0_ n1_
        refine start_ (n := 10) (S := fun w' => w'.cell? ⟨gb212, 0, none⟩ = some (.int .i64 a0_0) ∧ w'.cell? ⟨gb212, 1, none⟩ = some (.int .i64 a0_1) ∧ w'.cell? ⟨gb212, 2, none⟩ = some (.string a0_2)) (ds := []) #[false, false, false, false, false, false, false, false, false, false] (by kernel_rfl) rfl rfl ⟨(blk_cell BK212.out 0).trans rfl, (blk_cell BK212.out 1).trans rfl, (blk_cell BK212.out 2).trans rfl⟩ (fun hHeld => ?_); refine with_tabW wherryref09_Bytes.tab6 wherryref09_Bytes.bits6 (fun HT_ HW_ => ?_)
        generalize w16.drew = w18 at BK212 HB hHeld ⊢
        refine pure_ (i := 0) (N := some 15) (v := ?_) (a' := ?_) #[true, false, false, false, false, false, false, false, false, false] rfl rfl (any_of HT_.out (by kernel_rfl)) (fun _ _ _ h => h) (Or.inl ⟨by rfl, ?_⟩) ?_ ?_
        rotate_left
        · intro w'
          go_simp
          with_reducible rfl
        rotate_left
        · simp only [Act.put, List.setIfInBounds_toArray, List.set_cons_zero, List.set_cons_succ, i64_w, i32_w]
          rfl
        refine pure_ (i := 5) (N := some 20) (v := ?_) (a' := ?_) #[true, false, false, false, false, true, false, false, false, false] rfl rfl (any_of HT_.out (by kernel_rfl)) (fun _ _ _ h => h) (Or.inl ⟨by rfl, ?_⟩) ?_ ?_
        rotate_left
        · intro w'
          go_simp
          with_reducible rfl
        rotate_left
        · simp only [Act.put, List.setIfInBounds_toArray, List.set_cons_zero, List.set_cons_succ, i64_w, i32_w]
          rfl
        refine take_ (i := 1) (N := some 16) (v := ?_) (a' := ?_) #[true, true, false, false, false, true, false, false, false, false] rfl rfl (take_ofW HT_.out HW_.out (by kernel_rfl)) (fun _ _ _ h => h) (Or.inl ⟨by rfl, ?_⟩) hHeld ?_ ?_
        rotate_left
        · rintro w' ⟨s0, s1, s2⟩
          go_simp
          with_reducible rfl
        rotate_left
        · simp only [Act.put, List.setIfInBounds_toArray, List.set_cons_zero, List.set_cons_succ, i64_w, i32_w]
          rfl
        refine pure_ (i := 2) (N := some 17) (v := ?_) (a' := ?_) #[true, true, true, false, false, true, false, false, false, false] rfl rfl (any_of HT_.out (by kernel_rfl)) (fun _ _ _ h => h) (Or.inl ⟨by rfl, ?_⟩) ?_ ?_
        rotate_left
        · intro w'
          go_simp
          with_reducible rfl
        rotate_left
        · simp only [Act.put, List.setIfInBounds_toArray, List.set_cons_zero, List.set_cons_succ, i64_w, i32_w]
          rfl
        refine take_ (i := 6) (N := some 21) (v := ?_) (a' := ?_) #[true, true, true, false, false, true, true, false, false, false] rfl rfl (take_ofW HT_.out HW_.out (by kernel_rfl)) (fun _ _ _ h => h) (Or.inl ⟨by rfl, ?_⟩) hHeld ?_ ?_
        rotate_left
        · rintro w' ⟨s0, s1, s2⟩
          go_simp
          with_reducible rfl
        rotate_left
        · simp only [Act.put, List.setIfInBounds_toArray, List.set_cons_zero, List.set_cons_succ, i64_w, i32_w]
          rfl
        refine join_ (σ := Value) 2 #[true, true, true, true, true, true, true, true, false, false] (fun s_ => [(18, s_), (19, .string (strOfNums y215)), (22, .string t218)]) (fun s_ w' => (w'.cell? ⟨gb212, 0, none⟩ = some (.int .i64 a0_0) ∧ w'.cell? ⟨gb212, 1, none⟩ = some (.int .i64 a0_1) ∧ w'.cell? ⟨gb212, 2, none⟩ = some (.string a0_2)) ∧ (Kd.R (Kd.int .u8) 5 w' w.heap.size (fun _ => True) s_ y215) ∧ (w'.heap[gb212]? = some (.cells #[.int .i64 a0_0, .int .i64 a0_1, .string a0_2] 23 (0, 0))) ∧ (Below w.heap.size w w')) ?_ ?_
        rotate_left
        · intro hCont
          refine two_ (i := 3) (j := 7) (Ni := some 18) (Nj := some 22) #[true, true, true, true, false, true, true, false, false, false] #[true, true, true, false, false, true, true, true, false, false] rfl rfl rfl rfl (two_of HT_.out (by kernel_rfl)) (by decide) (by decide) (fun K hK => ?_) (fun K hK => ?_)
          · skip
            refine Kd.R_lit_step (Kd.int .u8) _ 5 ?hg (N := 18) ?hd (xs := ([(a0_0) % 256] : List Int)) (inner := [.int .u8 ((a0_0) % 256)]) (ok := fun _ => True) (okp := fun _ => True) ?hr ?hp (fun _ hk => hk) trivial (Below.refl _ _) (Nat.le_refl _) (by simp) ?_; (case hd => rfl); (case hg => rfl); (case hr => first | (go_simp; done) | (go_simp; rfl)); (case hp => exact (Reps.one (show Kd.M (Kd.int .u8) _ _ _ ((a0_0) % 256) [.int .u8 ((a0_0) % 256)] from rfl) (Reps.none _ _)))
            intro v216 w19 ho20 hb hg_ hnew_
            clear hg_ hnew_
            (first | rw [← Ny215.out] at ho20 | (simp only [Int.reduceToNat] at ho20; rw [← Ny215.out] at ho20))
            have n0_ := Aside0.mk (Kd.R_lower ho20 (below_size (by repeat (first | (with_reducible first | exact HB.out | apply below_alloc | apply pw_below_drewN | apply below_drew1 | refine below_set ?_ GE212.out) | exact HB.out))))
            have n1_ := Aside0.mk (blk_below (g := gb212) (o := .cells #[.int .i64 a0_0, .int .i64 a0_1, .string a0_2] 23 (0, 0)) (by (with_reducible repeat (first | refine blk_drewN ?_ _ | refine blk_drew ?_ | refine blk_alloc ?_ _)); exact BK212.out) hb)
            have n2_ := Aside0.mk (below_step (by repeat (first | (with_reducible first | exact HB.out | apply below_alloc | apply pw_below_drewN | apply below_drew1 | refine below_set ?_ GE212.out) | exact HB.out)) hb)
            clear BK212
            clear HB
            have HO217 := n0_
            have BK212 := n1_
            have HB := n2_
            clear n0_ n1_ n2_
            clear hb ho20
            refine hK.out _ _ ⟨(blk_cell BK212.out 0).trans rfl, (blk_cell BK212.out 1).trans rfl, (blk_cell BK212.out 2).trans rfl⟩ (fun hHeld => ?_)
            clear hK K
            refine norm_ (a' := ?_) ?_ ?_
            rotate_left
            · show Act.put _ (some 18) _ = _
              simp only [Act.put, List.setIfInBounds_toArray, List.set_cons_zero, List.set_cons_succ, i64_w, i32_w]
              rfl
            refine two_ (i := 4) (j := 7) (Ni := some 19) (Nj := some 22) #[true, true, true, true, true, true, true, false, false, false] #[true, true, true, true, false, true, true, true, false, false] rfl rfl rfl rfl (two_of HT_.out (by kernel_rfl)) (by decide) (by decide) (fun K hK => ?_) (fun K hK => ?_)
            · skip
              have hcv21 := own_string (P := Tryd.prog) Tryd.underlying62 Tryd.underlying5 Tryd.underlying9 (Kd.own_of_R HO217.out)
              refine value_ (w1 := ?_) (v := ?_) (by rfl) rfl ?_ ?_
              rotate_left 2
              · go_simp
                constructor
                · rfl
                · rfl
              clear hcv21
              refine hK.out _ _ ⟨(blk_cell BK212.out 0).trans rfl, (blk_cell BK212.out 1).trans rfl, (blk_cell BK212.out 2).trans rfl⟩ (fun hHeld => ?_)
              clear hK K
              refine norm_ (a' := ?_) ?_ ?_
              rotate_left
              · show Act.put _ (some 19) _ = _
                simp only [Act.put, List.setIfInBounds_toArray, List.set_cons_zero, List.set_cons_succ, i64_w, i32_w]
                rfl
              refine one_ (i := 7) (N := some 22) #[true, true, true, true, true, true, true, true, false, false] rfl rfl (one_of HT_.out (by kernel_rfl)) (by decide) (fun K hK => ?_)
              refine goes_ Tryd.func52 (by kernel_rfl) rfl #[.int .i64 a0_1] (by rfl) rfl rfl (by (try simp only [List.map_toArray, List.map_cons, List.map_nil]); first | done | rfl | (simp only [List.length_drop, List.length_take]; rfl)) ?_
              with_reducible refine (wherryref01_Int.calls a0_1 t218 _ A12.out).mono ?_
              rintro e w22 ⟨rfl, hb⟩
              refine ⟨_, rfl, ?_⟩
              have n0_ := Aside0.mk (Kd.R_below (by (with_reducible repeat (first | apply Kd.R_alloc | apply Kd.R_drewN | apply Kd.R_drew)); exact HO217.out) hb)
              have n1_ := Aside0.mk (blk_below (g := gb212) (o := .cells #[.int .i64 a0_0, .int .i64 a0_1, .string a0_2] 23 (0, 0)) (by (with_reducible repeat (first | refine blk_drewN ?_ _ | refine blk_drew ?_ | refine blk_alloc ?_ _)); exact BK212.out) hb)
              have n2_ := Aside0.mk (below_step (by repeat (first | (with_reducible first | exact HB.out | apply below_alloc | apply pw_below_drewN | apply below_drew1 | refine below_set ?_ GE212.out) | exact HB.out)) hb)
              clear HO217
              clear BK212
              clear HB
              have HO217 := n0_
              have BK212 := n1_
              have HB := n2_
              clear n0_ n1_ n2_
              (try clear hb)
              (try clear hb2)
              (try clear hk)
              (try clear hi)
              refine hK.out _ _ ⟨(blk_cell BK212.out 0).trans rfl, (blk_cell BK212.out 1).trans rfl, (blk_cell BK212.out 2).trans rfl⟩ (fun hHeld => ?_)
              clear hK K
              refine norm_ (a' := ?_) ?_ ?_
              rotate_left
              · show Act.put _ (some 22) _ = _
                simp only [Act.put, List.setIfInBounds_toArray, List.set_cons_zero, List.set_cons_succ, i64_w, i32_w]
                rfl
              exact norm_ (by simp only [putAll, Act.put, List.setIfInBounds_toArray, List.set_cons_zero, List.set_cons_succ]) (hCont (v216) _ ⟨hHeld, (by (with_reducible repeat (first | apply Kd.R_alloc | apply Kd.R_drewN | apply Kd.R_drew)); exact HO217.out), (by (with_reducible repeat (first | refine blk_drewN ?_ _ | refine blk_drew ?_ | refine blk_alloc ?_ _)); exact BK212.out), (by repeat (first | (with_reducible first | exact HB.out | apply below_alloc | apply pw_below_drewN | apply below_drew1 | refine below_set ?_ GE212.out) | exact HB.out))⟩)
            · skip
              refine goes_ Tryd.func52 (by kernel_rfl) rfl #[.int .i64 a0_1] (by rfl) rfl rfl (by (try simp only [List.map_toArray, List.map_cons, List.map_nil]); first | done | rfl | (simp only [List.length_drop, List.length_take]; rfl)) ?_
              with_reducible refine (wherryref01_Int.calls a0_1 t218 _ A12.out).mono ?_
              rintro e w21 ⟨rfl, hb⟩
              refine ⟨_, rfl, ?_⟩
              have n0_ := Aside0.mk (Kd.R_below (by (with_reducible repeat (first | apply Kd.R_alloc | apply Kd.R_drewN | apply Kd.R_drew)); exact HO217.out) hb)
              have n1_ := Aside0.mk (blk_below (g := gb212) (o := .cells #[.int .i64 a0_0, .int .i64 a0_1, .string a0_2] 23 (0, 0)) (by (with_reducible repeat (first | refine blk_drewN ?_ _ | refine blk_drew ?_ | refine blk_alloc ?_ _)); exact BK212.out) hb)
              have n2_ := Aside0.mk (below_step (by repeat (first | (with_reducible first | exact HB.out | apply below_alloc | apply pw_below_drewN | apply below_drew1 | refine below_set ?_ GE212.out) | exact HB.out)) hb)
              clear HO217
              clear BK212
              clear HB
              have HO217 := n0_
              have BK212 := n1_
              have HB := n2_
              clear n0_ n1_ n2_
              (try clear hb)
              (try clear hb2)
              (try clear hk)
              (try clear hi)
              refine hK.out _ _ ⟨(blk_cell BK212.out 0).trans rfl, (blk_cell BK212.out 1).trans rfl, (blk_cell BK212.out 2).trans rfl⟩ (fun hHeld => ?_)
              clear hK K
              refine norm_ (a' := ?_) ?_ ?_
              rotate_left
              · show Act.put _ (some 22) _ = _
                simp only [Act.put, List.setIfInBounds_toArray, List.set_cons_zero, List.set_cons_succ, i64_w, i32_w]
                rfl
              refine one_ (i := 4) (N := some 19) #[true, true, true, true, true, true, true, true, false, false] rfl rfl (one_of HT_.out (by kernel_rfl)) (by decide) (fun K hK => ?_)
              have hcv22 := own_string (P := Tryd.prog) Tryd.underlying62 Tryd.underlying5 Tryd.underlying9 (Kd.own_of_R HO217.out)
              refine value_ (w1 := ?_) (v := ?_) (by rfl) rfl ?_ ?_
              rotate_left 2
              · go_simp
                constructor
                · rfl
                · rfl
              clear hcv22
              refine hK.out _ _ ⟨(blk_cell BK212.out 0).trans rfl, (blk_cell BK212.out 1).trans rfl, (blk_cell BK212.out 2).trans rfl⟩ (fun hHeld => ?_)
              clear hK K
              refine norm_ (a' := ?_) ?_ ?_
              rotate_left
              · show Act.put _ (some 19) _ = _
                simp only [Act.put, List.setIfInBounds_toArray, List.set_cons_zero, List.set_cons_succ, i64_w, i32_w]
                rfl
              exact norm_ (by simp only [putAll, Act.put, List.setIfInBounds_toArray, List.set_cons_zero, List.set_cons_succ]) (hCont (v216) _ ⟨hHeld, (by (with_reducible repeat (first | apply Kd.R_alloc | apply Kd.R_drewN | apply Kd.R_drew)); exact HO217.out), (by (with_reducible repeat (first | refine blk_drewN ?_ _ | refine blk_drew ?_ | refine blk_alloc ?_ _)); exact BK212.out), (by repeat (first | (with_reducible first | exact HB.out | apply below_alloc | apply pw_below_drewN | apply below_drew1 | refine below_set ?_ GE212.out) | exact HB.out))⟩)
          · skip
            refine goes_ Tryd.func52 (by kernel_rfl) rfl #[.int .i64 a0_1] (by rfl) rfl rfl (by (try simp only [List.map_toArray, List.map_cons, List.map_nil]); first | done | rfl | (simp only [List.length_drop, List.length_take]; rfl)) ?_
            with_reducible refine (wherryref01_Int.calls a0_1 t218 _ A12.out).mono ?_
            rintro e w19 ⟨rfl, hb⟩
            refine ⟨_, rfl, ?_⟩
            have n0_ := Aside0.mk (blk_below (g := gb212) (o := .cells #[.int .i64 a0_0, .int .i64 a0_1, .string a0_2] 23 (0, 0)) (by (with_reducible repeat (first | refine blk_drewN ?_ _ | refine blk_drew ?_ | refine blk_alloc ?_ _)); exact BK212.out) hb)
            have n1_ := Aside0.mk (below_step (by repeat (first | (with_reducible first | exact HB.out | apply below_alloc | apply pw_below_drewN | apply below_drew1 | refine below_set ?_ GE212.out) | exact HB.out)) hb)
            clear BK212
            clear HB
            have BK212 := n0_
            have HB := n1_
            clear n0_ n1_
            (try clear hb)
            (try clear hb2)
            (try clear hk)
            (try clear hi)
            refine hK.out _ _ ⟨(blk_cell BK212.out 0).trans rfl, (blk_cell BK212.out 1).trans rfl, (blk_cell BK212.out 2).trans rfl⟩ (fun hHeld => ?_)
            clear hK K
            refine norm_ (a' := ?_) ?_ ?_
            rotate_left
            · show Act.put _ (some 22) _ = _
              simp only [Act.put, List.setIfInBounds_toArray, List.set_cons_zero, List.set_cons_succ, i64_w, i32_w]
              rfl
            refine one_ (i := 3) (N := some 18) #[true, true, true, true, false, true, true, true, false, false] rfl rfl (one_of HT_.out (by kernel_rfl)) (by decide) (fun K hK => ?_)
            refine Kd.R_lit_step (Kd.int .u8) _ 5 ?hg (N := 18) ?hd (xs := ([(a0_0) % 256] : List Int)) (inner := [.int .u8 ((a0_0) % 256)]) (ok := fun _ => True) (okp := fun _ => True) ?hr ?hp (fun _ hk => hk) trivial (Below.refl _ _) (Nat.le_refl _) (by simp) ?_; (case hd => rfl); (case hg => rfl); (case hr => first | (go_simp; done) | (go_simp; rfl)); (case hp => exact (Reps.one (show Kd.M (Kd.int .u8) _ _ _ ((a0_0) % 256) [.int .u8 ((a0_0) % 256)] from rfl) (Reps.none _ _)))
            intro v216 w20 ho21 hb hg_ hnew_
            clear hg_ hnew_
            (first | rw [← Ny215.out] at ho21 | (simp only [Int.reduceToNat] at ho21; rw [← Ny215.out] at ho21))
            have n0_ := Aside0.mk (Kd.R_lower ho21 (below_size (by repeat (first | (with_reducible first | exact HB.out | apply below_alloc | apply pw_below_drewN | apply below_drew1 | refine below_set ?_ GE212.out) | exact HB.out))))
            have n1_ := Aside0.mk (blk_below (g := gb212) (o := .cells #[.int .i64 a0_0, .int .i64 a0_1, .string a0_2] 23 (0, 0)) (by (with_reducible repeat (first | refine blk_drewN ?_ _ | refine blk_drew ?_ | refine blk_alloc ?_ _)); exact BK212.out) hb)
            have n2_ := Aside0.mk (below_step (by repeat (first | (with_reducible first | exact HB.out | apply below_alloc | apply pw_below_drewN | apply below_drew1 | refine below_set ?_ GE212.out) | exact HB.out)) hb)
            clear BK212
            clear HB
            have HO217 := n0_
            have BK212 := n1_
            have HB := n2_
            clear n0_ n1_ n2_
            clear hb ho21
            refine hK.out _ _ ⟨(blk_cell BK212.out 0).trans rfl, (blk_cell BK212.out 1).trans rfl, (blk_cell BK212.out 2).trans rfl⟩ (fun hHeld => ?_)
            clear hK K
            refine norm_ (a' := ?_) ?_ ?_
            rotate_left
            · show Act.put _ (some 18) _ = _
              simp only [Act.put, List.setIfInBounds_toArray, List.set_cons_zero, List.set_cons_succ, i64_w, i32_w]
              rfl
            refine one_ (i := 4) (N := some 19) #[true, true, true, true, true, true, true, true, false, false] rfl rfl (one_of HT_.out (by kernel_rfl)) (by decide) (fun K hK => ?_)
            have hcv22 := own_string (P := Tryd.prog) Tryd.underlying62 Tryd.underlying5 Tryd.underlying9 (Kd.own_of_R HO217.out)
            refine value_ (w1 := ?_) (v := ?_) (by rfl) rfl ?_ ?_
            rotate_left 2
            · go_simp
              constructor
              · rfl
              · rfl
            clear hcv22
            refine hK.out _ _ ⟨(blk_cell BK212.out 0).trans rfl, (blk_cell BK212.out 1).trans rfl, (blk_cell BK212.out 2).trans rfl⟩ (fun hHeld => ?_)
            clear hK K
            refine norm_ (a' := ?_) ?_ ?_
            rotate_left
            · show Act.put _ (some 19) _ = _
              simp only [Act.put, List.setIfInBounds_toArray, List.set_cons_zero, List.set_cons_succ, i64_w, i32_w]
              rfl
            exact norm_ (by simp only [putAll, Act.put, List.setIfInBounds_toArray, List.set_cons_zero, List.set_cons_succ]) (hCont (v216) _ ⟨hHeld, (by (with_reducible repeat (first | apply Kd.R_alloc | apply Kd.R_drewN | apply Kd.R_drew)); exact HO217.out), (by (with_reducible repeat (first | refine blk_drewN ?_ _ | refine blk_drew ?_ | refine blk_alloc ?_ _)); exact BK212.out), (by repeat (first | (with_reducible first | exact HB.out | apply below_alloc | apply pw_below_drewN | apply below_drew1 | refine below_set ?_ GE212.out) | exact HB.out))⟩)
        rintro v216 w23 ⟨hS_, h0_, h1_, h2_⟩
        have n0_ : Aside0 (Kd.R (Kd.int .u8) 5 w23 w.heap.size (fun _ => True) v216 y215) := ⟨h0_⟩
        have n1_ : Aside0 (w23.heap[gb212]? = some (.cells #[.int .i64 a0_0, .int .i64 a0_1, .string a0_2] 23 (0, 0))) := ⟨h1_⟩
        have n2_ : Aside0 (Below w.heap.size w w23) := ⟨h2_⟩
        clear BK212
        clear HB
        clear h0_ h1_ h2_
        have HO217 := n0_
        have BK212 := n1_
        have HB := n2_
        clear n0_ n1_ n2_
        have hHeld : w23.cell? ⟨gb212, 0, none⟩ = some (.int .i64 a0_0) ∧ w23.cell? ⟨gb212, 1, none⟩ = some (.int .i64 a0_1) ∧ w23.cell? ⟨gb212, 2, none⟩ = some (.string a0_2) := hS_
        refine norm_ (a' := ?_) ?_ ?_
        rotate_left
        · simp only [putAll, Act.put, List.setIfInBounds_toArray, List.set_cons_zero, List.set_cons_succ]
          rfl
        refine pure_ (i := 8) (N := some 23) (v := ?_) (a' := ?_) #[true, true, true, true, true, true, true, true, true, false] rfl rfl (any_of HT_.out (by kernel_rfl)) (fun _ _ _ h => h) (Or.inl ⟨by rfl, ?_⟩) ?_ ?_
        rotate_left
        · intro w'
          go_simp
          with_reducible rfl
        rotate_left
        · simp only [Act.put, List.setIfInBounds_toArray, List.set_cons_zero, List.set_cons_succ, i64_w, i32_w]
          rfl
        refine pure_ (i := 9) (N := some 2) (v := ?_) (a' := ?_) #[true, true, true, true, true, true, true, true, true, true] rfl rfl (any_of HT_.out (by kernel_rfl)) (fun _ _ _ h => h) (Or.inl ⟨by rfl, ?_⟩) ?_ ?_
        rotate_left
        · intro w'
          go_simp
          with_reducible rfl
        rotate_left
        · simp only [Act.put, List.setIfInBounds_toArray, List.set_cons_zero, List.set_cons_succ, i64_w, i32_w]
          rfl
        refine done_ (done_of HT_.out (by kernel_rfl)) ?_
        try go_wp2
        go_ret
        exact ⟨by first | rfl | (simp [errW_none, errW_some] <;> rfl) | (simp [*, errW_none, errW_some] <;> rfl), by repeat (first | (with_reducible first | exact HB.out | apply below_alloc | apply pw_below_drewN | apply below_drew1 | refine below_set ?_ GE212.out) | exact HB.out)⟩
      · rw [if_neg c13] at H
        exact absurd H (by simp)
  · replace c3 := Bool.eq_false_iff.mpr c3
    subst c3
    have H1 : (some (⟨#[]⟩ : ByteArray)) = some r := by rw [if_neg (show ¬ (false = true) by decide)] at H; exact H
    clear H
    have H := H1
    clear H1
    obtain rfl := Option.some.inj H
    go_enter Tryd.func25, Tryd.ntmps25
    go_wp2_with (first | ((with_reducible refine gate_dst (N := 1) rfl ?_); refine box_event ?hg (N := 1) ?hd (cs := #[.int .i64 a0_0, .int .i64 a0_1, .string a0_2]) (t := 23) ?hr ?_; (case hd => rfl); (case hg => rfl); (case hr => first | (go_simp; done) | (go_simp; rfl)); intro gb212 hg w24 hbox hb; have n0_ := Aside0.mk (below_step (by repeat (first | (with_reducible first | exact HB.out | apply below_alloc | apply pw_below_drewN | apply below_drew1) | exact HB.out)) hb); have n1_ := Aside0.mk (hbox); have n2_ := Aside0.mk ((by rw [hg]; exact (below_size (by repeat (first | (with_reducible first | exact HB.out | apply below_alloc | apply pw_below_drewN | apply below_drew1) | exact HB.out))) : w.heap.size ≤ gb212)); have n3_ := Aside0.mk ((by rw [hg]; exact (below_size (by repeat (first | (with_reducible first | exact HB.out | apply below_alloc | apply pw_below_drewN | apply below_drew1) | exact HB.out))) : w.heap.size ≤ gb212)); clear HB; have HB := n0_; have BK212 := n1_; have GW212 := n2_; have GE212 := n3_; clear n0_ n1_ n2_ n3_; clear hb hbox hg; have hcz25_0 : w24.cell? ⟨gb212, 0, none⟩ = some (.int .i64 a0_0) := (blk_cell BK212.out 0).trans rfl; have hcz25_1 : w24.cell? ⟨gb212, 1, none⟩ = some (.int .i64 a0_1) := (blk_cell BK212.out 1).trans rfl; have hcz25_2 : w24.cell? ⟨gb212, 2, none⟩ = some (.string a0_2) := (blk_cell BK212.out 2).trans rfl; have hfz25_0 := blk_frozen BK212.out 0; have hfz25_1 := blk_frozen BK212.out 1; have hfz25_2 := blk_frozen BK212.out 2) | ((with_reducible refine gate_callee (f := 11) rfl ?_); refine goesL_ (some 5) rfl rfl Tryd.func11 (by kernel_rfl) rfl #[.agg #[.int .i64 a0_0, .int .i64 a0_1, .string a0_2]] rfl (by (try simp only [List.map_toArray, List.map_cons, List.map_nil]); first | done | rfl | (simp only [List.length_drop, List.length_take]; rfl)) ?_; (with_reducible refine (wherryref09_May.calls a0_0 a0_1 a0_2 false _ A2.out).mono ?_); rintro e w26 ⟨rfl, hb⟩; refine ⟨_, rfl, ?_⟩; have n0_ := Aside0.mk (blk_below (g := gb212) (o := .cells #[.int .i64 a0_0, .int .i64 a0_1, .string a0_2] 23 (0, 0)) (by (with_reducible repeat (first | refine blk_drewN ?_ _ | refine blk_drew ?_ | refine blk_alloc ?_ _)); exact BK212.out) hb); have n1_ := Aside0.mk (below_step (by repeat (first | (with_reducible first | exact HB.out | apply below_alloc | apply pw_below_drewN | apply below_drew1 | refine below_set ?_ GE212.out) | exact HB.out)) hb); clear BK212; clear HB; have BK212 := n0_; have HB := n1_; clear n0_ n1_; (try clear hb); (try clear hb2); (try clear hk); (try clear hi)))
    go_ret
    exact ⟨by first | rfl | (simp [errW_none, errW_some] <;> rfl) | (simp [*, errW_none, errW_some] <;> rfl), by repeat (first | (with_reducible first | exact HB.out | apply below_alloc | apply pw_below_drewN | apply below_drew1 | refine below_set ?_ GE212.out) | exact HB.out)⟩
def wherryref09_decimal.l0 : Nat → Int → ByteArray → Bool → Option (ByteArray)
  | 0, _, _, _ => none
  | k + 1, x0, x3, x4 => if (Int.tmod x0 10) < 0 then ((some (([(wrap64 (48 + (wrap64 (-(Int.tmod x0 10))))) % 256] : List Int) : List Int)).bind fun y219 => (if (strOfNums y219).size + x3.size ≤ 9223372036854775807 then (if (wrap64 (Int.tdiv x0 10)) = 0 then (if x4 = true then (if 1 + ((strOfNums y219) ++ x3).size ≤ 9223372036854775807 then (some ((⟨#[45]⟩ : ByteArray) ++ ((strOfNums y219) ++ x3))) else (none)) else (some ((strOfNums y219) ++ x3))) else (wherryref09_decimal.l0 k (wrap64 (Int.tdiv x0 10)) ((strOfNums y219) ++ x3) x4)) else (none))) else ((some (([(wrap64 (48 + (Int.tmod x0 10))) % 256] : List Int) : List Int)).bind fun y222 => (if (strOfNums y222).size + x3.size ≤ 9223372036854775807 then (if (wrap64 (Int.tdiv x0 10)) = 0 then (if x4 = true then (if 1 + ((strOfNums y222) ++ x3).size ≤ 9223372036854775807 then (some ((⟨#[45]⟩ : ByteArray) ++ ((strOfNums y222) ++ x3))) else (none)) else (some ((strOfNums y222) ++ x3))) else (wherryref09_decimal.l0 k (wrap64 (Int.tdiv x0 10)) ((strOfNums y222) ++ x3) x4)) else (none)))
def wherryref09_decimal.f (k : Nat) (a0 : Int) : Option (ByteArray) := wherryref09_decimal.l0 k a0 (⟨#[]⟩ : ByteArray) (decide (a0 < 0))
theorem wherryref09_decimal.mono_l : ∀ k, (∀ y0 y1 y2, LeO (wherryref09_decimal.l0 k y0 y1 y2) (wherryref09_decimal.l0 (k + 1) y0 y1 y2))
  | 0 => fun _ _ _ r h => by simp [wherryref09_decimal.l0] at h
  | k + 1 => by
    have ih0 := wherryref09_decimal.mono_l k
    · intro y0 y1 y2
      unfold wherryref09_decimal.l0
      repeat' first
      | (with_reducible exact ih0 _ _ _)
      | (with_reducible exact LeO.refl _)
      | (with_reducible exact LeO.none _)
      | (with_reducible refine LeO.ite ?_ ?_)
      | (with_reducible refine LeO.bind ?_ (fun _ => ?_))
      | exact ih0 _ _ _
      | exact LeO.none _
      | refine LeO.ite ?_ ?_
      | refine LeO.bind ?_ (fun _ => ?_)
theorem wherryref09_decimal.mono : ∀ a0 k, LeO (wherryref09_decimal.f k a0) (wherryref09_decimal.f (k + 1) a0) := by
  intro a0 k
  have ih0 := wherryref09_decimal.mono_l k
  unfold wherryref09_decimal.f
  repeat' first
      | (with_reducible exact ih0 _ _ _)
      | (with_reducible exact LeO.refl _)
      | (with_reducible exact LeO.none _)
      | (with_reducible refine LeO.ite ?_ ?_)
      | (with_reducible refine LeO.bind ?_ (fun _ => ?_))
      | exact ih0 _ _ _
      | exact LeO.none _
      | refine LeO.ite ?_ ?_
      | refine LeO.bind ?_ (fun _ => ?_)
set_option maxHeartbeats 8000000 in
set_option maxRecDepth 100000 in
theorem wherryref09_decimal.calls (k : Nat) (a0 : Int) (r : ByteArray) (w : World) (h : wherryref09_decimal.f k a0 = some r) :
    Calls Tryd.prog 53 #[.int .i64 a0] w fun e w' => e = .returned (.string r) ∧ Below w.heap.size w w' := by
  have HB := Aside0.mk (Below.refl w.heap.size w)
  have H : (wherryref09_decimal.l0 k a0 (⟨#[]⟩ : ByteArray) (decide (a0 < 0))) = some r := h
  clear h
  have H' := Aside0.mk H
  clear H
  go_enter Tryd.func53, Tryd.ntmps53
  go_wp2
  go_loopg [0, 3] k (fun kq v0 v3 w' => ∃ (x0_1 : Int) (x3_1 : ByteArray), v0 = .int .i64 x0_1 ∧ v3 = .string x3_1 ∧ Aside0 (wherryref09_decimal.l0 kq x0_1 x3_1 (decide (a0 < 0)) = some r) ∧ Aside0 (kq ≤ k) ∧ Aside0 (Below w.heap.size w w'))
  case atStart => exact ⟨(a0), ((⟨#[]⟩ : ByteArray)), (by first | rfl | (simp; done) | (simp [*]; done)), (by first | rfl | (simp; done) | (simp [*]; done)), H', ⟨Nat.le_refl _⟩, ⟨by repeat (first | (with_reducible first | exact HB.out | apply below_alloc | apply pw_below_drewN | apply below_drew1) | exact HB.out)⟩⟩
  case round =>
    clear H'
    obtain ⟨x0_1, x3_1, rfl, rfl, HA, HK1, HB⟩ := hrel
    cases gk with
    | zero => exact absurd HA.out (by simp [wherryref09_decimal.l0])
    | succ k1 =>
      have H := HA.out
      clear HA
      simp only [wherryref09_decimal.l0] at H
      by_cases c2 : (Int.tmod x0_1 10) < 0
      · rw [if_pos c2] at H
        have c2b0 : decide ((Int.tmod x0_1 10) < 0) = true := decide_eq_true c2
        clear c2
        obtain ⟨y219, hy219⟩ : ∃ y_ : List Int, y_ = (([(wrap64 (48 + (wrap64 (-(Int.tmod x0_1 10))))) % 256] : List Int)) := ⟨_, rfl⟩
        replace H : (if (strOfNums y219).size + x3_1.size ≤ 9223372036854775807 then (if (wrap64 (Int.tdiv x0_1 10)) = 0 then (if (decide (a0 < 0)) = true then (if 1 + ((strOfNums y219) ++ x3_1).size ≤ 9223372036854775807 then (some ((⟨#[45]⟩ : ByteArray) ++ ((strOfNums y219) ++ x3_1))) else (none)) else (some ((strOfNums y219) ++ x3_1))) else (wherryref09_decimal.l0 k1 (wrap64 (Int.tdiv x0_1 10)) ((strOfNums y219) ++ x3_1) (decide (a0 < 0)))) else (none)) = some r := by first | (rw [hy219]; with_reducible exact H) | (have H2_ := (Option.bind_some _ _).symm.trans H; rw [hy219]; with_reducible exact H2_) | (have H2_ := (Option.bind_some _ _).symm.trans H; with_reducible exact H2_) | with_reducible exact H | (rw [hy219]; exact H) | exact H
        have Ny219 := Aside0.mk hy219
        clear hy219
        by_cases c3 : (strOfNums y219).size + x3_1.size ≤ 9223372036854775807
        · rw [if_pos c3] at H
          have c3b0 := eq_true c3
          have c3b1 : decide ((strOfNums y219).size + x3_1.size ≤ 9223372036854775807) = true := decide_eq_true c3
          try have c3b2 : (9223372036854775807 < (strOfNums y219).size + x3_1.size) = False := eq_false (Nat.not_lt.2 c3)
          by_cases c4 : (wrap64 (Int.tdiv x0_1 10)) = 0
          · rw [if_pos c4] at H
            have c4b0 : ((wrap64 (Int.tdiv x0_1 10)) == 0) = true := beq_iff_eq.mpr c4
            have c4b1 : ((wrap64 (Int.tdiv x0_1 10)) != 0) = false := bne_eq_false_iff_eq.mpr c4
            clear c4
            by_cases c5 : (decide (a0 < 0)) = true
            · rw [if_pos c5] at H
              have c5b0 : (decide (a0 < 0)) = true := c5
              clear c5
              by_cases c6 : 1 + ((strOfNums y219) ++ x3_1).size ≤ 9223372036854775807
              · rw [if_pos c6] at H
                have c6b0 := eq_true c6
                have c6b1 : decide (1 + ((strOfNums y219) ++ x3_1).size ≤ 9223372036854775807) = true := decide_eq_true c6
                try have c6b2 : (9223372036854775807 < 1 + ((strOfNums y219) ++ x3_1).size) = False := eq_false (Nat.not_lt.2 c6)
                try (have c6b3 := c6b2; simp only [ByteArray.size_append] at c6b3)
                obtain rfl := Option.some.inj H
                go_wp2_with (first | ((with_reducible refine gate_dst (N := 17) rfl ?_); refine Kd.R_lit (Kd.int .u8) _ 5 ?hg (N := 17) ?hd (xs := ([(wrap64 (48 + (wrap64 (-(Int.tmod x0_1 10))))) % 256] : List Int)) (inner := [.int .u8 ((wrap64 (48 + (wrap64 (-(Int.tmod x0_1 10))))) % 256)]) (ok := fun _ => True) (okp := fun _ => True) ?hr ?hp (fun _ hk => hk) trivial (Below.refl _ _) (Nat.le_refl _) (by simp) ?_; (case hd => rfl); (case hg => rfl); (case hr => first | (go_simp; done) | (go_simp; rfl)); (case hp => exact (Reps.one (show Kd.M (Kd.int .u8) _ _ _ ((wrap64 (48 + (wrap64 (-(Int.tmod x0_1 10))))) % 256) [.int .u8 ((wrap64 (48 + (wrap64 (-(Int.tmod x0_1 10))))) % 256)] from rfl) (Reps.none _ _))); intro v220 w7 ho8 hb hg_ hnew_; clear hg_ hnew_; (first | rw [← Ny219.out] at ho8 | (simp only [Int.reduceToNat] at ho8; rw [← Ny219.out] at ho8)); have n0_ := Aside0.mk (Kd.R_lower ho8 (below_size (by repeat (first | (with_reducible first | exact HB.out | apply below_alloc | apply pw_below_drewN | apply below_drew1) | exact HB.out)))); have n1_ := Aside0.mk (below_step (by repeat (first | (with_reducible first | exact HB.out | apply below_alloc | apply pw_below_drewN | apply below_drew1) | exact HB.out)) hb); clear HB; have HO221 := n0_; have HB := n1_; clear n0_ n1_; clear hb ho8; have hcv9 := own_string (P := Tryd.prog) Tryd.underlying62 Tryd.underlying5 Tryd.underlying9 (Kd.own_of_R HO221.out)))
                go_ret
                exact ⟨by first | rfl | (simp [errW_none, errW_some] <;> rfl) | (simp [*, errW_none, errW_some] <;> rfl), by repeat (first | (with_reducible first | exact HB.out | apply below_alloc | apply pw_below_drewN | apply below_drew1) | exact HB.out)⟩
              · rw [if_neg c6] at H
                exact absurd H (by simp)
            · rw [if_neg c5] at H
              have c5b0 : (decide (a0 < 0)) = false := by simpa using c5
              clear c5
              obtain rfl := Option.some.inj H
              go_wp2_with (first | ((with_reducible refine gate_dst (N := 17) rfl ?_); refine Kd.R_lit (Kd.int .u8) _ 5 ?hg (N := 17) ?hd (xs := ([(wrap64 (48 + (wrap64 (-(Int.tmod x0_1 10))))) % 256] : List Int)) (inner := [.int .u8 ((wrap64 (48 + (wrap64 (-(Int.tmod x0_1 10))))) % 256)]) (ok := fun _ => True) (okp := fun _ => True) ?hr ?hp (fun _ hk => hk) trivial (Below.refl _ _) (Nat.le_refl _) (by simp) ?_; (case hd => rfl); (case hg => rfl); (case hr => first | (go_simp; done) | (go_simp; rfl)); (case hp => exact (Reps.one (show Kd.M (Kd.int .u8) _ _ _ ((wrap64 (48 + (wrap64 (-(Int.tmod x0_1 10))))) % 256) [.int .u8 ((wrap64 (48 + (wrap64 (-(Int.tmod x0_1 10))))) % 256)] from rfl) (Reps.none _ _))); intro v220 w10 ho11 hb hg_ hnew_; clear hg_ hnew_; (first | rw [← Ny219.out] at ho11 | (simp only [Int.reduceToNat] at ho11; rw [← Ny219.out] at ho11)); have n0_ := Aside0.mk (Kd.R_lower ho11 (below_size (by repeat (first | (with_reducible first | exact HB.out | apply below_alloc | apply pw_below_drewN | apply below_drew1) | exact HB.out)))); have n1_ := Aside0.mk (below_step (by repeat (first | (with_reducible first | exact HB.out | apply below_alloc | apply pw_below_drewN | apply below_drew1) | exact HB.out)) hb); clear HB; have HO221 := n0_; have HB := n1_; clear n0_ n1_; clear hb ho11; have hcv12 := own_string (P := Tryd.prog) Tryd.underlying62 Tryd.underlying5 Tryd.underlying9 (Kd.own_of_R HO221.out)))
              go_ret
              exact ⟨by first | rfl | (simp [errW_none, errW_some] <;> rfl) | (simp [*, errW_none, errW_some] <;> rfl), by repeat (first | (with_reducible first | exact HB.out | apply below_alloc | apply pw_below_drewN | apply below_drew1) | exact HB.out)⟩
          · rw [if_neg c4] at H
            have c4b0 : ((wrap64 (Int.tdiv x0_1 10)) == 0) = false := beq_eq_false_iff_ne.mpr c4
            have c4b1 : ((wrap64 (Int.tdiv x0_1 10)) != 0) = true := bne_iff_ne.mpr c4
            have H' := Aside0.mk H
            clear H
            go_wp2_with (first | ((with_reducible refine gate_dst (N := 17) rfl ?_); refine Kd.R_lit (Kd.int .u8) _ 5 ?hg (N := 17) ?hd (xs := ([(wrap64 (48 + (wrap64 (-(Int.tmod x0_1 10))))) % 256] : List Int)) (inner := [.int .u8 ((wrap64 (48 + (wrap64 (-(Int.tmod x0_1 10))))) % 256)]) (ok := fun _ => True) (okp := fun _ => True) ?hr ?hp (fun _ hk => hk) trivial (Below.refl _ _) (Nat.le_refl _) (by simp) ?_; (case hd => rfl); (case hg => rfl); (case hr => first | (go_simp; done) | (go_simp; rfl)); (case hp => exact (Reps.one (show Kd.M (Kd.int .u8) _ _ _ ((wrap64 (48 + (wrap64 (-(Int.tmod x0_1 10))))) % 256) [.int .u8 ((wrap64 (48 + (wrap64 (-(Int.tmod x0_1 10))))) % 256)] from rfl) (Reps.none _ _))); intro v220 w13 ho14 hb hg_ hnew_; clear hg_ hnew_; (first | rw [← Ny219.out] at ho14 | (simp only [Int.reduceToNat] at ho14; rw [← Ny219.out] at ho14)); have n0_ := Aside0.mk (Kd.R_lower ho14 (below_size (by repeat (first | (with_reducible first | exact HB.out | apply below_alloc | apply pw_below_drewN | apply below_drew1) | exact HB.out)))); have n1_ := Aside0.mk (below_step (by repeat (first | (with_reducible first | exact HB.out | apply below_alloc | apply pw_below_drewN | apply below_drew1) | exact HB.out)) hb); clear HB; have HO221 := n0_; have HB := n1_; clear n0_ n1_; clear hb ho14; have hcv15 := own_string (P := Tryd.prog) Tryd.underlying62 Tryd.underlying5 Tryd.underlying9 (Kd.own_of_R HO221.out)))
            go_roundg k1
            case measure => have := HK1.out; omega
            case rel => exact ⟨(wrap64 (Int.tdiv x0_1 10)), ((strOfNums y219) ++ x3_1), (by first | rfl | (simp; done) | (simp [*]; done)), (by first | rfl | (simp; done) | (simp [*]; done)), H', ⟨by have := HK1.out; omega⟩, ⟨by repeat (first | (with_reducible first | exact HB.out | apply below_alloc | apply pw_below_drewN | apply below_drew1) | exact HB.out)⟩⟩
        · rw [if_neg c3] at H
          exact absurd H (by simp)
      · rw [if_neg c2] at H
        have c2b0 : decide ((Int.tmod x0_1 10) < 0) = false := decide_eq_false c2
        clear c2
        obtain ⟨y222, hy222⟩ : ∃ y_ : List Int, y_ = (([(wrap64 (48 + (Int.tmod x0_1 10))) % 256] : List Int)) := ⟨_, rfl⟩
        replace H : (if (strOfNums y222).size + x3_1.size ≤ 9223372036854775807 then (if (wrap64 (Int.tdiv x0_1 10)) = 0 then (if (decide (a0 < 0)) = true then (if 1 + ((strOfNums y222) ++ x3_1).size ≤ 9223372036854775807 then (some ((⟨#[45]⟩ : ByteArray) ++ ((strOfNums y222) ++ x3_1))) else (none)) else (some ((strOfNums y222) ++ x3_1))) else (wherryref09_decimal.l0 k1 (wrap64 (Int.tdiv x0_1 10)) ((strOfNums y222) ++ x3_1) (decide (a0 < 0)))) else (none)) = some r := by first | (rw [hy222]; with_reducible exact H) | (have H2_ := (Option.bind_some _ _).symm.trans H; rw [hy222]; with_reducible exact H2_) | (have H2_ := (Option.bind_some _ _).symm.trans H; with_reducible exact H2_) | with_reducible exact H | (rw [hy222]; exact H) | exact H
        have Ny222 := Aside0.mk hy222
        clear hy222
        by_cases c16 : (strOfNums y222).size + x3_1.size ≤ 9223372036854775807
        · rw [if_pos c16] at H
          have c16b0 := eq_true c16
          have c16b1 : decide ((strOfNums y222).size + x3_1.size ≤ 9223372036854775807) = true := decide_eq_true c16
          try have c16b2 : (9223372036854775807 < (strOfNums y222).size + x3_1.size) = False := eq_false (Nat.not_lt.2 c16)
          by_cases c17 : (wrap64 (Int.tdiv x0_1 10)) = 0
          · rw [if_pos c17] at H
            have c17b0 : ((wrap64 (Int.tdiv x0_1 10)) == 0) = true := beq_iff_eq.mpr c17
            have c17b1 : ((wrap64 (Int.tdiv x0_1 10)) != 0) = false := bne_eq_false_iff_eq.mpr c17
            clear c17
            by_cases c18 : (decide (a0 < 0)) = true
            · rw [if_pos c18] at H
              have c18b0 : (decide (a0 < 0)) = true := c18
              clear c18
              by_cases c19 : 1 + ((strOfNums y222) ++ x3_1).size ≤ 9223372036854775807
              · rw [if_pos c19] at H
                have c19b0 := eq_true c19
                have c19b1 : decide (1 + ((strOfNums y222) ++ x3_1).size ≤ 9223372036854775807) = true := decide_eq_true c19
                try have c19b2 : (9223372036854775807 < 1 + ((strOfNums y222) ++ x3_1).size) = False := eq_false (Nat.not_lt.2 c19)
                try (have c19b3 := c19b2; simp only [ByteArray.size_append] at c19b3)
                obtain rfl := Option.some.inj H
                go_wp2_with (first | ((with_reducible refine gate_dst (N := 17) rfl ?_); refine Kd.R_lit (Kd.int .u8) _ 5 ?hg (N := 17) ?hd (xs := ([(wrap64 (48 + (Int.tmod x0_1 10))) % 256] : List Int)) (inner := [.int .u8 ((wrap64 (48 + (Int.tmod x0_1 10))) % 256)]) (ok := fun _ => True) (okp := fun _ => True) ?hr ?hp (fun _ hk => hk) trivial (Below.refl _ _) (Nat.le_refl _) (by simp) ?_; (case hd => rfl); (case hg => rfl); (case hr => first | (go_simp; done) | (go_simp; rfl)); (case hp => exact (Reps.one (show Kd.M (Kd.int .u8) _ _ _ ((wrap64 (48 + (Int.tmod x0_1 10))) % 256) [.int .u8 ((wrap64 (48 + (Int.tmod x0_1 10))) % 256)] from rfl) (Reps.none _ _))); intro v223 w20 ho21 hb hg_ hnew_; clear hg_ hnew_; (first | rw [← Ny222.out] at ho21 | (simp only [Int.reduceToNat] at ho21; rw [← Ny222.out] at ho21)); have n0_ := Aside0.mk (Kd.R_lower ho21 (below_size (by repeat (first | (with_reducible first | exact HB.out | apply below_alloc | apply pw_below_drewN | apply below_drew1) | exact HB.out)))); have n1_ := Aside0.mk (below_step (by repeat (first | (with_reducible first | exact HB.out | apply below_alloc | apply pw_below_drewN | apply below_drew1) | exact HB.out)) hb); clear HB; have HO224 := n0_; have HB := n1_; clear n0_ n1_; clear hb ho21; have hcv22 := own_string (P := Tryd.prog) Tryd.underlying62 Tryd.underlying5 Tryd.underlying9 (Kd.own_of_R HO224.out)))
                go_ret
                exact ⟨by first | rfl | (simp [errW_none, errW_some] <;> rfl) | (simp [*, errW_none, errW_some] <;> rfl), by repeat (first | (with_reducible first | exact HB.out | apply below_alloc | apply pw_below_drewN | apply below_drew1) | exact HB.out)⟩
              · rw [if_neg c19] at H
                exact absurd H (by simp)
            · rw [if_neg c18] at H
              have c18b0 : (decide (a0 < 0)) = false := by simpa using c18
              clear c18
              obtain rfl := Option.some.inj H
              go_wp2_with (first | ((with_reducible refine gate_dst (N := 17) rfl ?_); refine Kd.R_lit (Kd.int .u8) _ 5 ?hg (N := 17) ?hd (xs := ([(wrap64 (48 + (Int.tmod x0_1 10))) % 256] : List Int)) (inner := [.int .u8 ((wrap64 (48 + (Int.tmod x0_1 10))) % 256)]) (ok := fun _ => True) (okp := fun _ => True) ?hr ?hp (fun _ hk => hk) trivial (Below.refl _ _) (Nat.le_refl _) (by simp) ?_; (case hd => rfl); (case hg => rfl); (case hr => first | (go_simp; done) | (go_simp; rfl)); (case hp => exact (Reps.one (show Kd.M (Kd.int .u8) _ _ _ ((wrap64 (48 + (Int.tmod x0_1 10))) % 256) [.int .u8 ((wrap64 (48 + (Int.tmod x0_1 10))) % 256)] from rfl) (Reps.none _ _))); intro v223 w23 ho24 hb hg_ hnew_; clear hg_ hnew_; (first | rw [← Ny222.out] at ho24 | (simp only [Int.reduceToNat] at ho24; rw [← Ny222.out] at ho24)); have n0_ := Aside0.mk (Kd.R_lower ho24 (below_size (by repeat (first | (with_reducible first | exact HB.out | apply below_alloc | apply pw_below_drewN | apply below_drew1) | exact HB.out)))); have n1_ := Aside0.mk (below_step (by repeat (first | (with_reducible first | exact HB.out | apply below_alloc | apply pw_below_drewN | apply below_drew1) | exact HB.out)) hb); clear HB; have HO224 := n0_; have HB := n1_; clear n0_ n1_; clear hb ho24; have hcv25 := own_string (P := Tryd.prog) Tryd.underlying62 Tryd.underlying5 Tryd.underlying9 (Kd.own_of_R HO224.out)))
              go_ret
              exact ⟨by first | rfl | (simp [errW_none, errW_some] <;> rfl) | (simp [*, errW_none, errW_some] <;> rfl), by repeat (first | (with_reducible first | exact HB.out | apply below_alloc | apply pw_below_drewN | apply below_drew1) | exact HB.out)⟩
          · rw [if_neg c17] at H
            have c17b0 : ((wrap64 (Int.tdiv x0_1 10)) == 0) = false := beq_eq_false_iff_ne.mpr c17
            have c17b1 : ((wrap64 (Int.tdiv x0_1 10)) != 0) = true := bne_iff_ne.mpr c17
            have H' := Aside0.mk H
            clear H
            go_wp2_with (first | ((with_reducible refine gate_dst (N := 17) rfl ?_); refine Kd.R_lit (Kd.int .u8) _ 5 ?hg (N := 17) ?hd (xs := ([(wrap64 (48 + (Int.tmod x0_1 10))) % 256] : List Int)) (inner := [.int .u8 ((wrap64 (48 + (Int.tmod x0_1 10))) % 256)]) (ok := fun _ => True) (okp := fun _ => True) ?hr ?hp (fun _ hk => hk) trivial (Below.refl _ _) (Nat.le_refl _) (by simp) ?_; (case hd => rfl); (case hg => rfl); (case hr => first | (go_simp; done) | (go_simp; rfl)); (case hp => exact (Reps.one (show Kd.M (Kd.int .u8) _ _ _ ((wrap64 (48 + (Int.tmod x0_1 10))) % 256) [.int .u8 ((wrap64 (48 + (Int.tmod x0_1 10))) % 256)] from rfl) (Reps.none _ _))); intro v223 w26 ho27 hb hg_ hnew_; clear hg_ hnew_; (first | rw [← Ny222.out] at ho27 | (simp only [Int.reduceToNat] at ho27; rw [← Ny222.out] at ho27)); have n0_ := Aside0.mk (Kd.R_lower ho27 (below_size (by repeat (first | (with_reducible first | exact HB.out | apply below_alloc | apply pw_below_drewN | apply below_drew1) | exact HB.out)))); have n1_ := Aside0.mk (below_step (by repeat (first | (with_reducible first | exact HB.out | apply below_alloc | apply pw_below_drewN | apply below_drew1) | exact HB.out)) hb); clear HB; have HO224 := n0_; have HB := n1_; clear n0_ n1_; clear hb ho27; have hcv28 := own_string (P := Tryd.prog) Tryd.underlying62 Tryd.underlying5 Tryd.underlying9 (Kd.own_of_R HO224.out)))
            go_roundg k1
            case measure => have := HK1.out; omega
            case rel => exact ⟨(wrap64 (Int.tdiv x0_1 10)), ((strOfNums y222) ++ x3_1), (by first | rfl | (simp; done) | (simp [*]; done)), (by first | rfl | (simp; done) | (simp [*]; done)), H', ⟨by have := HK1.out; omega⟩, ⟨by repeat (first | (with_reducible first | exact HB.out | apply below_alloc | apply pw_below_drewN | apply below_drew1) | exact HB.out)⟩⟩
        · rw [if_neg c16] at H
          exact absurd H (by simp)
def wherryref09_hex.f (a0 : Int) : Option (ByteArray) := if 0 ≤ a0 ∧ a0 ≤ 255 then some (Base.hexB a0.toNat) else none
theorem wherryref09_hex.calls (a0 : Int) (r : ByteArray) (w : World) (h : wherryref09_hex.f a0 = some r) :
    Calls Tryd.prog 54 #[.int .u8 a0] w fun e w' => e = .returned (.string r) ∧ Below w.heap.size w w' := by
  unfold wherryref09_hex.f at h
  split at h
  · rename_i hw
    obtain rfl := Option.some.inj h
    exact ref_hex a0 w hw.1 hw.2
  · cases h
end Go.Proofs.YthhgfdejadbigaaDoor.GA
namespace Go.Proofs.YthhgfdejadbigaaDoor.GA
open Go.RowKit Go.Proofs.YthhgfdejadbigaaDoorW.PrintWords Go.Proofs.YthhgfdejadbigaaDoorW.PrintLast Go.Proofs.YthhgfdejadbigaaDoorW.PrintMore
attribute [local go_sem] max2_int min2_int max_two min_two max_three min_three max_four min_four   -- for this text's walks alone
set_option linter.unusedVariables false
set_option linter.unusedSimpArgs false
def IsS95 (w0 W : World) (g : Nat) (f0 : ByteArray) (f1 : Int) : Prop := W.heap[g]? = some (.cells #[.string f0, .int .i64 f1] 95 (0, 0)) ∧ w0.heap.size ≤ g
theorem IsS95.grown {w0 W : World} {g : Nat} {f0 : ByteArray} {f1 : Int} {W1 : World} {row : Option Nat} (h : IsS95 w0 W g f0 f1) (hw : W.grownBy W1 row) (hne : some g ≠ row) : IsS95 w0 W1 g f0 f1 := by
  obtain ⟨hb, hg⟩ := h
  exact ⟨blk_grown hb hw hne, hg⟩
theorem IsS95.kept {w0 W : World} {g : Nat} {f0 : ByteArray} {f1 : Int} {W1 : World} {S : Nat → Prop} (h : IsS95 w0 W g f0 f1) (hk : Kept W W1 S) (hne : ¬ S g) : IsS95 w0 W1 g f0 f1 := by
  obtain ⟨hb, hg⟩ := h
  exact ⟨blk_kept hb hk hne, hg⟩
theorem IsS95.below {w0 W : World} {g : Nat} {f0 : ByteArray} {f1 : Int} {W1 : World} (h : IsS95 w0 W g f0 f1) (hw : Below W.heap.size W W1) : IsS95 w0 W1 g f0 f1 := h.grown (grown_of_below hw none) (by simp)
theorem IsS95.alloc {w0 W : World} {g : Nat} {f0 : ByteArray} {f1 : Int} (h : IsS95 w0 W g f0 f1) (o : Obj) : IsS95 w0 (W.alloc o) g f0 f1 := h.below (below_alloc (Below.refl _ _) o)
theorem IsS95.drewN {w0 W : World} {g : Nat} {f0 : ByteArray} {f1 : Int} (h : IsS95 w0 W g f0 f1) (m : Nat) : IsS95 w0 (W.drewN m) g f0 f1 := h
theorem IsS95.drew {w0 W : World} {g : Nat} {f0 : ByteArray} {f1 : Int} (h : IsS95 w0 W g f0 f1) : IsS95 w0 W.drew g f0 f1 := h
theorem IsS95.at_ {w0 W : World} {g : Nat} {f0 : ByteArray} {f1 : Int} {w' : World} {m : Nat} (hq : W.drewN m = w') (h : IsS95 w0 W g f0 f1) : IsS95 w0 w' g f0 f1 := by subst hq; exact IsS95.drewN h m
theorem IsS95.apart {w0 W : World} {g : Nat} {f0 : ByteArray} {f1 : Int} {α : Type} {d : Kd α} {e : Nat} {base : Nat} {ok : Nat → Prop} {v : Value} {xs : List α} (h : IsS95 w0 W g f0 f1) (ho : d.R e W base ok v xs) (ht : ∀ q, q ∈ e :: d.E → q ≠ 95) : d.R e W base (fun k => ok k ∧ k ≠ g) v xs := by
  obtain ⟨hb, hg⟩ := h
  exact Kd.R_types ho hb ht
theorem IsS95.own_ne {w0 W : World} {g : Nat} {f0 : ByteArray} {f1 : Int} {α : Type} {d : Kd α} {e : Nat} {base : Nat} {ok : Nat → Prop} {v : Value} {xs : List α} (h : IsS95 w0 W g f0 f1) (ho : d.R e W base ok v xs) (ht : e ≠ 95) : some g ≠ v.ownBlock := by
  obtain ⟨hb, hg⟩ := h
  exact Kd.R_ne ho hb ht
theorem IsS95.lt {w0 W : World} {g : Nat} {f0 : ByteArray} {f1 : Int} (h : IsS95 w0 W g f0 f1) : g < W.heap.size := by
  obtain ⟨hb, hg⟩ := h
  exact blk_lt hb
theorem IsS95.ge {w0 W : World} {g : Nat} {f0 : ByteArray} {f1 : Int} (h : IsS95 w0 W g f0 f1) : w0.heap.size ≤ g := by
  obtain ⟨hb, hg⟩ := h
  exact hg
theorem IsS95.far {w0 W : World} {g : Nat} {f0 : ByteArray} {f1 : Int} {p : Addr} (h : IsS95 w0 W g f0 f1) (hne : g ≠ p.block) (u : Value) : IsS95 w0 (W.setCell p u) g f0 f1 := by
  obtain ⟨hb, hg⟩ := h
  exact ⟨blk_far hb hne u, hg⟩
theorem IsS95.set_0 {w0 W : World} {g : Nat} {f0 : ByteArray} {f1 : Int} (h : IsS95 w0 W g f0 f1) (x : ByteArray) : IsS95 w0 (W.setCell ⟨g, 0, none⟩ (.string x)) g x f1 := by
  obtain ⟨hb, hg⟩ := h
  exact ⟨by simpa using blk_set hb 0 (.string x), hg⟩
theorem IsS95.set_1 {w0 W : World} {g : Nat} {f0 : ByteArray} {f1 : Int} (h : IsS95 w0 W g f0 f1) (x : Int) : IsS95 w0 (W.setCell ⟨g, 1, none⟩ (.int .i64 x)) g f0 x := by
  obtain ⟨hb, hg⟩ := h
  exact ⟨by simpa using blk_set hb 1 (.int .i64 x), hg⟩
theorem IsS95.new (w0 W : World) (f0 : ByteArray) (f1 : Int) (hB : Below w0.heap.size w0 W) : IsS95 w0 (W.alloc (.cells #[.string f0, .int .i64 f1] 95)) W.heap.size f0 f1 := ⟨by simpa using heap_alloc_new W _, hB.size⟩
def wire_Reader_Byte.f (s0_0 : ByteArray) (s0_1 : Int) : Option (Int × ByteArray × Int) := if 0 ≤ s0_1 ∧ s0_0.size ≤ 9223372036854775807 then some (((Base.rdByte s0_0 s0_1.toNat).1 : Int), (Base.rdByte s0_0 s0_1.toNat).2.1, ((Base.rdByte s0_0 s0_1.toNat).2.2 : Int)) else none
theorem wire_Reader_Byte.calls (g : Nat) (s0_0 : ByteArray) (s0_1 : Int) (r1 : Int) (r2 : ByteArray) (r3 : Int) (w0 w : World) (hI : IsS95 w0 w g s0_0 s0_1) (hB : Below w0.heap.size w0 w) (h : wire_Reader_Byte.f s0_0 s0_1 = some (r1, r2, r3)) :
    Calls Tryd.prog 57 #[.pointer (some ⟨g, 0, none⟩)] w fun e w' => e = .returned (.int .u8 r1) ∧ IsS95 w0 w' g r2 r3 ∧ Below w0.heap.size w0 w' ∧ KeepBut w w' g none := by
  unfold wire_Reader_Byte.f at h
  split at h
  · rename_i hw
    simp only [Option.some.injEq, Prod.mk.injEq] at h
    obtain ⟨rfl, rfl, rfl⟩ := h
    have hr : Rdr w g s0_0 s0_1.toNat := by unfold Rdr; rw [Int.toNat_of_nonneg hw.1]; exact hI.1
    refine (rd_Byte g s0_0 s0_1.toNat w hr hw.2).mono ?_
    rintro e w' ⟨rfl, hr', hm⟩
    exact ⟨rfl, ⟨hr', hI.2⟩, below_mut hB hm hI.2, keep_mut hm⟩
  · cases h
def wire_Reader_Text.f (s0_0 : ByteArray) (s0_1 : Int) (a1 : Int) : Option (ByteArray × ByteArray × Int) := if 0 ≤ s0_1 ∧ s0_0.size ≤ 9223372036854775807 ∧ -9223372036854775808 ≤ a1 ∧ a1 ≤ 9223372036854775807 then some (((Base.rdText a1 s0_0 s0_1.toNat).1), (Base.rdText a1 s0_0 s0_1.toNat).2.1, ((Base.rdText a1 s0_0 s0_1.toNat).2.2 : Int)) else none
theorem wire_Reader_Text.calls (g : Nat) (s0_0 : ByteArray) (s0_1 : Int) (a1 : Int) (r1 : ByteArray) (r2 : ByteArray) (r3 : Int) (w0 w : World) (hI : IsS95 w0 w g s0_0 s0_1) (hB : Below w0.heap.size w0 w) (h : wire_Reader_Text.f s0_0 s0_1 a1 = some (r1, r2, r3)) :
    Calls Tryd.prog 58 #[.pointer (some ⟨g, 0, none⟩), .int .i64 a1] w fun e w' => e = .returned (.string r1) ∧ IsS95 w0 w' g r2 r3 ∧ Below w0.heap.size w0 w' ∧ KeepBut w w' g none := by
  unfold wire_Reader_Text.f at h
  split at h
  · rename_i hw
    simp only [Option.some.injEq, Prod.mk.injEq] at h
    obtain ⟨rfl, rfl, rfl⟩ := h
    have hr : Rdr w g s0_0 s0_1.toNat := by unfold Rdr; rw [Int.toNat_of_nonneg hw.1]; exact hI.1
    refine (rd_Text g s0_0 s0_1.toNat a1 w hr hw.2.1 hw.2.2.1 hw.2.2.2).mono ?_
    rintro e w' ⟨rfl, hr', hm⟩
    exact ⟨rfl, ⟨hr', hI.2⟩, below_mut hB hm hI.2, keep_mut hm⟩
  · cases h
def wire_Reader_Int.f (s0_0 : ByteArray) (s0_1 : Int) : Option (Int × ByteArray × Int) := if 0 ≤ s0_1 ∧ s0_0.size ≤ 9223372036854775807 then some (((Base.rdInt s0_0 s0_1.toNat).1), (Base.rdInt s0_0 s0_1.toNat).2.1, ((Base.rdInt s0_0 s0_1.toNat).2.2 : Int)) else none
theorem wire_Reader_Int.calls (g : Nat) (s0_0 : ByteArray) (s0_1 : Int) (r1 : Int) (r2 : ByteArray) (r3 : Int) (w0 w : World) (hI : IsS95 w0 w g s0_0 s0_1) (hB : Below w0.heap.size w0 w) (h : wire_Reader_Int.f s0_0 s0_1 = some (r1, r2, r3)) :
    Calls Tryd.prog 59 #[.pointer (some ⟨g, 0, none⟩)] w fun e w' => e = .returned (.int .i64 r1) ∧ IsS95 w0 w' g r2 r3 ∧ Below w0.heap.size w0 w' ∧ KeepBut w w' g none := by
  unfold wire_Reader_Int.f at h
  split at h
  · rename_i hw
    simp only [Option.some.injEq, Prod.mk.injEq] at h
    obtain ⟨rfl, rfl, rfl⟩ := h
    have hr : Rdr w g s0_0 s0_1.toNat := by unfold Rdr; rw [Int.toNat_of_nonneg hw.1]; exact hI.1
    refine (rd_Int g s0_0 s0_1.toNat w hr hw.2).mono ?_
    rintro e w' ⟨rfl, hr', hm⟩
    exact ⟨rfl, ⟨hr', hI.2⟩, below_mut hB hm hI.2, keep_mut hm⟩
  · cases h
def wire_Reader_Err.f (s0_0 : ByteArray) (s0_1 : Int) : Option (Int × ByteArray × Int) := if 0 ≤ s0_1 then some (s0_1, s0_0, s0_1) else none
theorem wire_Reader_Err.calls (g : Nat) (s0_0 : ByteArray) (s0_1 : Int) (r1 : Int) (r2 : ByteArray) (r3 : Int) (w0 w : World) (hI : IsS95 w0 w g s0_0 s0_1) (hB : Below w0.heap.size w0 w) (h : wire_Reader_Err.f s0_0 s0_1 = some (r1, r2, r3)) :
    Calls Tryd.prog 60 #[.pointer (some ⟨g, 0, none⟩)] w fun e w' => e = .returned (.int .i64 r1) ∧ IsS95 w0 w' g r2 r3 ∧ Below w0.heap.size w0 w' ∧ KeepBut w w' g none := by
  unfold wire_Reader_Err.f at h
  split at h
  · rename_i hw
    simp only [Option.some.injEq, Prod.mk.injEq] at h
    obtain ⟨rfl, rfl, rfl⟩ := h
    have hr : Rdr w g s0_0 s0_1.toNat := by unfold Rdr; rw [Int.toNat_of_nonneg hw]; exact hI.1
    refine (rd_Err g s0_0 s0_1.toNat w hr).mono ?_
    rintro e w' ⟨rfl, rfl⟩
    exact ⟨by first | rfl | (rw [Int.toNat_of_nonneg hw]), hI, hB, KeepBut.refl _ _ _⟩
  · cases h
def value_Take.j0 : Nat → ByteArray → Int → Int → Int → ByteArray → Option (Int × Int × ByteArray × Bool × ByteArray × Int)
  | 0, _, _, _, _, _ => none
  | k + 1, x1000, x1001, x264000, x264001, x264002 => (wire_Reader_Err.f x1000 x1001).bind fun bt270 => (if bt270.1 = 0 then ((value_May.f x264000 x264001 x264002).bind fun t273 => (if t273 = true then (some (x264000, x264001, x264002, true, bt270.2.1, bt270.2.2)) else (some (0, 0, (⟨#[]⟩ : ByteArray), false, bt270.2.1, bt270.2.2)))) else (some (0, 0, (⟨#[]⟩ : ByteArray), false, bt270.2.1, bt270.2.2)))
def value_Take.f (k : Nat) (s0_0 : ByteArray) (s0_1 : Int) : Option (Int × Int × ByteArray × Bool × ByteArray × Int) := (wire_Reader_Byte.f s0_0 s0_1).bind fun bt260 => (if (wrap64 (bt260.1)) = 3 then ((wire_Reader_Text.f bt260.2.1 bt260.2.2 1024).bind fun bt264 => (value_Take.j0 k bt264.2.1 bt264.2.2 (wrap64 (bt260.1)) 0 bt264.1)) else ((wire_Reader_Int.f bt260.2.1 bt260.2.2).bind fun bt267 => (value_Take.j0 k bt267.2.1 bt267.2.2 (wrap64 (bt260.1)) bt267.1 (⟨#[]⟩ : ByteArray))))
theorem value_Take.mono_l : ∀ k, (∀ y0 y1 y2 y3 y4, LeO (value_Take.j0 k y0 y1 y2 y3 y4) (value_Take.j0 (k + 1) y0 y1 y2 y3 y4))
  | 0 => fun _ _ _ _ _ r h => by simp [value_Take.j0] at h
  | k + 1 => by
    have ih0 := value_Take.mono_l k
    · intro y0 y1 y2 y3 y4
      unfold value_Take.j0
      repeat' first
      | (with_reducible exact ih0 _ _ _ _ _)
      | (with_reducible exact LeO.refl _)
      | (with_reducible exact LeO.none _)
      | (with_reducible refine LeO.ite ?_ ?_)
      | (with_reducible refine LeO.bind ?_ (fun _ => ?_))
      | exact ih0 _ _ _ _ _
      | exact LeO.none _
      | refine LeO.ite ?_ ?_
      | refine LeO.bind ?_ (fun _ => ?_)
theorem value_Take.mono : ∀ a0 a1 k, LeO (value_Take.f k a0 a1) (value_Take.f (k + 1) a0 a1) := by
  intro a0 a1 k
  have ih0 := value_Take.mono_l k
  unfold value_Take.f
  repeat' first
      | (with_reducible exact ih0 _ _ _ _ _)
      | (with_reducible exact LeO.refl _)
      | (with_reducible exact LeO.none _)
      | (with_reducible refine LeO.ite ?_ ?_)
      | (with_reducible refine LeO.bind ?_ (fun _ => ?_))
      | exact ih0 _ _ _ _ _
      | exact LeO.none _
      | refine LeO.ite ?_ ?_
      | refine LeO.bind ?_ (fun _ => ?_)
set_option maxHeartbeats 8000000 in
set_option maxRecDepth 100000 in
theorem value_Take.calls (k : Nat) (g : Nat) (s0_0 : ByteArray) (s0_1 : Int) (r1 : Int) (r2 : Int) (r3 : ByteArray) (r4 : Bool) (r5 : ByteArray) (r6 : Int) (w0 w : World) (hI : IsS95 w0 w g s0_0 s0_1) (hB : Below w0.heap.size w0 w) (h : value_Take.f k s0_0 s0_1 = some (r1, r2, r3, r4, r5, r6)) :
    Calls Tryd.prog 30 #[.pointer (some ⟨g, 0, none⟩)] w fun e w' => e = .returned (.tuple #[.agg #[.int .i64 r1, .int .i64 r2, .string r3], .bool r4]) ∧ IsS95 w0 w' g r5 r6 ∧ Below w0.heap.size w0 w' ∧ KeepBut w w' g none := by
  have hu23 := Tryd.underlying23
  have HI0 := Aside0.mk hI
  have HK := Aside0.mk (KeepBut.refl w g none)
  have HL := Aside0.mk hB.size
  clear hI
  have HW0 := Aside0.mk hB.size
  have HB := Aside0.mk hB
  clear hB
  have H : ((wire_Reader_Byte.f s0_0 s0_1).bind fun bt260 => (if (wrap64 (bt260.1)) = 3 then ((wire_Reader_Text.f bt260.2.1 bt260.2.2 1024).bind fun bt264 => (value_Take.j0 k bt264.2.1 bt264.2.2 (wrap64 (bt260.1)) 0 bt264.1)) else ((wire_Reader_Int.f bt260.2.1 bt260.2.2).bind fun bt267 => (value_Take.j0 k bt267.2.1 bt267.2.2 (wrap64 (bt260.1)) bt267.1 (⟨#[]⟩ : ByteArray))))) = some (r1, r2, r3, r4, r5, r6) := h
  clear h
  replace H := Option.bind_eq_some_iff.mp H
  obtain ⟨⟨t260, t261, t262⟩, A20, H⟩ := H
  replace H : (if (wrap64 (t260)) = 3 then ((wire_Reader_Text.f t261 t262 1024).bind fun bt264 => (value_Take.j0 k bt264.2.1 bt264.2.2 (wrap64 (t260)) 0 bt264.1)) else ((wire_Reader_Int.f t261 t262).bind fun bt267 => (value_Take.j0 k bt267.2.1 bt267.2.2 (wrap64 (t260)) bt267.1 (⟨#[]⟩ : ByteArray)))) = some (r1, r2, r3, r4, r5, r6) := H
  have A2 := Aside0.mk A20
  clear A20
  have HC3 := Aside0.mk H
  clear H
  go_enter Tryd.func30, Tryd.ntmps30
  go_upto_if 11 with (first | ((with_reducible refine gate_dst (N := 2) rfl ?_); refine box_event ?hg (N := 2) ?hd (cs := #[.int .i64 0, .int .i64 0, .string (⟨#[]⟩ : ByteArray)]) (t := 23) ?hr ?_; (case hd => rfl); (case hg => rfl); (case hr => first | (go_simp; done) | (go_simp; rfl)); intro gb259 hg w4 hbox hb; have n0_ := Aside0.mk (IsS95.below (by repeat (first | (with_reducible first | exact HI0.out | apply IsS95.alloc | apply IsS95.drewN | apply IsS95.drew | apply IsS95.set_0 | apply IsS95.set_1) | exact HI0.out)) hb); have n1_ := Aside0.mk (KeepBut.trans (by repeat (first | (with_reducible first | exact HK.out | apply KeepBut.set_ | apply keep_drewN | apply keep_drew | apply keep_alloc) | exact HK.out)) (KeepBut.of_below hb g none) (.inl rfl)); have n2_ := Aside0.mk (below_step (by repeat (first | (with_reducible first | exact HB.out | apply below_alloc | apply pw_below_drewN | apply below_drew1 | refine below_set ?_ (IsS95.ge HI0.out)) | exact HB.out)) hb); have n3_ := Aside0.mk (hbox); have n4_ := Aside0.mk ((by rw [hg]; exact (keep_size (w := w) (g := g) (row := none) (by repeat (first | (with_reducible first | exact HK.out | apply KeepBut.set_ | apply keep_drewN | apply keep_drew | apply keep_alloc) | exact HK.out))) : w.heap.size ≤ gb259)); have n5_ := Aside0.mk ((Nat.le_trans HW0.out (by rw [hg]; exact (keep_size (w := w) (g := g) (row := none) (by repeat (first | (with_reducible first | exact HK.out | apply KeepBut.set_ | apply keep_drewN | apply keep_drew | apply keep_alloc) | exact HK.out))) : w.heap.size ≤ gb259) : w0.heap.size ≤ gb259)); have n6_ := Aside0.mk ((by rw [hg]; exact Nat.ne_of_lt (IsS95.lt (show IsS95 w0 _ g s0_0 s0_1 from by repeat (first | (with_reducible first | exact HI0.out | apply IsS95.alloc | apply IsS95.drewN | apply IsS95.drew | apply IsS95.set_0 | apply IsS95.set_1) | exact HI0.out))) : g ≠ gb259)); have n7_ := Aside0.mk ((by rw [hg]; exact Nat.ne_of_gt (IsS95.lt (show IsS95 w0 _ g s0_0 s0_1 from by repeat (first | (with_reducible first | exact HI0.out | apply IsS95.alloc | apply IsS95.drewN | apply IsS95.drew | apply IsS95.set_0 | apply IsS95.set_1) | exact HI0.out))) : gb259 ≠ g)); clear HI0; clear HK; clear HB; have HI0 := n0_; have HK := n1_; have HB := n2_; have BK259 := n3_; have GW259 := n4_; have GE259 := n5_; have NB0_259 := n6_; have NB259_0 := n7_; clear n0_ n1_ n2_ n3_ n4_ n5_ n6_ n7_; clear hb hbox hg) | ((with_reducible refine gate_callee (f := 57) rfl ?_); refine goesL_ (some 6) rfl rfl Tryd.func57 (by kernel_rfl) rfl #[.pointer (some ⟨g, 0, none⟩)] rfl (by (try simp only [List.map_toArray, List.map_cons, List.map_nil]); first | done | rfl | (simp only [List.length_drop, List.length_take]; rfl)) ?_; (with_reducible refine (wire_Reader_Byte.calls g s0_0 s0_1 t260 t261 t262 w0 _ ?side1 ?side2 A2.out).mono ?_); (case side1 => repeat (first | (with_reducible first | exact HI0.out | apply IsS95.alloc | apply IsS95.drewN | apply IsS95.drew | apply IsS95.set_0 | apply IsS95.set_1 | refine IsS95.far ?_ NB0_259.out _) | exact HI0.out)); (case side2 => repeat (first | (with_reducible first | exact HB.out | apply below_alloc | apply pw_below_drewN | apply below_drew1 | refine below_set ?_ (IsS95.ge HI0.out) | refine below_set ?_ GE259.out) | exact HB.out)); rintro e w5 ⟨rfl, hi, hb, hk⟩; refine ⟨_, rfl, ?_⟩; have n0_ := Aside0.mk (KeepBut.blk hk (g' := gb259) (o := .cells #[.int .i64 0, .int .i64 0, .string (⟨#[]⟩ : ByteArray)] 23 (0, 0)) (by (with_reducible repeat (first | refine blk_drewN ?_ _ | refine blk_drew ?_ | refine blk_alloc ?_ _)); exact BK259.out) NB259_0.out (by simp)); have n1_ := Aside0.mk (KeepBut.trans (by repeat (first | (with_reducible first | exact HK.out | apply KeepBut.set_ | apply keep_drewN | apply keep_drew | apply keep_alloc | refine keep_far ?_ GW259.out _) | exact HK.out)) hk (.inl rfl)); have n2_ := Aside0.mk (hb); have n3_ := Aside0.mk (hi); clear BK259; clear HK; clear HB; clear HI0; have BK259 := n0_; have HK := n1_; have HB := n2_; have HI0 := n3_; clear n0_ n1_ n2_ n3_; (try clear hb); (try clear hb2); (try clear hk); (try clear hi)) | ((with_reducible refine gate_dst (N := 4) rfl ?_); refine box_event ?hg (N := 4) ?hd (cs := #[.int .i64 0, .int .i64 0, .string (⟨#[]⟩ : ByteArray)]) (t := 23) ?hr ?_; (case hd => rfl); (case hg => rfl); (case hr => first | (go_simp; done) | (go_simp; rfl)); intro gb263 hg w6 hbox hb; have n0_ := Aside0.mk (IsS95.below (by repeat (first | (with_reducible first | exact HI0.out | apply IsS95.alloc | apply IsS95.drewN | apply IsS95.drew | apply IsS95.set_0 | apply IsS95.set_1 | refine IsS95.far ?_ NB0_259.out _) | exact HI0.out)) hb); have n1_ := Aside0.mk (blk_below (g := gb259) (o := .cells #[.int .i64 0, .int .i64 0, .string (⟨#[]⟩ : ByteArray)] 23 (0, 0)) (by (with_reducible repeat (first | refine blk_drewN ?_ _ | refine blk_drew ?_ | refine blk_alloc ?_ _)); exact BK259.out) hb); have n2_ := Aside0.mk (KeepBut.trans (by repeat (first | (with_reducible first | exact HK.out | apply KeepBut.set_ | apply keep_drewN | apply keep_drew | apply keep_alloc | refine keep_far ?_ GW259.out _) | exact HK.out)) (KeepBut.of_below hb g none) (.inl rfl)); have n3_ := Aside0.mk (below_step (by repeat (first | (with_reducible first | exact HB.out | apply below_alloc | apply pw_below_drewN | apply below_drew1 | refine below_set ?_ (IsS95.ge HI0.out) | refine below_set ?_ GE259.out) | exact HB.out)) hb); have n4_ := Aside0.mk (hbox); have n5_ := Aside0.mk ((by rw [hg]; exact (keep_size (w := w) (g := g) (row := none) (by repeat (first | (with_reducible first | exact HK.out | apply KeepBut.set_ | apply keep_drewN | apply keep_drew | apply keep_alloc | refine keep_far ?_ GW259.out _) | exact HK.out))) : w.heap.size ≤ gb263)); have n6_ := Aside0.mk ((Nat.le_trans HW0.out (by rw [hg]; exact (keep_size (w := w) (g := g) (row := none) (by repeat (first | (with_reducible first | exact HK.out | apply KeepBut.set_ | apply keep_drewN | apply keep_drew | apply keep_alloc | refine keep_far ?_ GW259.out _) | exact HK.out))) : w.heap.size ≤ gb263) : w0.heap.size ≤ gb263)); have n7_ := Aside0.mk ((by rw [hg]; exact Nat.ne_of_lt (blk_lt (g := gb259) (o := .cells #[.int .i64 0, .int .i64 0, .string (⟨#[]⟩ : ByteArray)] 23 (0, 0)) (by (with_reducible repeat (first | refine blk_drewN ?_ _ | refine blk_drew ?_ | refine blk_alloc ?_ _)); exact BK259.out)) : gb259 ≠ gb263)); have n8_ := Aside0.mk ((by rw [hg]; exact Nat.ne_of_gt (blk_lt (g := gb259) (o := .cells #[.int .i64 0, .int .i64 0, .string (⟨#[]⟩ : ByteArray)] 23 (0, 0)) (by (with_reducible repeat (first | refine blk_drewN ?_ _ | refine blk_drew ?_ | refine blk_alloc ?_ _)); exact BK259.out)) : gb263 ≠ gb259)); have n9_ := Aside0.mk ((by rw [hg]; exact Nat.ne_of_lt (IsS95.lt (show IsS95 w0 _ g t261 t262 from by repeat (first | (with_reducible first | exact HI0.out | apply IsS95.alloc | apply IsS95.drewN | apply IsS95.drew | apply IsS95.set_0 | apply IsS95.set_1 | refine IsS95.far ?_ NB0_259.out _) | exact HI0.out))) : g ≠ gb263)); have n10_ := Aside0.mk ((by rw [hg]; exact Nat.ne_of_gt (IsS95.lt (show IsS95 w0 _ g t261 t262 from by repeat (first | (with_reducible first | exact HI0.out | apply IsS95.alloc | apply IsS95.drewN | apply IsS95.drew | apply IsS95.set_0 | apply IsS95.set_1 | refine IsS95.far ?_ NB0_259.out _) | exact HI0.out))) : gb263 ≠ g)); clear HI0; clear BK259; clear HK; clear HB; have HI0 := n0_; have BK259 := n1_; have HK := n2_; have HB := n3_; have BK263 := n4_; have GW263 := n5_; have GE263 := n6_; have NB259_263 := n7_; have NB263_259 := n8_; have NB0_263 := n9_; have NB263_0 := n10_; clear n0_ n1_ n2_ n3_ n4_ n5_ n6_ n7_ n8_ n9_ n10_; clear hb hbox hg; have hnb7 := NB263_259.out; have hnc7 := NB259_263.out; have hnb8 := NB263_0.out; have hnc8 := NB0_263.out; have hcz9_0 : w6.cell? ⟨gb263, 0, none⟩ = some (.int .i64 0) := (blk_cell BK263.out 0).trans rfl; have hcz9_1 : w6.cell? ⟨gb263, 1, none⟩ = some (.int .i64 0) := (blk_cell BK263.out 1).trans rfl; have hcz9_2 : w6.cell? ⟨gb263, 2, none⟩ = some (.string (⟨#[]⟩ : ByteArray)) := (blk_cell BK263.out 2).trans rfl; have hfz9_0 := blk_frozen BK263.out 0; have hfz9_1 := blk_frozen BK263.out 1; have hfz9_2 := blk_frozen BK263.out 2))
  (try simp only [Act.put, List.setIfInBounds_toArray, List.set_cons_zero, List.set_cons_succ])
  go_cut [] (fun wc => ∃ (kq : Nat) (x1000_2 : ByteArray) (x1001_2 : Int) (x264001_2 : Int) (x264002_2 : ByteArray), Aside0 (value_Take.j0 kq x1000_2 x1001_2 (wrap64 (t260)) x264001_2 x264002_2 = some (r1, r2, r3, r4, r5, r6)) ∧ Aside0 (kq ≤ k) ∧ Aside0 (wc.heap[gb259]? = some (.cells #[.int .i64 0, .int .i64 0, .string (⟨#[]⟩ : ByteArray)] 23 (0, 0))) ∧ Aside0 (wc.heap[gb263]? = some (.cells #[.int .i64 (wrap64 (t260)), .int .i64 x264001_2, .string x264002_2] 23 (0, 0))) ∧ Aside0 (IsS95 w0 wc g x1000_2 x1001_2) ∧ Aside0 (KeepBut w wc g none) ∧ Aside0 (Below w0.heap.size w0 wc))
  case first =>
    have H := HC3.out
    clear HC3
    by_cases c10 : (wrap64 (t260)) = 3
    · rw [if_pos c10] at H
      have c10b0 : ((wrap64 (t260)) == 3) = true := beq_iff_eq.mpr c10
      have c10b1 : ((wrap64 (t260)) != 3) = false := bne_eq_false_iff_eq.mpr c10
      clear c10
      (first | rw [c10b0] | (simp only [i64_w, i32_w]; rw [c10b0]) | skip)
      replace H := Option.bind_eq_some_iff.mp H
      obtain ⟨⟨t264, t265, t266⟩, A110, H⟩ := H
      replace H : (value_Take.j0 k t265 t266 (wrap64 (t260)) 0 t264) = some (r1, r2, r3, r4, r5, r6) := H
      have A11 := Aside0.mk A110
      clear A110
      have H' := Aside0.mk H
      clear H
      go_wp2_with (first | ((with_reducible refine gate_callee (f := 58) rfl ?_); refine goesL_ (some 13) rfl rfl Tryd.func58 (by kernel_rfl) rfl #[.pointer (some ⟨g, 0, none⟩), .int .i64 1024] rfl (by (try simp only [List.map_toArray, List.map_cons, List.map_nil]); first | done | rfl | (simp only [List.length_drop, List.length_take]; rfl)) ?_; (with_reducible refine (wire_Reader_Text.calls g t261 t262 1024 t264 t265 t266 w0 _ ?side1 ?side2 A11.out).mono ?_); (case side1 => repeat (first | (with_reducible first | exact HI0.out | apply IsS95.alloc | apply IsS95.drewN | apply IsS95.drew | apply IsS95.set_0 | apply IsS95.set_1 | refine IsS95.far ?_ NB0_259.out _ | refine IsS95.far ?_ NB0_263.out _) | exact HI0.out)); (case side2 => repeat (first | (with_reducible first | exact HB.out | apply below_alloc | apply pw_below_drewN | apply below_drew1 | refine below_set ?_ (IsS95.ge HI0.out) | refine below_set ?_ GE259.out | refine below_set ?_ GE263.out) | exact HB.out)); rintro e w12 ⟨rfl, hi, hb, hk⟩; refine ⟨_, rfl, ?_⟩; have n0_ := Aside0.mk (KeepBut.blk hk (g' := gb259) (o := .cells #[.int .i64 0, .int .i64 0, .string (⟨#[]⟩ : ByteArray)] 23 (0, 0)) (by (with_reducible repeat (first | refine blk_drewN ?_ _ | refine blk_drew ?_ | refine blk_alloc ?_ _)); refine blk_far ?_ NB259_263.out _; (with_reducible repeat (first | refine blk_drewN ?_ _ | refine blk_drew ?_ | refine blk_alloc ?_ _)); refine blk_far ?_ NB259_263.out _; (with_reducible repeat (first | refine blk_drewN ?_ _ | refine blk_drew ?_ | refine blk_alloc ?_ _)); refine blk_far ?_ NB259_263.out _; (with_reducible repeat (first | refine blk_drewN ?_ _ | refine blk_drew ?_ | refine blk_alloc ?_ _)); exact BK259.out) NB259_0.out (by simp)); have n1_ := Aside0.mk (KeepBut.blk hk (g' := gb263) (o := .cells #[.int .i64 (wrap64 (t260)), .int .i64 0, .string (⟨#[]⟩ : ByteArray)] 23 (0, 0)) (by (with_reducible repeat (first | refine blk_drewN ?_ _ | refine blk_drew ?_ | refine blk_alloc ?_ _)); refine blk_put (cs := #[.int .i64 (wrap64 (t260)), .int .i64 0, .string (⟨#[]⟩ : ByteArray)]) ?_ 2 _ rfl; (with_reducible repeat (first | refine blk_drewN ?_ _ | refine blk_drew ?_ | refine blk_alloc ?_ _)); refine blk_put (cs := #[.int .i64 (wrap64 (t260)), .int .i64 0, .string (⟨#[]⟩ : ByteArray)]) ?_ 1 _ rfl; (with_reducible repeat (first | refine blk_drewN ?_ _ | refine blk_drew ?_ | refine blk_alloc ?_ _)); refine blk_put (cs := #[.int .i64 0, .int .i64 0, .string (⟨#[]⟩ : ByteArray)]) ?_ 0 _ rfl; (with_reducible repeat (first | refine blk_drewN ?_ _ | refine blk_drew ?_ | refine blk_alloc ?_ _)); exact BK263.out) NB263_0.out (by simp)); have n2_ := Aside0.mk (KeepBut.trans (by repeat (first | (with_reducible first | exact HK.out | apply KeepBut.set_ | apply keep_drewN | apply keep_drew | apply keep_alloc | refine keep_far ?_ GW259.out _ | refine keep_far ?_ GW263.out _) | exact HK.out)) hk (.inl rfl)); have n3_ := Aside0.mk (hb); have n4_ := Aside0.mk (hi); clear BK259; clear BK263; clear HK; clear HB; clear HI0; have BK259 := n0_; have BK263 := n1_; have HK := n2_; have HB := n3_; have HI0 := n4_; clear n0_ n1_ n2_ n3_ n4_; (try clear hb); (try clear hb2); (try clear hk); (try clear hi); have hnb13 := NB263_259.out; have hnc13 := NB259_263.out; have hnb14 := NB263_0.out; have hnc14 := NB0_263.out; have hcz15_0 : w12.cell? ⟨gb263, 0, none⟩ = some (.int .i64 (wrap64 (t260))) := (blk_cell BK263.out 0).trans rfl; have hcz15_1 : w12.cell? ⟨gb263, 1, none⟩ = some (.int .i64 0) := (blk_cell BK263.out 1).trans rfl; have hcz15_2 : w12.cell? ⟨gb263, 2, none⟩ = some (.string (⟨#[]⟩ : ByteArray)) := (blk_cell BK263.out 2).trans rfl; have hfz15_0 := blk_frozen BK263.out 0; have hfz15_1 := blk_frozen BK263.out 1; have hfz15_2 := blk_frozen BK263.out 2))
      go_meet
      case rel => exact ⟨_, (t265), (t266), (0), (t264), H', ⟨by first | omega | exact Nat.le_refl _⟩, ⟨by (with_reducible repeat (first | refine blk_drewN ?_ _ | refine blk_drew ?_ | refine blk_alloc ?_ _)); refine blk_far ?_ NB259_263.out _; (with_reducible repeat (first | refine blk_drewN ?_ _ | refine blk_drew ?_ | refine blk_alloc ?_ _)); exact BK259.out⟩, ⟨by (with_reducible repeat (first | refine blk_drewN ?_ _ | refine blk_drew ?_ | refine blk_alloc ?_ _)); refine blk_put (cs := #[.int .i64 (wrap64 (t260)), .int .i64 0, .string (⟨#[]⟩ : ByteArray)]) ?_ 2 _ rfl; (with_reducible repeat (first | refine blk_drewN ?_ _ | refine blk_drew ?_ | refine blk_alloc ?_ _)); exact BK263.out⟩, ⟨by repeat (first | (with_reducible first | exact HI0.out | apply IsS95.alloc | apply IsS95.drewN | apply IsS95.drew | apply IsS95.set_0 | apply IsS95.set_1 | refine IsS95.far ?_ NB0_259.out _ | refine IsS95.far ?_ NB0_263.out _) | exact HI0.out)⟩, ⟨by repeat (first | (with_reducible first | exact HK.out | apply KeepBut.set_ | apply keep_drewN | apply keep_drew | apply keep_alloc | refine keep_far ?_ GW259.out _ | refine keep_far ?_ GW263.out _) | exact HK.out)⟩, ⟨by repeat (first | (with_reducible first | exact HB.out | apply below_alloc | apply pw_below_drewN | apply below_drew1 | refine below_set ?_ (IsS95.ge HI0.out) | refine below_set ?_ GE259.out | refine below_set ?_ GE263.out) | exact HB.out)⟩⟩
    · rw [if_neg c10] at H
      have c10b0 : ((wrap64 (t260)) == 3) = false := beq_eq_false_iff_ne.mpr c10
      have c10b1 : ((wrap64 (t260)) != 3) = true := bne_iff_ne.mpr c10
      (first | rw [c10b0] | (simp only [i64_w, i32_w]; rw [c10b0]) | skip)
      replace H := Option.bind_eq_some_iff.mp H
      obtain ⟨⟨t267, t268, t269⟩, A160, H⟩ := H
      replace H : (value_Take.j0 k t268 t269 (wrap64 (t260)) t267 (⟨#[]⟩ : ByteArray)) = some (r1, r2, r3, r4, r5, r6) := H
      have A16 := Aside0.mk A160
      clear A160
      have H' := Aside0.mk H
      clear H
      go_wp2_with (first | ((with_reducible refine gate_callee (f := 59) rfl ?_); refine goesL_ (some 16) rfl rfl Tryd.func59 (by kernel_rfl) rfl #[.pointer (some ⟨g, 0, none⟩)] rfl (by (try simp only [List.map_toArray, List.map_cons, List.map_nil]); first | done | rfl | (simp only [List.length_drop, List.length_take]; rfl)) ?_; (with_reducible refine (wire_Reader_Int.calls g t261 t262 t267 t268 t269 w0 _ ?side1 ?side2 A16.out).mono ?_); (case side1 => repeat (first | (with_reducible first | exact HI0.out | apply IsS95.alloc | apply IsS95.drewN | apply IsS95.drew | apply IsS95.set_0 | apply IsS95.set_1 | refine IsS95.far ?_ NB0_259.out _ | refine IsS95.far ?_ NB0_263.out _) | exact HI0.out)); (case side2 => repeat (first | (with_reducible first | exact HB.out | apply below_alloc | apply pw_below_drewN | apply below_drew1 | refine below_set ?_ (IsS95.ge HI0.out) | refine below_set ?_ GE259.out | refine below_set ?_ GE263.out) | exact HB.out)); rintro e w17 ⟨rfl, hi, hb, hk⟩; refine ⟨_, rfl, ?_⟩; have n0_ := Aside0.mk (KeepBut.blk hk (g' := gb259) (o := .cells #[.int .i64 0, .int .i64 0, .string (⟨#[]⟩ : ByteArray)] 23 (0, 0)) (by (with_reducible repeat (first | refine blk_drewN ?_ _ | refine blk_drew ?_ | refine blk_alloc ?_ _)); refine blk_far ?_ NB259_263.out _; (with_reducible repeat (first | refine blk_drewN ?_ _ | refine blk_drew ?_ | refine blk_alloc ?_ _)); refine blk_far ?_ NB259_263.out _; (with_reducible repeat (first | refine blk_drewN ?_ _ | refine blk_drew ?_ | refine blk_alloc ?_ _)); refine blk_far ?_ NB259_263.out _; (with_reducible repeat (first | refine blk_drewN ?_ _ | refine blk_drew ?_ | refine blk_alloc ?_ _)); exact BK259.out) NB259_0.out (by simp)); have n1_ := Aside0.mk (KeepBut.blk hk (g' := gb263) (o := .cells #[.int .i64 (wrap64 (t260)), .int .i64 0, .string (⟨#[]⟩ : ByteArray)] 23 (0, 0)) (by (with_reducible repeat (first | refine blk_drewN ?_ _ | refine blk_drew ?_ | refine blk_alloc ?_ _)); refine blk_put (cs := #[.int .i64 (wrap64 (t260)), .int .i64 0, .string (⟨#[]⟩ : ByteArray)]) ?_ 2 _ rfl; (with_reducible repeat (first | refine blk_drewN ?_ _ | refine blk_drew ?_ | refine blk_alloc ?_ _)); refine blk_put (cs := #[.int .i64 (wrap64 (t260)), .int .i64 0, .string (⟨#[]⟩ : ByteArray)]) ?_ 1 _ rfl; (with_reducible repeat (first | refine blk_drewN ?_ _ | refine blk_drew ?_ | refine blk_alloc ?_ _)); refine blk_put (cs := #[.int .i64 0, .int .i64 0, .string (⟨#[]⟩ : ByteArray)]) ?_ 0 _ rfl; (with_reducible repeat (first | refine blk_drewN ?_ _ | refine blk_drew ?_ | refine blk_alloc ?_ _)); exact BK263.out) NB263_0.out (by simp)); have n2_ := Aside0.mk (KeepBut.trans (by repeat (first | (with_reducible first | exact HK.out | apply KeepBut.set_ | apply keep_drewN | apply keep_drew | apply keep_alloc | refine keep_far ?_ GW259.out _ | refine keep_far ?_ GW263.out _) | exact HK.out)) hk (.inl rfl)); have n3_ := Aside0.mk (hb); have n4_ := Aside0.mk (hi); clear BK259; clear BK263; clear HK; clear HB; clear HI0; have BK259 := n0_; have BK263 := n1_; have HK := n2_; have HB := n3_; have HI0 := n4_; clear n0_ n1_ n2_ n3_ n4_; (try clear hb); (try clear hb2); (try clear hk); (try clear hi); have hnb18 := NB263_259.out; have hnc18 := NB259_263.out; have hnb19 := NB263_0.out; have hnc19 := NB0_263.out; have hcz20_0 : w17.cell? ⟨gb263, 0, none⟩ = some (.int .i64 (wrap64 (t260))) := (blk_cell BK263.out 0).trans rfl; have hcz20_1 : w17.cell? ⟨gb263, 1, none⟩ = some (.int .i64 0) := (blk_cell BK263.out 1).trans rfl; have hcz20_2 : w17.cell? ⟨gb263, 2, none⟩ = some (.string (⟨#[]⟩ : ByteArray)) := (blk_cell BK263.out 2).trans rfl; have hfz20_0 := blk_frozen BK263.out 0; have hfz20_1 := blk_frozen BK263.out 1; have hfz20_2 := blk_frozen BK263.out 2))
      go_meet
      case rel => exact ⟨_, (t268), (t269), (t267), ((⟨#[]⟩ : ByteArray)), H', ⟨by first | omega | exact Nat.le_refl _⟩, ⟨by (with_reducible repeat (first | refine blk_drewN ?_ _ | refine blk_drew ?_ | refine blk_alloc ?_ _)); refine blk_far ?_ NB259_263.out _; (with_reducible repeat (first | refine blk_drewN ?_ _ | refine blk_drew ?_ | refine blk_alloc ?_ _)); exact BK259.out⟩, ⟨by (with_reducible repeat (first | refine blk_drewN ?_ _ | refine blk_drew ?_ | refine blk_alloc ?_ _)); refine blk_put (cs := #[.int .i64 (wrap64 (t260)), .int .i64 0, .string (⟨#[]⟩ : ByteArray)]) ?_ 1 _ rfl; (with_reducible repeat (first | refine blk_drewN ?_ _ | refine blk_drew ?_ | refine blk_alloc ?_ _)); exact BK263.out⟩, ⟨by repeat (first | (with_reducible first | exact HI0.out | apply IsS95.alloc | apply IsS95.drewN | apply IsS95.drew | apply IsS95.set_0 | apply IsS95.set_1 | refine IsS95.far ?_ NB0_259.out _ | refine IsS95.far ?_ NB0_263.out _) | exact HI0.out)⟩, ⟨by repeat (first | (with_reducible first | exact HK.out | apply KeepBut.set_ | apply keep_drewN | apply keep_drew | apply keep_alloc | refine keep_far ?_ GW259.out _ | refine keep_far ?_ GW263.out _) | exact HK.out)⟩, ⟨by repeat (first | (with_reducible first | exact HB.out | apply below_alloc | apply pw_below_drewN | apply below_drew1 | refine below_set ?_ (IsS95.ge HI0.out) | refine below_set ?_ GE259.out | refine below_set ?_ GE263.out) | exact HB.out)⟩⟩
  case rest =>
    clear HC3
    try clear c1
    try clear p2
    try clear c3
    try clear c5
    try clear p6
    try clear c7
    try clear c8
    try clear c10
    try clear c10b0
    try clear c10b1
    try clear c13
    try clear c14
    try clear c18
    try clear c19
    try clear hcz15_0
    try clear hcz15_1
    try clear hcz15_2
    try clear hcz20_0
    try clear hcz20_1
    try clear hcz20_2
    try clear hcz9_0
    try clear hcz9_1
    try clear hcz9_2
    try clear hfz15_0
    try clear hfz15_1
    try clear hfz15_2
    try clear hfz20_0
    try clear hfz20_1
    try clear hfz20_2
    try clear hfz9_0
    try clear hfz9_1
    try clear hfz9_2
    obtain ⟨kq, x1000_2, x1001_2, x264001_2, x264002_2, HA, HJ2, BK259, BK263, HI0, HK, HB⟩ := hcut
    cases kq with
    | zero => exact absurd HA.out (by simp [value_Take.j0])
    | succ kj2 =>
      have H := HA.out
      clear HA
      simp only [value_Take.j0] at H
      replace H := Option.bind_eq_some_iff.mp H
      obtain ⟨⟨t270, t271, t272⟩, A210, H⟩ := H
      replace H : (if t270 = 0 then ((value_May.f (wrap64 (t260)) x264001_2 x264002_2).bind fun t273 => (if t273 = true then (some ((wrap64 (t260)), x264001_2, x264002_2, true, t271, t272)) else (some (0, 0, (⟨#[]⟩ : ByteArray), false, t271, t272)))) else (some (0, 0, (⟨#[]⟩ : ByteArray), false, t271, t272))) = some (r1, r2, r3, r4, r5, r6) := H
      have A21 := Aside0.mk A210
      clear A210
      by_cases c22 : t270 = 0
      · rw [if_pos c22] at H
        have c22b0 : (t270 == 0) = true := beq_iff_eq.mpr c22
        have c22b1 : (t270 != 0) = false := bne_eq_false_iff_eq.mpr c22
        clear c22
        replace H := Option.bind_eq_some_iff.mp H
        obtain ⟨t273, A230, H⟩ := H
        replace H : (if t273 = true then (some ((wrap64 (t260)), x264001_2, x264002_2, true, t271, t272)) else (some (0, 0, (⟨#[]⟩ : ByteArray), false, t271, t272))) = some (r1, r2, r3, r4, r5, r6) := H
        have A23 := Aside0.mk A230
        clear A230
        by_cases c24 : t273 = true
        · subst c24
          have H1 : (some ((wrap64 (t260)), x264001_2, x264002_2, true, t271, t272)) = some (r1, r2, r3, r4, r5, r6) := by rw [if_pos rfl] at H; exact H
          clear H
          have H := H1
          clear H1
          simp only [Option.some.injEq, Prod.mk.injEq] at H
          obtain ⟨rfl, rfl, rfl, rfl, rfl, rfl⟩ := H
          go_wp2_with (first | ((with_reducible refine gate_callee (f := 60) rfl ?_); refine goesL_ (some 19) rfl rfl Tryd.func60 (by kernel_rfl) rfl #[.pointer (some ⟨g, 0, none⟩)] rfl (by (try simp only [List.map_toArray, List.map_cons, List.map_nil]); first | done | rfl | (simp only [List.length_drop, List.length_take]; rfl)) ?_; (with_reducible refine (wire_Reader_Err.calls g x1000_2 x1001_2 t270 t271 t272 w0 _ ?side1 ?side2 A21.out).mono ?_); (case side1 => repeat (first | (with_reducible first | exact HI0.out | apply IsS95.alloc | apply IsS95.drewN | apply IsS95.drew | apply IsS95.set_0 | apply IsS95.set_1 | refine IsS95.far ?_ NB0_259.out _ | refine IsS95.far ?_ NB0_263.out _) | exact HI0.out)); (case side2 => repeat (first | (with_reducible first | exact HB.out | apply below_alloc | apply pw_below_drewN | apply below_drew1 | refine below_set ?_ (IsS95.ge HI0.out) | refine below_set ?_ GE259.out | refine below_set ?_ GE263.out) | exact HB.out)); rintro e w25 ⟨rfl, hi, hb, hk⟩; refine ⟨_, rfl, ?_⟩; have n0_ := Aside0.mk (KeepBut.blk hk (g' := gb259) (o := .cells #[.int .i64 0, .int .i64 0, .string (⟨#[]⟩ : ByteArray)] 23 (0, 0)) (by (with_reducible repeat (first | refine blk_drewN ?_ _ | refine blk_drew ?_ | refine blk_alloc ?_ _)); exact BK259.out) NB259_0.out (by simp)); have n1_ := Aside0.mk (KeepBut.blk hk (g' := gb263) (o := .cells #[.int .i64 (wrap64 (t260)), .int .i64 x264001_2, .string x264002_2] 23 (0, 0)) (by (with_reducible repeat (first | refine blk_drewN ?_ _ | refine blk_drew ?_ | refine blk_alloc ?_ _)); exact BK263.out) NB263_0.out (by simp)); have n2_ := Aside0.mk (KeepBut.trans (by repeat (first | (with_reducible first | exact HK.out | apply KeepBut.set_ | apply keep_drewN | apply keep_drew | apply keep_alloc | refine keep_far ?_ GW259.out _ | refine keep_far ?_ GW263.out _) | exact HK.out)) hk (.inl rfl)); have n3_ := Aside0.mk (hb); have n4_ := Aside0.mk (hi); clear BK259; clear BK263; clear HK; clear HB; clear HI0; have BK259 := n0_; have BK263 := n1_; have HK := n2_; have HB := n3_; have HI0 := n4_; clear n0_ n1_ n2_ n3_ n4_; (try clear hb); (try clear hb2); (try clear hk); (try clear hi); have hnb26 := NB263_259.out; have hnc26 := NB259_263.out; have hnb27 := NB263_0.out; have hnc27 := NB0_263.out; have hcz28_0 : w25.cell? ⟨gb263, 0, none⟩ = some (.int .i64 (wrap64 (t260))) := (blk_cell BK263.out 0).trans rfl; have hcz28_1 : w25.cell? ⟨gb263, 1, none⟩ = some (.int .i64 x264001_2) := (blk_cell BK263.out 1).trans rfl; have hcz28_2 : w25.cell? ⟨gb263, 2, none⟩ = some (.string x264002_2) := (blk_cell BK263.out 2).trans rfl; have hfz28_0 := blk_frozen BK263.out 0; have hfz28_1 := blk_frozen BK263.out 1; have hfz28_2 := blk_frozen BK263.out 2) | (go_at_call 22; (with_reducible refine (value_May.calls (wrap64 (t260)) x264001_2 x264002_2 true _ A23.out).mono ?_); rintro e w29 ⟨rfl, hb⟩; have n0_ := Aside0.mk (blk_below (g := gb259) (o := .cells #[.int .i64 0, .int .i64 0, .string (⟨#[]⟩ : ByteArray)] 23 (0, 0)) (by (with_reducible repeat (first | refine blk_drewN ?_ _ | refine blk_drew ?_ | refine blk_alloc ?_ _)); exact BK259.out) hb); have n1_ := Aside0.mk (blk_below (g := gb263) (o := .cells #[.int .i64 (wrap64 (t260)), .int .i64 x264001_2, .string x264002_2] 23 (0, 0)) (by (with_reducible repeat (first | refine blk_drewN ?_ _ | refine blk_drew ?_ | refine blk_alloc ?_ _)); exact BK263.out) hb); have n2_ := Aside0.mk (IsS95.below (by repeat (first | (with_reducible first | exact HI0.out | apply IsS95.alloc | apply IsS95.drewN | apply IsS95.drew | apply IsS95.set_0 | apply IsS95.set_1 | refine IsS95.far ?_ NB0_259.out _ | refine IsS95.far ?_ NB0_263.out _) | exact HI0.out)) hb); have n3_ := Aside0.mk (KeepBut.trans (by repeat (first | (with_reducible first | exact HK.out | apply KeepBut.set_ | apply keep_drewN | apply keep_drew | apply keep_alloc | refine keep_far ?_ GW259.out _ | refine keep_far ?_ GW263.out _) | exact HK.out)) (KeepBut.of_below hb g none) (.inl rfl)); have n4_ := Aside0.mk (below_step (by repeat (first | (with_reducible first | exact HB.out | apply below_alloc | apply pw_below_drewN | apply below_drew1 | refine below_set ?_ (IsS95.ge HI0.out) | refine below_set ?_ GE259.out | refine below_set ?_ GE263.out) | exact HB.out)) hb); clear BK259; clear BK263; clear HI0; clear HK; clear HB; have BK259 := n0_; have BK263 := n1_; have HI0 := n2_; have HK := n3_; have HB := n4_; clear n0_ n1_ n2_ n3_ n4_; (try clear hb); (try clear hb2); (try clear hk); (try clear hi); have hcz30_0 : w29.cell? ⟨gb263, 0, none⟩ = some (.int .i64 (wrap64 (t260))) := (blk_cell BK263.out 0).trans rfl; have hcz30_1 : w29.cell? ⟨gb263, 1, none⟩ = some (.int .i64 x264001_2) := (blk_cell BK263.out 1).trans rfl; have hcz30_2 : w29.cell? ⟨gb263, 2, none⟩ = some (.string x264002_2) := (blk_cell BK263.out 2).trans rfl; have hfz30_0 := blk_frozen BK263.out 0; have hfz30_1 := blk_frozen BK263.out 1; have hfz30_2 := blk_frozen BK263.out 2; have hnb31 := NB259_0.out; have hnc31 := NB0_259.out; have hcz32_0 : w29.cell? ⟨gb259, 0, none⟩ = some (.int .i64 0) := (blk_cell BK259.out 0).trans rfl; have hcz32_1 : w29.cell? ⟨gb259, 1, none⟩ = some (.int .i64 0) := (blk_cell BK259.out 1).trans rfl; have hcz32_2 : w29.cell? ⟨gb259, 2, none⟩ = some (.string (⟨#[]⟩ : ByteArray)) := (blk_cell BK259.out 2).trans rfl; have hfz32_0 := blk_frozen BK259.out 0; have hfz32_1 := blk_frozen BK259.out 1; have hfz32_2 := blk_frozen BK259.out 2))
          refine bodyPost_ret (results_ct rfl _ _ gb259 23 #[.int .i64 (wrap64 (t260)), .int .i64 x264001_2, .string x264002_2] (0, 0) _ rfl (by (with_reducible repeat (first | refine blk_drewN ?_ _ | refine blk_drew ?_ | refine blk_alloc ?_ _)); refine blk_put (cs := #[.int .i64 (wrap64 (t260)), .int .i64 x264001_2, .string (⟨#[]⟩ : ByteArray)]) ?_ 2 _ rfl; (with_reducible repeat (first | refine blk_drewN ?_ _ | refine blk_drew ?_ | refine blk_alloc ?_ _)); refine blk_put (cs := #[.int .i64 (wrap64 (t260)), .int .i64 0, .string (⟨#[]⟩ : ByteArray)]) ?_ 1 _ rfl; (with_reducible repeat (first | refine blk_drewN ?_ _ | refine blk_drew ?_ | refine blk_alloc ?_ _)); refine blk_put (cs := #[.int .i64 0, .int .i64 0, .string (⟨#[]⟩ : ByteArray)]) ?_ 0 _ rfl; (with_reducible repeat (first | refine blk_drewN ?_ _ | refine blk_drew ?_ | refine blk_alloc ?_ _)); exact BK259.out) Tryd.underlying23 rfl (by kernel_rfl)) rfl ?_
          exact ⟨by first | rfl | (simp [errW_none, errW_some] <;> rfl) | (simp [*, errW_none, errW_some] <;> rfl), by repeat (first | (with_reducible first | exact HI0.out | apply IsS95.alloc | apply IsS95.drewN | apply IsS95.drew | apply IsS95.set_0 | apply IsS95.set_1 | refine IsS95.far ?_ NB0_259.out _ | refine IsS95.far ?_ NB0_263.out _) | exact HI0.out), by repeat (first | (with_reducible first | exact HB.out | apply below_alloc | apply pw_below_drewN | apply below_drew1 | refine below_set ?_ (IsS95.ge HI0.out) | refine below_set ?_ GE259.out | refine below_set ?_ GE263.out) | exact HB.out), by repeat (first | (with_reducible first | exact HK.out | apply KeepBut.set_ | apply keep_drewN | apply keep_drew | apply keep_alloc | refine keep_far ?_ GW259.out _ | refine keep_far ?_ GW263.out _) | exact HK.out)⟩
        · replace c24 := Bool.eq_false_iff.mpr c24
          subst c24
          have H1 : (some (0, 0, (⟨#[]⟩ : ByteArray), false, t271, t272)) = some (r1, r2, r3, r4, r5, r6) := by rw [if_neg (show ¬ (false = true) by decide)] at H; exact H
          clear H
          have H := H1
          clear H1
          simp only [Option.some.injEq, Prod.mk.injEq] at H
          obtain ⟨rfl, rfl, rfl, rfl, rfl, rfl⟩ := H
          go_wp2_with (first | ((with_reducible refine gate_callee (f := 60) rfl ?_); refine goesL_ (some 19) rfl rfl Tryd.func60 (by kernel_rfl) rfl #[.pointer (some ⟨g, 0, none⟩)] rfl (by (try simp only [List.map_toArray, List.map_cons, List.map_nil]); first | done | rfl | (simp only [List.length_drop, List.length_take]; rfl)) ?_; (with_reducible refine (wire_Reader_Err.calls g x1000_2 x1001_2 t270 t271 t272 w0 _ ?side1 ?side2 A21.out).mono ?_); (case side1 => repeat (first | (with_reducible first | exact HI0.out | apply IsS95.alloc | apply IsS95.drewN | apply IsS95.drew | apply IsS95.set_0 | apply IsS95.set_1 | refine IsS95.far ?_ NB0_259.out _ | refine IsS95.far ?_ NB0_263.out _) | exact HI0.out)); (case side2 => repeat (first | (with_reducible first | exact HB.out | apply below_alloc | apply pw_below_drewN | apply below_drew1 | refine below_set ?_ (IsS95.ge HI0.out) | refine below_set ?_ GE259.out | refine below_set ?_ GE263.out) | exact HB.out)); rintro e w33 ⟨rfl, hi, hb, hk⟩; refine ⟨_, rfl, ?_⟩; have n0_ := Aside0.mk (KeepBut.blk hk (g' := gb259) (o := .cells #[.int .i64 0, .int .i64 0, .string (⟨#[]⟩ : ByteArray)] 23 (0, 0)) (by (with_reducible repeat (first | refine blk_drewN ?_ _ | refine blk_drew ?_ | refine blk_alloc ?_ _)); exact BK259.out) NB259_0.out (by simp)); have n1_ := Aside0.mk (KeepBut.blk hk (g' := gb263) (o := .cells #[.int .i64 (wrap64 (t260)), .int .i64 x264001_2, .string x264002_2] 23 (0, 0)) (by (with_reducible repeat (first | refine blk_drewN ?_ _ | refine blk_drew ?_ | refine blk_alloc ?_ _)); exact BK263.out) NB263_0.out (by simp)); have n2_ := Aside0.mk (KeepBut.trans (by repeat (first | (with_reducible first | exact HK.out | apply KeepBut.set_ | apply keep_drewN | apply keep_drew | apply keep_alloc | refine keep_far ?_ GW259.out _ | refine keep_far ?_ GW263.out _) | exact HK.out)) hk (.inl rfl)); have n3_ := Aside0.mk (hb); have n4_ := Aside0.mk (hi); clear BK259; clear BK263; clear HK; clear HB; clear HI0; have BK259 := n0_; have BK263 := n1_; have HK := n2_; have HB := n3_; have HI0 := n4_; clear n0_ n1_ n2_ n3_ n4_; (try clear hb); (try clear hb2); (try clear hk); (try clear hi); have hnb34 := NB263_259.out; have hnc34 := NB259_263.out; have hnb35 := NB263_0.out; have hnc35 := NB0_263.out; have hcz36_0 : w33.cell? ⟨gb263, 0, none⟩ = some (.int .i64 (wrap64 (t260))) := (blk_cell BK263.out 0).trans rfl; have hcz36_1 : w33.cell? ⟨gb263, 1, none⟩ = some (.int .i64 x264001_2) := (blk_cell BK263.out 1).trans rfl; have hcz36_2 : w33.cell? ⟨gb263, 2, none⟩ = some (.string x264002_2) := (blk_cell BK263.out 2).trans rfl; have hfz36_0 := blk_frozen BK263.out 0; have hfz36_1 := blk_frozen BK263.out 1; have hfz36_2 := blk_frozen BK263.out 2) | (go_at_call 22; (with_reducible refine (value_May.calls (wrap64 (t260)) x264001_2 x264002_2 false _ A23.out).mono ?_); rintro e w37 ⟨rfl, hb⟩; have n0_ := Aside0.mk (blk_below (g := gb259) (o := .cells #[.int .i64 0, .int .i64 0, .string (⟨#[]⟩ : ByteArray)] 23 (0, 0)) (by (with_reducible repeat (first | refine blk_drewN ?_ _ | refine blk_drew ?_ | refine blk_alloc ?_ _)); exact BK259.out) hb); have n1_ := Aside0.mk (blk_below (g := gb263) (o := .cells #[.int .i64 (wrap64 (t260)), .int .i64 x264001_2, .string x264002_2] 23 (0, 0)) (by (with_reducible repeat (first | refine blk_drewN ?_ _ | refine blk_drew ?_ | refine blk_alloc ?_ _)); exact BK263.out) hb); have n2_ := Aside0.mk (IsS95.below (by repeat (first | (with_reducible first | exact HI0.out | apply IsS95.alloc | apply IsS95.drewN | apply IsS95.drew | apply IsS95.set_0 | apply IsS95.set_1 | refine IsS95.far ?_ NB0_259.out _ | refine IsS95.far ?_ NB0_263.out _) | exact HI0.out)) hb); have n3_ := Aside0.mk (KeepBut.trans (by repeat (first | (with_reducible first | exact HK.out | apply KeepBut.set_ | apply keep_drewN | apply keep_drew | apply keep_alloc | refine keep_far ?_ GW259.out _ | refine keep_far ?_ GW263.out _) | exact HK.out)) (KeepBut.of_below hb g none) (.inl rfl)); have n4_ := Aside0.mk (below_step (by repeat (first | (with_reducible first | exact HB.out | apply below_alloc | apply pw_below_drewN | apply below_drew1 | refine below_set ?_ (IsS95.ge HI0.out) | refine below_set ?_ GE259.out | refine below_set ?_ GE263.out) | exact HB.out)) hb); clear BK259; clear BK263; clear HI0; clear HK; clear HB; have BK259 := n0_; have BK263 := n1_; have HI0 := n2_; have HK := n3_; have HB := n4_; clear n0_ n1_ n2_ n3_ n4_; (try clear hb); (try clear hb2); (try clear hk); (try clear hi); have hnb38 := NB259_0.out; have hnc38 := NB0_259.out; have hcz39_0 : w37.cell? ⟨gb259, 0, none⟩ = some (.int .i64 0) := (blk_cell BK259.out 0).trans rfl; have hcz39_1 : w37.cell? ⟨gb259, 1, none⟩ = some (.int .i64 0) := (blk_cell BK259.out 1).trans rfl; have hcz39_2 : w37.cell? ⟨gb259, 2, none⟩ = some (.string (⟨#[]⟩ : ByteArray)) := (blk_cell BK259.out 2).trans rfl; have hfz39_0 := blk_frozen BK259.out 0; have hfz39_1 := blk_frozen BK259.out 1; have hfz39_2 := blk_frozen BK259.out 2))
          refine bodyPost_ret (results_ct rfl _ _ gb259 23 #[.int .i64 0, .int .i64 0, .string (⟨#[]⟩ : ByteArray)] (0, 0) _ rfl (by (with_reducible repeat (first | refine blk_drewN ?_ _ | refine blk_drew ?_ | refine blk_alloc ?_ _)); refine blk_put (cs := #[.int .i64 0, .int .i64 0, .string (⟨#[]⟩ : ByteArray)]) ?_ 2 _ rfl; (with_reducible repeat (first | refine blk_drewN ?_ _ | refine blk_drew ?_ | refine blk_alloc ?_ _)); refine blk_put (cs := #[.int .i64 0, .int .i64 0, .string (⟨#[]⟩ : ByteArray)]) ?_ 1 _ rfl; (with_reducible repeat (first | refine blk_drewN ?_ _ | refine blk_drew ?_ | refine blk_alloc ?_ _)); refine blk_put (cs := #[.int .i64 0, .int .i64 0, .string (⟨#[]⟩ : ByteArray)]) ?_ 0 _ rfl; (with_reducible repeat (first | refine blk_drewN ?_ _ | refine blk_drew ?_ | refine blk_alloc ?_ _)); exact BK259.out) Tryd.underlying23 rfl (by kernel_rfl)) rfl ?_
          exact ⟨by first | rfl | (simp [errW_none, errW_some] <;> rfl) | (simp [*, errW_none, errW_some] <;> rfl), by repeat (first | (with_reducible first | exact HI0.out | apply IsS95.alloc | apply IsS95.drewN | apply IsS95.drew | apply IsS95.set_0 | apply IsS95.set_1 | refine IsS95.far ?_ NB0_259.out _ | refine IsS95.far ?_ NB0_263.out _) | exact HI0.out), by repeat (first | (with_reducible first | exact HB.out | apply below_alloc | apply pw_below_drewN | apply below_drew1 | refine below_set ?_ (IsS95.ge HI0.out) | refine below_set ?_ GE259.out | refine below_set ?_ GE263.out) | exact HB.out), by repeat (first | (with_reducible first | exact HK.out | apply KeepBut.set_ | apply keep_drewN | apply keep_drew | apply keep_alloc | refine keep_far ?_ GW259.out _ | refine keep_far ?_ GW263.out _) | exact HK.out)⟩
      · rw [if_neg c22] at H
        have c22b0 : (t270 == 0) = false := beq_eq_false_iff_ne.mpr c22
        have c22b1 : (t270 != 0) = true := bne_iff_ne.mpr c22
        simp only [Option.some.injEq, Prod.mk.injEq] at H
        obtain ⟨rfl, rfl, rfl, rfl, rfl, rfl⟩ := H
        go_wp2_with (first | ((with_reducible refine gate_callee (f := 60) rfl ?_); refine goesL_ (some 19) rfl rfl Tryd.func60 (by kernel_rfl) rfl #[.pointer (some ⟨g, 0, none⟩)] rfl (by (try simp only [List.map_toArray, List.map_cons, List.map_nil]); first | done | rfl | (simp only [List.length_drop, List.length_take]; rfl)) ?_; (with_reducible refine (wire_Reader_Err.calls g x1000_2 x1001_2 t270 t271 t272 w0 _ ?side1 ?side2 A21.out).mono ?_); (case side1 => repeat (first | (with_reducible first | exact HI0.out | apply IsS95.alloc | apply IsS95.drewN | apply IsS95.drew | apply IsS95.set_0 | apply IsS95.set_1 | refine IsS95.far ?_ NB0_259.out _ | refine IsS95.far ?_ NB0_263.out _) | exact HI0.out)); (case side2 => repeat (first | (with_reducible first | exact HB.out | apply below_alloc | apply pw_below_drewN | apply below_drew1 | refine below_set ?_ (IsS95.ge HI0.out) | refine below_set ?_ GE259.out | refine below_set ?_ GE263.out) | exact HB.out)); rintro e w40 ⟨rfl, hi, hb, hk⟩; refine ⟨_, rfl, ?_⟩; have n0_ := Aside0.mk (KeepBut.blk hk (g' := gb259) (o := .cells #[.int .i64 0, .int .i64 0, .string (⟨#[]⟩ : ByteArray)] 23 (0, 0)) (by (with_reducible repeat (first | refine blk_drewN ?_ _ | refine blk_drew ?_ | refine blk_alloc ?_ _)); exact BK259.out) NB259_0.out (by simp)); have n1_ := Aside0.mk (KeepBut.blk hk (g' := gb263) (o := .cells #[.int .i64 (wrap64 (t260)), .int .i64 x264001_2, .string x264002_2] 23 (0, 0)) (by (with_reducible repeat (first | refine blk_drewN ?_ _ | refine blk_drew ?_ | refine blk_alloc ?_ _)); exact BK263.out) NB263_0.out (by simp)); have n2_ := Aside0.mk (KeepBut.trans (by repeat (first | (with_reducible first | exact HK.out | apply KeepBut.set_ | apply keep_drewN | apply keep_drew | apply keep_alloc | refine keep_far ?_ GW259.out _ | refine keep_far ?_ GW263.out _) | exact HK.out)) hk (.inl rfl)); have n3_ := Aside0.mk (hb); have n4_ := Aside0.mk (hi); clear BK259; clear BK263; clear HK; clear HB; clear HI0; have BK259 := n0_; have BK263 := n1_; have HK := n2_; have HB := n3_; have HI0 := n4_; clear n0_ n1_ n2_ n3_ n4_; (try clear hb); (try clear hb2); (try clear hk); (try clear hi); have hnb41 := NB259_263.out; have hnc41 := NB263_259.out; have hnb42 := NB259_0.out; have hnc42 := NB0_259.out; have hcz43_0 : w40.cell? ⟨gb259, 0, none⟩ = some (.int .i64 0) := (blk_cell BK259.out 0).trans rfl; have hcz43_1 : w40.cell? ⟨gb259, 1, none⟩ = some (.int .i64 0) := (blk_cell BK259.out 1).trans rfl; have hcz43_2 : w40.cell? ⟨gb259, 2, none⟩ = some (.string (⟨#[]⟩ : ByteArray)) := (blk_cell BK259.out 2).trans rfl; have hfz43_0 := blk_frozen BK259.out 0; have hfz43_1 := blk_frozen BK259.out 1; have hfz43_2 := blk_frozen BK259.out 2))
        refine bodyPost_ret (results_ct rfl _ _ gb259 23 #[.int .i64 0, .int .i64 0, .string (⟨#[]⟩ : ByteArray)] (0, 0) _ rfl (by (with_reducible repeat (first | refine blk_drewN ?_ _ | refine blk_drew ?_ | refine blk_alloc ?_ _)); refine blk_put (cs := #[.int .i64 0, .int .i64 0, .string (⟨#[]⟩ : ByteArray)]) ?_ 2 _ rfl; (with_reducible repeat (first | refine blk_drewN ?_ _ | refine blk_drew ?_ | refine blk_alloc ?_ _)); refine blk_put (cs := #[.int .i64 0, .int .i64 0, .string (⟨#[]⟩ : ByteArray)]) ?_ 1 _ rfl; (with_reducible repeat (first | refine blk_drewN ?_ _ | refine blk_drew ?_ | refine blk_alloc ?_ _)); refine blk_put (cs := #[.int .i64 0, .int .i64 0, .string (⟨#[]⟩ : ByteArray)]) ?_ 0 _ rfl; (with_reducible repeat (first | refine blk_drewN ?_ _ | refine blk_drew ?_ | refine blk_alloc ?_ _)); exact BK259.out) Tryd.underlying23 rfl (by kernel_rfl)) rfl ?_
        exact ⟨by first | rfl | (simp [errW_none, errW_some] <;> rfl) | (simp [*, errW_none, errW_some] <;> rfl), by repeat (first | (with_reducible first | exact HI0.out | apply IsS95.alloc | apply IsS95.drewN | apply IsS95.drew | apply IsS95.set_0 | apply IsS95.set_1 | refine IsS95.far ?_ NB0_259.out _ | refine IsS95.far ?_ NB0_263.out _) | exact HI0.out), by repeat (first | (with_reducible first | exact HB.out | apply below_alloc | apply pw_below_drewN | apply below_drew1 | refine below_set ?_ (IsS95.ge HI0.out) | refine below_set ?_ GE259.out | refine below_set ?_ GE263.out) | exact HB.out), by repeat (first | (with_reducible first | exact HK.out | apply KeepBut.set_ | apply keep_drewN | apply keep_drew | apply keep_alloc | refine keep_far ?_ GW259.out _ | refine keep_far ?_ GW263.out _) | exact HK.out)⟩
def wire_Read.f (a0 : ByteArray) : Option (ByteArray × Int) := some (a0, 0)
set_option maxHeartbeats 8000000 in
set_option maxRecDepth 100000 in
theorem wire_Read.calls (a0 : ByteArray) (r1 : ByteArray) (r2 : Int) (w0 w : World) (hB : Below w0.heap.size w0 w) (h : wire_Read.f a0 = some (r1, r2)) :
    Calls Tryd.prog 31 #[.string a0] w fun e w' => ∃ g_ : Nat, e = .returned (.pointer (some ⟨g_, 0, none⟩)) ∧ IsS95 w0 w' g_ r1 r2 ∧ Below w0.heap.size w0 w' ∧ Below w.heap.size w w' := by
  have hu95 := Tryd.underlying95
  have HBW := Aside0.mk (Below.refl w.heap.size w)
  have HW0 := Aside0.mk hB.size
  have HB := Aside0.mk hB
  clear hB
  have H : (some (a0, 0)) = some (r1, r2) := h
  clear h
  simp only [Option.some.injEq, Prod.mk.injEq] at H
  obtain ⟨rfl, rfl⟩ := H
  go_enter Tryd.func31, Tryd.ntmps31
  go_wp2_with (first | ((with_reducible refine gate_dst (N := 5) rfl ?_); refine box_event ?hg (N := 5) ?hd (cs := #[.string a0, .int .i64 0]) (t := 95) ?hr ?_; (case hd => rfl); (case hg => rfl); (case hr => first | (go_simp; done) | (go_simp; rfl)); intro gb274 hg w2 hbox hb; have n0_ := Aside0.mk (below_step HBW.out hb); have n1_ := Aside0.mk (below_step (by repeat (first | (with_reducible first | exact HB.out | apply below_alloc | apply pw_below_drewN | apply below_drew1) | exact HB.out)) hb); have n2_ := Aside0.mk (hbox); have n3_ := Aside0.mk ((by rw [hg]; exact (below_size (by repeat (first | (with_reducible first | exact HBW.out | apply below_alloc | apply pw_below_drewN | apply below_drew1) | exact HBW.out))) : w.heap.size ≤ gb274)); have n4_ := Aside0.mk ((Nat.le_trans HW0.out (by rw [hg]; exact (below_size (by repeat (first | (with_reducible first | exact HBW.out | apply below_alloc | apply pw_below_drewN | apply below_drew1) | exact HBW.out))) : w.heap.size ≤ gb274) : w0.heap.size ≤ gb274)); clear HBW; clear HB; have HBW := n0_; have HB := n1_; have BK274 := n2_; have GW274 := n3_; have GE274 := n4_; clear n0_ n1_ n2_ n3_ n4_; clear hb hbox hg))
  go_ret
  exact ⟨_, rfl, (show IsS95 w0 _ gb274 a0 0 from ⟨by (with_reducible repeat (first | refine blk_drewN ?_ _ | refine blk_drew ?_ | refine blk_alloc ?_ _)); exact BK274.out, GE274.out⟩), by repeat (first | (with_reducible first | exact HB.out | apply below_alloc | apply pw_below_drewN | apply below_drew1 | refine below_set ?_ GE274.out) | exact HB.out), by repeat (first | (with_reducible first | exact HBW.out | apply below_alloc | apply pw_below_drewN | apply below_drew1 | refine below_set ?_ GW274.out) | exact HBW.out)⟩
def optLV (r : Option (List Base.GVar)) : List (S60) := (r.getD []).map ofVar
def value_TakeVars.f (s0_0 : ByteArray) (s0_1 : Int) : Option (List (S60) × Bool × ByteArray × Int) := if 0 ≤ s0_1 ∧ s0_0.size ≤ 9223372036854775807 then some (optLV (Base.takeVars s0_0 s0_1.toNat).1, (Base.takeVars s0_0 s0_1.toNat).1.isSome, (Base.takeVars s0_0 s0_1.toNat).2.1, ((Base.takeVars s0_0 s0_1.toNat).2.2 : Int)) else none
theorem value_TakeVars.calls (g : Nat) (s0_0 : ByteArray) (s0_1 : Int) (r1 : List (S60)) (r2 : Bool) (r3 : ByteArray) (r4 : Int) (w0 w : World) (hI : IsS95 w0 w g s0_0 s0_1) (hB : Below w0.heap.size w0 w) (h : value_TakeVars.f s0_0 s0_1 = some (r1, r2, r3, r4)) :
    Calls Tryd.prog 33 #[.pointer (some ⟨g, 0, none⟩)] w fun e w' => ∃ v0_ : Value, e = .returned (.tuple #[v0_, .bool r2]) ∧ Kd.R k60 60 w' w.heap.size (fun _ => True) v0_ r1 ∧ IsS95 w0 w' g r3 r4 ∧ Below w0.heap.size w0 w' ∧ KeepBut w w' g none := by
  unfold value_TakeVars.f at h
  split at h
  · rename_i hw
    simp only [Option.some.injEq, Prod.mk.injEq] at h
    obtain ⟨rfl, rfl, rfl, rfl⟩ := h
    have hr : Rdr w g s0_0 s0_1.toNat := by unfold Rdr; rw [Int.toNat_of_nonneg hw.1]; exact hI.1
    refine (val_TakeVarsO g s0_0 s0_1.toNat w hr hw.2).mono ?_
    rintro e w' ⟨v, rfl, hown, hr', hm⟩
    exact ⟨v, rfl, R_of_own hown, ⟨hr', hI.2⟩, below_mut hB hm hI.2, keep_mut hm⟩
  · cases h
end Go.Proofs.YthhgfdejadbigaaDoor.GA
/-
  Chapter 9: words for ValueBack, walked by hand. Sizes turned from RecP by genlawback.py.
-/
set_option linter.unusedVariables false
set_option linter.unusedSimpArgs false
namespace Go.Proofs.Base
open Go Go.RowKit
theorem varsCat_szV : ∀ (l : List GVar), (∀ x ∈ l, x.wf) → (∀ x ∈ l, named x.name = true ∧ x.v.may = true) → (varsCat l).size ≤ l.length * 2000
  | [], _, _ => Nat.le_refl _
  | x :: r, hw, ha => by
    have h1 := varsCat_szV r (fun y hy => hw y (List.mem_cons_of_mem _ hy)) (fun y hy => ha y (List.mem_cons_of_mem _ hy))
    have h2 := ha x List.mem_cons_self
    have h3 := hw x List.mem_cons_self
    have h4 := (named_size h2.1).1
    have h5 := textB_size (s := x.name) (by omega)
    have h6 : x.v.bytes.size ≤ 1100 := valB_size h3.2.2.1 h2.2
    show ((textB x.name ++ x.v.bytes) ++ varsCat r).size ≤ _
    rw [app_size, app_size, List.length_cons]
    omega
theorem varsB_szV {l : List GVar} (hw : ∀ x ∈ l, x.wf) : (varsB l).size ≤ 40000 := by
  unfold varsB
  split
  · rename_i h
    obtain ⟨h16, hall⟩ := rightV_all h
    have h1 := varsCat_szV l hw hall
    have h2 := uintB_size (v := l.length) (by omega)
    rw [app_size]
    omega
  · exact Nat.zero_le _
end Go.Proofs.Base
namespace Go.Proofs.YthhgfdejadbigaaDoor.GA
open Go Go.RowKit Go.Proofs.YthhgfdejadbigaaDoorW.PrintWords Go.Proofs.YthhgfdejadbigaaDoorW.PrintLast Go.Proofs.YthhgfdejadbigaaDoorW.PrintMore
open Go.Proofs.Base (GVal GVar rightV named hasV posV putList putOut getV takeVars takeV takeOk takeRaw rdByte rdInt rdText varsB valB mayV)
theorem get_mem {l : List GVar} (hr : rightV l = true) {x : GVar} (hx : x ∈ l) : getOut x.name l = (x.v, true) := by
  have hf : (l.find? fun y => y.name.toList == x.name.toList) = some x := by
    cases h : l.find? fun y => y.name.toList == x.name.toList with
    | none =>
      have hh := List.find?_eq_none.1 h x hx
      simp at hh
    | some y =>
      have hy := List.mem_of_find?_eq_some h
      have he := List.find?_some h
      have he' := toL_eq.1 he
      obtain ⟨i, hi, rfl⟩ := List.getElem_of_mem hx
      obtain ⟨j, hj, rfl⟩ := List.getElem_of_mem hy
      have h1 := (same_at hr hi rfl).2
      have h2 := (same_at hr hj he').2
      have : i = j := h1.symm.trans h2
      subst this
      rfl
  unfold getOut getV
  rw [hf]
  rfl
theorem mem_new {name : ByteArray} {v : GVal} {l : List GVar} : (⟨name, v⟩ : GVar) ∈ putList name v l := by
  unfold putList
  cases hh : hasV name l with
  | true =>
    obtain ⟨h1, _⟩ := has_at hh
    rw [if_pos rfl]
    exact List.mem_set h1 _
  | false => rw [if_neg Bool.false_ne_true]; simp
theorem mem_old {name : ByteArray} {v : GVal} {l : List GVar} {x : GVar} (hx : x ∈ l) (hn : x.name ≠ name) : x ∈ putList name v l := by
  unfold putList
  cases hh : hasV name l with
  | true =>
    obtain ⟨h1, h2⟩ := has_at hh
    rw [if_pos rfl]
    obtain ⟨j, hj, rfl⟩ := List.getElem_of_mem hx
    have hjp : posV name l ≠ j := by intro e; subst e; exact hn h2
    have e : (l.set (posV name l) ⟨name, v⟩)[j]'(by rw [List.length_set]; exact hj) = l[j] := List.getElem_set_ne hjp _
    rw [← e]
    exact List.getElem_mem _
  | false =>
    rw [if_neg Bool.false_ne_true]
    have h : x ∈ l.take (posV name l) ++ l.drop (posV name l) := by rw [List.take_append_drop]; exact hx
    rcases List.mem_append.1 h with h | h
    · exact List.mem_append.2 (.inl h)
    · exact List.mem_append.2 (.inr (List.mem_cons_of_mem _ h))
theorem wf_put {name : ByteArray} {v : GVal} {l : List GVar} (hw : ∀ x ∈ l, x.wf) (hn : Base.okS name) (hv : v.wf) : ∀ x ∈ putList name v l, x.wf := by
  intro x hx
  rcases mem_put hx with rfl | hx
  · exact ⟨hn, hv⟩
  · exact hw x hx
theorem vbyte_g {s : ByteArray} (hs : s.size ≤ 9223372036854775807) : wire_Reader_Byte.f s 0 = some (((rdByte s 0).1 : Int), (rdByte s 0).2.1, ((rdByte s 0).2.2 : Int)) := by
  unfold wire_Reader_Byte.f
  rw [if_pos ⟨Int.le_refl 0, hs⟩]
  rfl
theorem vint_g {s : ByteArray} {e : Nat} (hs : s.size ≤ 9223372036854775807) : wire_Reader_Int.f s (e : Int) = some ((rdInt s e).1, (rdInt s e).2.1, ((rdInt s e).2.2 : Int)) := by
  unfold wire_Reader_Int.f
  rw [if_pos ⟨Int.natCast_nonneg e, hs⟩, Int.toNat_natCast]
theorem vtext_g {s : ByteArray} {e : Nat} {a : Int} (ha : Base.i64 a) (hs : s.size ≤ 9223372036854775807) : wire_Reader_Text.f s (e : Int) a = some ((rdText a s e).1, (rdText a s e).2.1, ((rdText a s e).2.2 : Int)) := by
  unfold wire_Reader_Text.f
  rw [if_pos ⟨Int.natCast_nonneg e, hs, ha.1, ha.2⟩, Int.toNat_natCast]
theorem verr_g {s : ByteArray} {e : Nat} : wire_Reader_Err.f s (e : Int) = some ((e : Int), s, (e : Int)) := by
  unfold wire_Reader_Err.f
  rw [if_pos (Int.natCast_nonneg e)]
theorem vtake_j0 {k : Nat} {z : ByteArray} {a b : Int} {c : ByteArray} (hm : mayV a b c = true) : value_Take.j0 (k + 1) z 0 a b c = some (a, b, c, true, z, 0) := by
  simp only [value_Take.j0]
  rw [show wire_Reader_Err.f z 0 = some (0, z, 0) from verr_g (e := 0), Option.bind_some]
  dsimp only
  rw [if_pos rfl, show value_May.f a b c = some (mayV a b c) from rfl, Option.bind_some, hm, if_pos rfl]
theorem vtake_f {k : Nat} {s z : ByteArray} {a b : Int} {c : ByteArray} (hs : s.size ≤ 9223372036854775807) (hm : mayV a b c = true) (h : takeRaw s 0 = (⟨a, b, c⟩, z, 0)) : value_Take.f (k + 1) s 0 = some (a, b, c, true, z, 0) := by
  have hs1 : (rdByte s 0).2.1.size ≤ 9223372036854775807 := Nat.le_trans (Base.rdByte_size s 0) hs
  unfold value_Take.f
  rw [vbyte_g hs, Option.bind_some]
  dsimp only
  rw [wrap_byte (Base.rdByte_lt s 0)]
  by_cases h3 : (rdByte s 0).1 = 3
  · have ht := (take_fT h3).symm.trans h
    simp only [Prod.mk.injEq, Base.GVal.mk.injEq] at ht
    obtain ⟨⟨e1, e2, e3⟩, e4, e5⟩ := ht
    rw [h3, if_pos (show ((3 : Nat) : Int) = 3 from rfl), vtext_g (show Base.i64 1024 from ⟨by decide, by decide⟩) hs1, Option.bind_some]
    dsimp only
    rw [e3, e4, e5, e1]
    have : b = 0 := e2.symm
    subst this
    exact vtake_j0 hm
  · have ht := (take_fI h3).symm.trans h
    simp only [Prod.mk.injEq, Base.GVal.mk.injEq] at ht
    obtain ⟨⟨e1, e2, e3⟩, e4, e5⟩ := ht
    rw [if_neg (fun x : ((rdByte s 0).1 : Int) = 3 => h3 (by omega)), vint_g hs1, Option.bind_some]
    dsimp only
    rw [e2, e4, e5, e1, e3]
    exact vtake_j0 hm
theorem vars_g {s : ByteArray} {l : List GVar} {z : ByteArray} (hs : s.size ≤ 9223372036854775807) (h : takeVars s 0 = (some l, z, 0)) : value_TakeVars.f s 0 = some (l.map ofVar, true, z, 0) := by
  unfold value_TakeVars.f
  rw [if_pos ⟨Int.le_refl 0, hs⟩, show (0 : Int).toNat = 0 from rfl, h]
  rfl
end Go.Proofs.YthhgfdejadbigaaDoor.GA
/-
  Chapter 9: ValueBack, walked by hand.
-/
set_option linter.unusedVariables false
set_option linter.unusedSimpArgs false
namespace Go.Proofs.YthhgfdejadbigaaDoor.GA
open Go Go.RowKit Go.Proofs.YthhgfdejadbigaaDoorW.PrintWords Go.Proofs.YthhgfdejadbigaaDoorW.PrintLast Go.Proofs.YthhgfdejadbigaaDoorW.PrintMore
open Go.Proofs.Base (GVal GVar rightV named hasV posV putList putOut getV takeVars takeV takeOk takeRaw rdByte rdInt rdText varsB valB mayV)
def PutOk (W : World) (A : Option Addr) (cp : Nat) (l : List S60) (name : ByteArray) (a b : Int) (c : ByteArray) (M : List S60) : Prop :=
  (∀ X, Below W.heap.size W X → Calls Tryd.prog 15 #[.slice A l.length cp, .string name, .agg #[.int .i64 a, .int .i64 b, .string c]] X fun e w' => ∃ v0_ : Value, e = .returned (.tuple #[v0_, .int .i64 0]) ∧ Kd.R k60 60 w' X.heap.size (fun _ => True) v0_ M ∧ Below X.heap.size X w') ∧
  value_Get.f M name = some (a, b, c, true) ∧ (∀ x ∈ l, (x.f0 = name → value_Get.f M x.f0 = some (a, b, c, true)) ∧ (x.f0 ≠ name → value_Get.f M x.f0 = some (x.f1.f0, x.f1.f1, x.f1.f2, true))) ∧ wherryref09_Right.f 300 M = some true
theorem put_ok {W : World} {A : Option Addr} {cp : Nat} {l : List S60} {name : ByteArray} {a b : Int} {c : ByteArray} (hcp : l.length ≤ cp) (hC : Kd.C k60 W A l.length l) (hl : wfL l) (hn : Base.okS name) (hv : (⟨a, b, c⟩ : GVal).wf)
    (hput : putOut name ⟨a, b, c⟩ (l.map toVar) = (putList name ⟨a, b, c⟩ (l.map toVar), 0)) (h : rightV (putList name ⟨a, b, c⟩ (l.map toVar)) = true) : PutOk W A cp l name a b c ((putList name ⟨a, b, c⟩ (l.map toVar)).map ofVar) := by
  have hwp := wf_put (v := ⟨a, b, c⟩) (wfL_map hl) hn hv
  refine ⟨fun X hb => value_Put.calls A cp l name a b c _ 0 X (Kd.C_below hC hb) hcp (by unfold value_Put.f; rw [if_pos ⟨hl, hn⟩, hput]), ?_, fun x hx => ⟨fun e => ?_, fun e => ?_⟩, ?_⟩
  · unfold value_Get.f
    rw [map_to_of, get_mem h mem_new]
  · unfold value_Get.f
    rw [map_to_of, e, get_mem h mem_new]
  · unfold value_Get.f
    have hg : getOut x.f0 (putList name ⟨a, b, c⟩ (l.map toVar)) = ((toVar x).v, true) := get_mem h (mem_old (x := toVar x) (List.mem_map.2 ⟨x, hx, rfl⟩) e)
    rw [map_to_of, hg]
    rfl
  · rw [right_k (fun x hx => by
      obtain ⟨y, hy, rfl⟩ := List.mem_map.1 hx
      exact Nat.le_trans (hwp y hy).1 (by omega)) (by omega), map_to_of, h]
theorem put_cases {W : World} {A : Option Addr} {cp : Nat} {l : List S60} {name : ByteArray} {a b : Int} {c : ByteArray} (hcp : l.length ≤ cp) (hC : Kd.C k60 W A l.length l) (hl : wfL l) (hn : Base.okS name) (hv : (⟨a, b, c⟩ : GVal).wf) (h : rightV (l.map toVar) = true) :
    putOut name ⟨a, b, c⟩ (l.map toVar) = ([], 1) ∨ putOut name ⟨a, b, c⟩ (l.map toVar) = ([], 4) ∨ ∃ M, PutOk W A cp l name a b c M := by
  by_cases hc : (rightV (l.map toVar) && named name && (⟨a, b, c⟩ : GVal).may) = true
  · by_cases hf : hasV name (l.map toVar) = false ∧ (l.map toVar).length = 16
    · refine .inr (.inl ?_)
      unfold putOut
      rw [if_pos hc, if_pos hf]
    · have hc' := hc
      simp only [Bool.and_eq_true] at hc'
      refine .inr (.inr ⟨_, put_ok hcp hC hl hn hv ?_ (right_put (v := ⟨a, b, c⟩) h hc'.1.2 hc'.2 hf)⟩)
      unfold putOut
      rw [if_pos hc, if_neg hf]
  · refine .inl ?_
    unfold putOut
    rw [if_neg hc]
set_option maxRecDepth 100000 in
set_option maxHeartbeats 4000000 in
theorem back_walk {W : World} {A : Option Addr} {cp : Nat} {l : List S60} {name : ByteArray} {a b : Int} {c more : ByteArray} (hcp : l.length ≤ cp) (hC : Kd.C k60 W A l.length l) (hl : wfL l) (hn : Base.okS name) (hv : (⟨a, b, c⟩ : GVal).wf) (hm : Base.okS more) :
    Calls Tryd.prog 9 #[.agg #[.slice A l.length cp, .string name, .int .i64 a, .int .i64 b, .string c, .string more]] W fun e W' => e = .returned (.bool true) ∧ Below W.heap.size W W' := by
  have HC := Lib.hid hC
  have HL := Lib.hid hl
  have hks : ∀ x ∈ l, x.f0.size ≤ 9223372036854775807 := fun x hx => by have := (hl x hx).1; unfold Base.okS at this; exact Nat.le_trans (show x.f0.size ≤ _ from this) (by omega)
  have hmS : more.size ≤ 140737488351232 := hm
  have H0 := Lib.hid (fun X => wherrylaw09_shown.calls true X shown_true)
  have H1 := Lib.hid (fun X (r : Bool) (h : mayV a b c = r) => wherryref09_May.calls a b c r X (by rw [may_f, h]))
  have H2 := Lib.hid (fun X (hb : Below W.heap.size W X) (r : Bool) (h : rightV (l.map toVar) = r) => wherryref09_Right.calls 300 A cp l r X (Kd.C_below hC hb) hcp (by rw [right_k hks (by omega), h]))
  have H3 := Lib.hid (fun X => value_Bytes.calls a b c (valB a b c) X (by unfold value_Bytes.f; exact if_pos hv))
  have HS1 := Lib.hid (fun (h : mayV a b c = true) => show (valB a b c).size + more.size ≤ 9223372036854775807 by have := (show (valB a b c).size ≤ 1100 from Base.valB_size hv.2.1 h); omega)
  have HT := Lib.hid (fun (h : mayV a b c = true) => vtake_f (k := 300) (s := valB a b c ++ more) (z := more) (by rw [Base.app_size]; have := (show (valB a b c).size ≤ 1100 from Base.valB_size hv.2.1 h); omega) h (Base.takeRaw_full (v := ⟨a, b, c⟩) h hv more))
  have hvs := Base.varsB_szV (wfL_map hl)
  have HS2 : Hid ((varsB (l.map toVar)).size + more.size ≤ 9223372036854775807) := Lib.hid (by omega)
  have H6 := Lib.hid (fun X (hb : Below W.heap.size W X) => val_VarsBytesG A l.length cp (l.map toVar) X (by simp) hcp (readsV_of_C (Kd.C_below hC hb)) (wfL_map hl) (right_all A cp l X (Kd.C_below hC hb) hcp hl))
  have HTV := Lib.hid (fun (h : rightV (l.map toVar) = true) => (vars_g (s := varsB (l.map toVar) ++ more) (by rw [Base.app_size]; omega) (Base.takeVars_full h (wfL_map hl) more)).trans (by rw [map_of_to]))
  have H16 := Lib.hid (fun (h : rightV (l.map toVar) = true) => show l.length ≤ 16 by have := (Base.rightV_all h).1; simpa using this)
  have H9 := Lib.hid (fun (h : rightV (l.map toVar) = true) X (hb : Below W.heap.size W X) A2 c2 (hC2 : Kd.C k60 X A2 l.length l) (hc2 : l.length ≤ c2) => wherryref09_Same.calls 20 A cp l A2 c2 l true X (Kd.C_below hC hb) hcp hC2 hc2 (by have := H16.out h; rw [same_k (by omega) (by omega), decide_eq_true rfl]))
  have H10 := Lib.hid (fun X (hb : Below W.heap.size W X) (o : List GVar × Int) (h : putOut name ⟨a, b, c⟩ (l.map toVar) = o) => value_Put.calls A cp l name a b c (o.1.map ofVar) o.2 X (Kd.C_below hC hb) hcp (by unfold value_Put.f; rw [if_pos ⟨hl, hn⟩, h]))
  clear hvs
  obtain ⟨N, hNd⟩ : ∃ N, N = (W.alloc (.cells #[.slice A l.length cp, .string name, .int .i64 a, .int .i64 b, .string c, .string more] 58)).alloc (.cells #[.int .i64 a, .int .i64 b, .string c] 23) := ⟨_, rfl⟩
  have HND := Lib.hid hNd
  have HWN : Hid (Below W.heap.size W N) := Lib.hid (by rw [hNd]; exact Base.below_alloc (Base.below_alloc (Below.refl _ _) _) _)
  have hn5 : N.heap[W.heap.size + 1]? = some (.cells #[.int .i64 a, .int .i64 b, .string c] 23 (0, 0)) := by
    have h := heap_alloc_new (W.alloc (.cells #[.slice A l.length cp, .string name, .int .i64 a, .int .i64 b, .string c, .string more] 58)) (.cells #[.int .i64 a, .int .i64 b, .string c] 23)
    rw [World.size_alloc] at h
    rw [hNd]; exact h
  have HN5 := Lib.hid hn5
  have HBX := Lib.hid (fun X (h : Below N.heap.size N X) => And.intro (Base.cell_of_blk (Base.block_below h hn5) 0) (And.intro (Base.cell_of_blk (Base.block_below h hn5) 1) (Base.cell_of_blk (Base.block_below h hn5) 2)))
  clear hNd hn5 hC hl
  go_enter Tryd.func9, Tryd.ntmps9
  go_wp2_with fail
  rw [show (W.alloc (.cells #[.slice A l.length cp, .string name, .int .i64 a, .int .i64 b, .string c, .string more] 58)).alloc (.cells #[.int .i64 a, .int .i64 b, .string c] 23) = N from HND.out.symm]
  have HPUT : Hid (rightV (l.map toVar) = true → putOut name ⟨a, b, c⟩ (l.map toVar) = ([], 1) ∨ putOut name ⟨a, b, c⟩ (l.map toVar) = ([], 4) ∨ ∃ M, PutOk W A cp l name a b c M) := Lib.hid (fun h => put_cases hcp HC.out HL.out hn hv h)
  cases hmay : mayV a b c with
  | false =>
    cases hr : rightV (l.map toVar) with
    | false =>
      go_wp2_with (first
        | (go_at_call 10; refine (H0.out _).mono ?_; rintro e X0 ⟨rfl, hb⟩; have HB0 := Lib.hid hb; obtain ⟨d0, d1, d2⟩ := HBX.out _ hb; clear hb)
        | (go_at_call 11; refine (H1.out _ _ hmay).mono ?_; rintro e X1 ⟨rfl, hb⟩; have HB1 := Lib.hid (Base.below2 HB0.out hb); clear hb d0 d1 d2)
        | (go_at_call 24; refine (H2.out _ (Base.below2 HWN.out HB1.out) _ hr).mono ?_; rintro e X2 ⟨rfl, hb⟩; have HB2 := Lib.hid (Base.below2 HB1.out hb); obtain ⟨d0, d1, d2⟩ := HBX.out _ HB2.out; clear hb))
      go_ret
      exact ⟨rfl, Base.below2 HWN.out HB2.out⟩
    | true =>
      rcases HPUT.out hr with hput | hput | ⟨M, hM⟩
      · go_wp2_with (first
          | (go_at_call 10; refine (H0.out _).mono ?_; rintro e X0 ⟨rfl, hb⟩; have HB0 := Lib.hid hb; obtain ⟨d0, d1, d2⟩ := HBX.out _ hb; clear hb)
          | (go_at_call 11; refine (H1.out _ _ hmay).mono ?_; rintro e X1 ⟨rfl, hb⟩; have HB1 := Lib.hid (Base.below2 HB0.out hb); clear hb d0 d1 d2)
          | (go_at_call 24; refine (H2.out _ (Base.below2 HWN.out HB1.out) _ hr).mono ?_; rintro e X2 ⟨rfl, hb⟩; have HB2 := Lib.hid (Base.below2 HB1.out hb); obtain ⟨d0, d1, d2⟩ := HBX.out _ HB2.out; clear hb)
          | (go_at_call 27; refine (H6.out _ (Base.below2 HWN.out HB2.out)).mono ?_; rintro e X6 ⟨rfl, hb⟩; have HB6 := Lib.hid (Base.below2 HB2.out hb); have hs2 := HS2.out; clear hb d0 d1 d2)
          | (go_at_call 31; refine (wire_Read.calls (varsB (l.map toVar) ++ more) _ _ _ _ (Below.refl _ _) rfl).mono ?_; rintro e X7 ⟨g2, rfl, hI, -, hb⟩; have HI7 := Lib.hid hI; have HB7 := Lib.hid hb; clear hI hb)
          | (go_at_call 33; refine (value_TakeVars.calls g2 _ _ _ _ _ _ _ _ HI7.out HB7.out (HTV.out hr)).mono ?_; rintro e X8 ⟨v0, rfl, hR, -, hb, -⟩; obtain ⟨A2, c2, rfl, hc2, hC2⟩ := Kd.R_reads hR; have HC2 := Lib.hid hC2; have HB8 := Lib.hid (Base.below2 HB6.out hb); clear hR hC2 hb)
          | (go_at_call 17; refine (H9.out hr _ (Base.below2 HWN.out HB8.out) A2 c2 HC2.out hc2).mono ?_; rintro e X9 ⟨rfl, hd⟩; have HB9 := Lib.hid (Base.below2 HB8.out hd.below); obtain ⟨d0, d1, d2⟩ := HBX.out _ HB9.out; clear hd)
          | (go_at_call 15; refine (H10.out _ (Base.below2 HWN.out HB9.out) _ hput).mono ?_; rintro e X10 ⟨v1, rfl, hR, hb⟩; obtain ⟨A3, c3, rfl, hc3, hC3⟩ := Kd.R_reads hR; have HC3 := Lib.hid hC3; have HB10 := Lib.hid (Base.below2 HB9.out hb); have HR3 := Lib.hid hc3; simp only [List.map_nil, List.length_nil] at *; clear hR hC3 hb d0 d1 d2))
        go_ret
        exact ⟨rfl, Base.below2 HWN.out HB10.out⟩
      · go_wp2_with (first
          | (go_at_call 10; refine (H0.out _).mono ?_; rintro e X0 ⟨rfl, hb⟩; have HB0 := Lib.hid hb; obtain ⟨d0, d1, d2⟩ := HBX.out _ hb; clear hb)
          | (go_at_call 11; refine (H1.out _ _ hmay).mono ?_; rintro e X1 ⟨rfl, hb⟩; have HB1 := Lib.hid (Base.below2 HB0.out hb); clear hb d0 d1 d2)
          | (go_at_call 24; refine (H2.out _ (Base.below2 HWN.out HB1.out) _ hr).mono ?_; rintro e X2 ⟨rfl, hb⟩; have HB2 := Lib.hid (Base.below2 HB1.out hb); obtain ⟨d0, d1, d2⟩ := HBX.out _ HB2.out; clear hb)
          | (go_at_call 27; refine (H6.out _ (Base.below2 HWN.out HB2.out)).mono ?_; rintro e X6 ⟨rfl, hb⟩; have HB6 := Lib.hid (Base.below2 HB2.out hb); have hs2 := HS2.out; clear hb d0 d1 d2)
          | (go_at_call 31; refine (wire_Read.calls (varsB (l.map toVar) ++ more) _ _ _ _ (Below.refl _ _) rfl).mono ?_; rintro e X7 ⟨g2, rfl, hI, -, hb⟩; have HI7 := Lib.hid hI; have HB7 := Lib.hid hb; clear hI hb)
          | (go_at_call 33; refine (value_TakeVars.calls g2 _ _ _ _ _ _ _ _ HI7.out HB7.out (HTV.out hr)).mono ?_; rintro e X8 ⟨v0, rfl, hR, -, hb, -⟩; obtain ⟨A2, c2, rfl, hc2, hC2⟩ := Kd.R_reads hR; have HC2 := Lib.hid hC2; have HB8 := Lib.hid (Base.below2 HB6.out hb); clear hR hC2 hb)
          | (go_at_call 17; refine (H9.out hr _ (Base.below2 HWN.out HB8.out) A2 c2 HC2.out hc2).mono ?_; rintro e X9 ⟨rfl, hd⟩; have HB9 := Lib.hid (Base.below2 HB8.out hd.below); obtain ⟨d0, d1, d2⟩ := HBX.out _ HB9.out; clear hd)
          | (go_at_call 15; refine (H10.out _ (Base.below2 HWN.out HB9.out) _ hput).mono ?_; rintro e X10 ⟨v1, rfl, hR, hb⟩; obtain ⟨A3, c3, rfl, hc3, hC3⟩ := Kd.R_reads hR; have HC3 := Lib.hid hC3; have HB10 := Lib.hid (Base.below2 HB9.out hb); have HR3 := Lib.hid hc3; simp only [List.map_nil, List.length_nil] at *; clear hR hC3 hb d0 d1 d2))
        go_ret
        exact ⟨rfl, Base.below2 HWN.out HB10.out⟩
      · have HM := Lib.hid hM
        clear hM
        go_wp2_with (first
          | (go_at_call 10; refine (H0.out _).mono ?_; rintro e X0 ⟨rfl, hb⟩; have HB0 := Lib.hid hb; obtain ⟨d0, d1, d2⟩ := HBX.out _ hb; clear hb)
          | (go_at_call 11; refine (H1.out _ _ hmay).mono ?_; rintro e X1 ⟨rfl, hb⟩; have HB1 := Lib.hid (Base.below2 HB0.out hb); clear hb d0 d1 d2)
          | (go_at_call 24; refine (H2.out _ (Base.below2 HWN.out HB1.out) _ hr).mono ?_; rintro e X2 ⟨rfl, hb⟩; have HB2 := Lib.hid (Base.below2 HB1.out hb); obtain ⟨d0, d1, d2⟩ := HBX.out _ HB2.out; clear hb)
          | (go_at_call 27; refine (H6.out _ (Base.below2 HWN.out HB2.out)).mono ?_; rintro e X6 ⟨rfl, hb⟩; have HB6 := Lib.hid (Base.below2 HB2.out hb); have hs2 := HS2.out; clear hb d0 d1 d2)
          | (go_at_call 31; refine (wire_Read.calls (varsB (l.map toVar) ++ more) _ _ _ _ (Below.refl _ _) rfl).mono ?_; rintro e X7 ⟨g2, rfl, hI, -, hb⟩; have HI7 := Lib.hid hI; have HB7 := Lib.hid hb; clear hI hb)
          | (go_at_call 33; refine (value_TakeVars.calls g2 _ _ _ _ _ _ _ _ HI7.out HB7.out (HTV.out hr)).mono ?_; rintro e X8 ⟨v0, rfl, hR, -, hb, -⟩; obtain ⟨A2, c2, rfl, hc2, hC2⟩ := Kd.R_reads hR; have HC2 := Lib.hid hC2; have HB8 := Lib.hid (Base.below2 HB6.out hb); clear hR hC2 hb)
          | (go_at_call 17; refine (H9.out hr _ (Base.below2 HWN.out HB8.out) A2 c2 HC2.out hc2).mono ?_; rintro e X9 ⟨rfl, hd⟩; have HB9 := Lib.hid (Base.below2 HB8.out hd.below); obtain ⟨d0, d1, d2⟩ := HBX.out _ HB9.out; clear hd)
          | (go_at_call 15; refine (HM.out.1 _ (Base.below2 HWN.out HB9.out)).mono ?_; rintro e X10 ⟨v1, rfl, hR, hb⟩; obtain ⟨A3, c3, rfl, hc3, hC3⟩ := Kd.R_reads hR; have HC3 := Lib.hid hC3; have HB10 := Lib.hid (Base.below2 HB9.out hb); have HR3 := Lib.hid hc3; clear hR hC3 hb d0 d1 d2)
          | (go_at_call 18; refine (value_Get.calls A3 c3 _ name a b c true _ HC3.out HR3.out HM.out.2.1).mono ?_; rintro e X11 ⟨rfl, hb⟩; have HB11 := Lib.hid (Base.below_alloc (Base.below2 HB10.out hb) (.cells #[.int .i64 a, .int .i64 b, .string c] 23)); have HP3 := Lib.hid (Kd.C_below HC3.out (Base.below_alloc hb (.cells #[.int .i64 a, .int .i64 b, .string c] 23))); have HP17 := Lib.hid (heap_alloc_new X11 (.cells #[.int .i64 a, .int .i64 b, .string c] 23)); clear hb))
        generalize X11.alloc (.cells #[.int .i64 a, .int .i64 b, .string c] 23) = P at *
        generalize X11.heap.size = pz at *
        go_loopw [19] (fun i wr => ∃ j : Nat, j ≤ l.length ∧ i = .int .i64 j ∧ Hid (Below P.heap.size P wr)) (fun i _ => l.length - (intOf i).toNat)
        case atStart => exact ⟨0, Nat.zero_le _, rfl, Lib.hid (Below.refl _ _)⟩
        case round =>
          obtain ⟨j, hj, rfl, HBL⟩ := hrel
          have hl16 := H16.out hr
          have HPW := Lib.hid (Base.below2 HWN.out (Base.below2 HB11.out HBL.out))
          by_cases hlt : j < l.length
          · obtain ⟨ad, hA, _, c0, c1, c2', c3'⟩ := readsV_of_C (Kd.C_below HC.out HPW.out) j (by simpa using hlt)
            rw [List.getElem_map] at c0 c1 c2' c3'
            have hmem : l[j] ∈ l := List.getElem_mem hlt
            have HGJ := Lib.hid (HM.out.2.2.1 l[j] hmem)
            generalize l[j] = x at *
            subst hA
            clear hmem
            by_cases hx : x.f0 = name
            · have HGX := Lib.hid (HGJ.out.1 hx)
              have hq : (x.f0.toList == name.toList) = true := by rw [hx]; exact beq_self_eq_true _
              clear hx
              have c0a : wr.cell? _ = some (.string x.f0) := c0
              have c1a : wr.cell? _ = some (.int .i64 x.f1.f0) := c1
              have c2a : wr.cell? _ = some (.int .i64 x.f1.f1) := c2'
              have c3a : wr.cell? _ = some (.string x.f1.f2) := c3'
              clear c0 c1 c2' c3'
              go_wp2_with (go_at_call 18; refine (value_Get.calls A3 c3 _ x.f0 _ _ _ true _ (Kd.C_below HP3.out HBL.out) HR3.out HGX.out).mono ?_; rintro e X12 ⟨rfl, hb⟩; have hb2 := Base.below_alloc hb (.cells #[.int .i64 a, .int .i64 b, .string c] 23); have HB12 := Lib.hid (Base.below2 HBL.out hb2); have y0 := cell_regrown (Base.cell_below hb2 c0a); have y1 := cell_regrown (Base.cell_below hb2 c1a); have y2 := cell_regrown (Base.cell_below hb2 c2a); have y3 := cell_regrown (Base.cell_below hb2 c3a); have hn12 := heap_alloc_new X12 (.cells #[.int .i64 a, .int .i64 b, .string c] 23); have y4 := cell_regrown (Base.cell_of_blk hn12 0); have y5 := cell_regrown (Base.cell_of_blk hn12 1); have y6 := cell_regrown (Base.cell_of_blk hn12 2); clear hb hb2 hn12 c0a c1a c2a c3a)
              refine wp_region_quiet_below (by kernel_rfl) (by kernel_rfl) ?_
              repeat (first | go_big_quiet_step (fail) | quiet_step (fail))
              refine wpQuiet_nil ?_
              intro _ hw'
              obtain ⟨⟨dq, osq⟩, hw''⟩ := hw'
              subst hw''
              have HBq := Lib.hid (Base.below2 HB12.out (below_regrown _ dq osq))
              clear y0 y1 y2 y3 y4 y5 y6
              go_wp2
              go_roundw
              case rel => exact ⟨j + 1, by omega, by go_num, HBq⟩
              case measure => simp [intOf]; omega
            · have HGX := Lib.hid (HGJ.out.2 hx)
              have hq : (x.f0.toList == name.toList) = false := by
                cases hz : (x.f0.toList == name.toList) with
                | true => exact (hx (toL_eq.1 hz)).elim
                | false => rfl
              clear hx
              have c0a : wr.cell? _ = some (.string x.f0) := c0
              have c1a : wr.cell? _ = some (.int .i64 x.f1.f0) := c1
              have c2a : wr.cell? _ = some (.int .i64 x.f1.f1) := c2'
              have c3a : wr.cell? _ = some (.string x.f1.f2) := c3'
              clear c0 c1 c2' c3'
              go_wp2_with (go_at_call 18; refine (value_Get.calls A3 c3 _ x.f0 _ _ _ true _ (Kd.C_below HP3.out HBL.out) HR3.out HGX.out).mono ?_; rintro e X12 ⟨rfl, hb⟩; have hb2 := Base.below_alloc hb (.cells #[.int .i64 x.f1.f0, .int .i64 x.f1.f1, .string x.f1.f2] 23); have HB12 := Lib.hid (Base.below2 HBL.out hb2); have y0 := cell_regrown (Base.cell_below hb2 c0a); have y1 := cell_regrown (Base.cell_below hb2 c1a); have y2 := cell_regrown (Base.cell_below hb2 c2a); have y3 := cell_regrown (Base.cell_below hb2 c3a); have hn12 := heap_alloc_new X12 (.cells #[.int .i64 x.f1.f0, .int .i64 x.f1.f1, .string x.f1.f2] 23); have y4 := cell_regrown (Base.cell_of_blk hn12 0); have y5 := cell_regrown (Base.cell_of_blk hn12 1); have y6 := cell_regrown (Base.cell_of_blk hn12 2); clear hb hb2 hn12 c0a c1a c2a c3a)
              refine wp_region_quiet_below (by kernel_rfl) (by kernel_rfl) ?_
              repeat (first | go_big_quiet_step (fail) | quiet_step (fail))
              refine wpQuiet_nil ?_
              intro _ hw'
              obtain ⟨⟨dq, osq⟩, hw''⟩ := hw'
              subst hw''
              have HBq := Lib.hid (Base.below2 HB12.out (below_regrown _ dq osq))
              clear y0 y1 y2 y3 y4 y5 y6
              go_wp2
              go_roundw
              case rel => exact ⟨j + 1, by omega, by go_num, HBq⟩
              case measure => simp [intOf]; omega
          · obtain rfl : j = l.length := by omega
            go_wp2_with (go_at_call 24; refine (wherryref09_Right.calls 300 A3 c3 M true _ (Kd.C_below HP3.out HBL.out) HR3.out HM.out.2.2.2).mono ?_; rintro e X13 ⟨rfl, hb⟩; have HB13 := Lib.hid (Base.below2 HB11.out (Base.below2 HBL.out hb)); obtain ⟨d0, d1, d2⟩ := HBX.out _ HB13.out; have hp17 := Base.block_below (Base.below2 HBL.out hb) HP17.out; have e0 := Base.cell_of_blk hp17 0; have e1 := Base.cell_of_blk hp17 1; have e2 := Base.cell_of_blk hp17 2; clear hb hp17)
            go_ret
            exact ⟨rfl, Base.below2 HWN.out HB13.out⟩
  | true =>
    have hsum := HS1.out hmay
    cases hr : rightV (l.map toVar) with
    | false =>
      go_wp2_with (first
        | (go_at_call 10; refine (H0.out _).mono ?_; rintro e X0 ⟨rfl, hb⟩; have HB0 := Lib.hid hb; obtain ⟨d0, d1, d2⟩ := HBX.out _ hb; clear hb)
        | (go_at_call 11; refine (H1.out _ _ hmay).mono ?_; rintro e X1 ⟨rfl, hb⟩; have HB1 := Lib.hid (Base.below2 HB0.out hb); clear hb d0 d1 d2)
        | (go_at_call 24; refine (H2.out _ (Base.below2 HWN.out HB1.out) _ hr).mono ?_; rintro e X2 ⟨rfl, hb⟩; have HB2 := Lib.hid (Base.below2 HB1.out hb); obtain ⟨d0, d1, d2⟩ := HBX.out _ HB2.out; clear hb)
        | (go_at_call 12; refine (H3.out _).mono ?_; rintro e X3 ⟨rfl, hb⟩; have HB3 := Lib.hid (Base.below2 HB2.out hb); clear hb d0 d1 d2)
        | (go_at_call 31; refine (wire_Read.calls (valB a b c ++ more) _ _ _ _ (Below.refl _ _) rfl).mono ?_; rintro e X4 ⟨g, rfl, hI, -, hb⟩; have HI4 := Lib.hid hI; have HB4 := Lib.hid hb; clear hI hb)
        | (go_at_call 30; refine (value_Take.calls 301 g _ _ _ _ _ _ _ _ _ _ HI4.out HB4.out (HT.out hmay)).mono ?_; rintro e X5 ⟨rfl, -, hb, -⟩; have HB5 := Lib.hid (Base.below_alloc (Base.below2 HB3.out hb) (.cells #[.int .i64 a, .int .i64 b, .string c] 23)); obtain ⟨d0, d1, d2⟩ := HBX.out _ HB5.out; have hlt5 : W.heap.size + 1 < X5.heap.size := Nat.lt_of_lt_of_le (Base.lt_of_blk HN5.out) (Base.below2 HB3.out hb).size; clear hb))
      go_ret
      exact ⟨rfl, Base.below2 HWN.out HB5.out⟩
    | true =>
      rcases HPUT.out hr with hput | hput | ⟨M, hM⟩
      · go_wp2_with (first
          | (go_at_call 10; refine (H0.out _).mono ?_; rintro e X0 ⟨rfl, hb⟩; have HB0 := Lib.hid hb; obtain ⟨d0, d1, d2⟩ := HBX.out _ hb; clear hb)
          | (go_at_call 11; refine (H1.out _ _ hmay).mono ?_; rintro e X1 ⟨rfl, hb⟩; have HB1 := Lib.hid (Base.below2 HB0.out hb); clear hb d0 d1 d2)
          | (go_at_call 24; refine (H2.out _ (Base.below2 HWN.out HB1.out) _ hr).mono ?_; rintro e X2 ⟨rfl, hb⟩; have HB2 := Lib.hid (Base.below2 HB1.out hb); obtain ⟨d0, d1, d2⟩ := HBX.out _ HB2.out; clear hb)
          | (go_at_call 12; refine (H3.out _).mono ?_; rintro e X3 ⟨rfl, hb⟩; have HB3 := Lib.hid (Base.below2 HB2.out hb); clear hb d0 d1 d2)
          | (go_at_call 31; refine (wire_Read.calls (valB a b c ++ more) _ _ _ _ (Below.refl _ _) rfl).mono ?_; rintro e X4 ⟨g, rfl, hI, -, hb⟩; have HI4 := Lib.hid hI; have HB4 := Lib.hid hb; clear hI hb)
          | (go_at_call 30; refine (value_Take.calls 301 g _ _ _ _ _ _ _ _ _ _ HI4.out HB4.out (HT.out hmay)).mono ?_; rintro e X5 ⟨rfl, -, hb, -⟩; have HB5 := Lib.hid (Base.below_alloc (Base.below2 HB3.out hb) (.cells #[.int .i64 a, .int .i64 b, .string c] 23)); obtain ⟨d0, d1, d2⟩ := HBX.out _ HB5.out; have hlt5 : W.heap.size + 1 < X5.heap.size := Nat.lt_of_lt_of_le (Base.lt_of_blk HN5.out) (Base.below2 HB3.out hb).size; clear hb)
          | (go_at_call 27; refine (H6.out _ (Base.below2 HWN.out HB5.out)).mono ?_; rintro e X6 ⟨rfl, hb⟩; have HB6 := Lib.hid (Base.below2 HB5.out hb); have hs2 := HS2.out; clear hb d0 d1 d2)
          | (go_at_call 31; refine (wire_Read.calls (varsB (l.map toVar) ++ more) _ _ _ _ (Below.refl _ _) rfl).mono ?_; rintro e X7 ⟨g2, rfl, hI, -, hb⟩; have HI7 := Lib.hid hI; have HB7 := Lib.hid hb; clear hI hb)
          | (go_at_call 33; refine (value_TakeVars.calls g2 _ _ _ _ _ _ _ _ HI7.out HB7.out (HTV.out hr)).mono ?_; rintro e X8 ⟨v0, rfl, hR, -, hb, -⟩; obtain ⟨A2, c2, rfl, hc2, hC2⟩ := Kd.R_reads hR; have HC2 := Lib.hid hC2; have HB8 := Lib.hid (Base.below2 HB6.out hb); clear hR hC2 hb)
          | (go_at_call 17; refine (H9.out hr _ (Base.below2 HWN.out HB8.out) A2 c2 HC2.out hc2).mono ?_; rintro e X9 ⟨rfl, hd⟩; have HB9 := Lib.hid (Base.below2 HB8.out hd.below); obtain ⟨d0, d1, d2⟩ := HBX.out _ HB9.out; clear hd)
          | (go_at_call 15; refine (H10.out _ (Base.below2 HWN.out HB9.out) _ hput).mono ?_; rintro e X10 ⟨v1, rfl, hR, hb⟩; obtain ⟨A3, c3, rfl, hc3, hC3⟩ := Kd.R_reads hR; have HC3 := Lib.hid hC3; have HB10 := Lib.hid (Base.below2 HB9.out hb); have HR3 := Lib.hid hc3; simp only [List.map_nil, List.length_nil] at *; clear hR hC3 hb d0 d1 d2))
        go_ret
        exact ⟨rfl, Base.below2 HWN.out HB10.out⟩
      · go_wp2_with (first
          | (go_at_call 10; refine (H0.out _).mono ?_; rintro e X0 ⟨rfl, hb⟩; have HB0 := Lib.hid hb; obtain ⟨d0, d1, d2⟩ := HBX.out _ hb; clear hb)
          | (go_at_call 11; refine (H1.out _ _ hmay).mono ?_; rintro e X1 ⟨rfl, hb⟩; have HB1 := Lib.hid (Base.below2 HB0.out hb); clear hb d0 d1 d2)
          | (go_at_call 24; refine (H2.out _ (Base.below2 HWN.out HB1.out) _ hr).mono ?_; rintro e X2 ⟨rfl, hb⟩; have HB2 := Lib.hid (Base.below2 HB1.out hb); obtain ⟨d0, d1, d2⟩ := HBX.out _ HB2.out; clear hb)
          | (go_at_call 12; refine (H3.out _).mono ?_; rintro e X3 ⟨rfl, hb⟩; have HB3 := Lib.hid (Base.below2 HB2.out hb); clear hb d0 d1 d2)
          | (go_at_call 31; refine (wire_Read.calls (valB a b c ++ more) _ _ _ _ (Below.refl _ _) rfl).mono ?_; rintro e X4 ⟨g, rfl, hI, -, hb⟩; have HI4 := Lib.hid hI; have HB4 := Lib.hid hb; clear hI hb)
          | (go_at_call 30; refine (value_Take.calls 301 g _ _ _ _ _ _ _ _ _ _ HI4.out HB4.out (HT.out hmay)).mono ?_; rintro e X5 ⟨rfl, -, hb, -⟩; have HB5 := Lib.hid (Base.below_alloc (Base.below2 HB3.out hb) (.cells #[.int .i64 a, .int .i64 b, .string c] 23)); obtain ⟨d0, d1, d2⟩ := HBX.out _ HB5.out; have hlt5 : W.heap.size + 1 < X5.heap.size := Nat.lt_of_lt_of_le (Base.lt_of_blk HN5.out) (Base.below2 HB3.out hb).size; clear hb)
          | (go_at_call 27; refine (H6.out _ (Base.below2 HWN.out HB5.out)).mono ?_; rintro e X6 ⟨rfl, hb⟩; have HB6 := Lib.hid (Base.below2 HB5.out hb); have hs2 := HS2.out; clear hb d0 d1 d2)
          | (go_at_call 31; refine (wire_Read.calls (varsB (l.map toVar) ++ more) _ _ _ _ (Below.refl _ _) rfl).mono ?_; rintro e X7 ⟨g2, rfl, hI, -, hb⟩; have HI7 := Lib.hid hI; have HB7 := Lib.hid hb; clear hI hb)
          | (go_at_call 33; refine (value_TakeVars.calls g2 _ _ _ _ _ _ _ _ HI7.out HB7.out (HTV.out hr)).mono ?_; rintro e X8 ⟨v0, rfl, hR, -, hb, -⟩; obtain ⟨A2, c2, rfl, hc2, hC2⟩ := Kd.R_reads hR; have HC2 := Lib.hid hC2; have HB8 := Lib.hid (Base.below2 HB6.out hb); clear hR hC2 hb)
          | (go_at_call 17; refine (H9.out hr _ (Base.below2 HWN.out HB8.out) A2 c2 HC2.out hc2).mono ?_; rintro e X9 ⟨rfl, hd⟩; have HB9 := Lib.hid (Base.below2 HB8.out hd.below); obtain ⟨d0, d1, d2⟩ := HBX.out _ HB9.out; clear hd)
          | (go_at_call 15; refine (H10.out _ (Base.below2 HWN.out HB9.out) _ hput).mono ?_; rintro e X10 ⟨v1, rfl, hR, hb⟩; obtain ⟨A3, c3, rfl, hc3, hC3⟩ := Kd.R_reads hR; have HC3 := Lib.hid hC3; have HB10 := Lib.hid (Base.below2 HB9.out hb); have HR3 := Lib.hid hc3; simp only [List.map_nil, List.length_nil] at *; clear hR hC3 hb d0 d1 d2))
        go_ret
        exact ⟨rfl, Base.below2 HWN.out HB10.out⟩
      · have HM := Lib.hid hM
        clear hM
        go_wp2_with (first
          | (go_at_call 10; refine (H0.out _).mono ?_; rintro e X0 ⟨rfl, hb⟩; have HB0 := Lib.hid hb; obtain ⟨d0, d1, d2⟩ := HBX.out _ hb; clear hb)
          | (go_at_call 11; refine (H1.out _ _ hmay).mono ?_; rintro e X1 ⟨rfl, hb⟩; have HB1 := Lib.hid (Base.below2 HB0.out hb); clear hb d0 d1 d2)
          | (go_at_call 24; refine (H2.out _ (Base.below2 HWN.out HB1.out) _ hr).mono ?_; rintro e X2 ⟨rfl, hb⟩; have HB2 := Lib.hid (Base.below2 HB1.out hb); obtain ⟨d0, d1, d2⟩ := HBX.out _ HB2.out; clear hb)
          | (go_at_call 12; refine (H3.out _).mono ?_; rintro e X3 ⟨rfl, hb⟩; have HB3 := Lib.hid (Base.below2 HB2.out hb); clear hb d0 d1 d2)
          | (go_at_call 31; refine (wire_Read.calls (valB a b c ++ more) _ _ _ _ (Below.refl _ _) rfl).mono ?_; rintro e X4 ⟨g, rfl, hI, -, hb⟩; have HI4 := Lib.hid hI; have HB4 := Lib.hid hb; clear hI hb)
          | (go_at_call 30; refine (value_Take.calls 301 g _ _ _ _ _ _ _ _ _ _ HI4.out HB4.out (HT.out hmay)).mono ?_; rintro e X5 ⟨rfl, -, hb, -⟩; have HB5 := Lib.hid (Base.below_alloc (Base.below2 HB3.out hb) (.cells #[.int .i64 a, .int .i64 b, .string c] 23)); obtain ⟨d0, d1, d2⟩ := HBX.out _ HB5.out; have hlt5 : W.heap.size + 1 < X5.heap.size := Nat.lt_of_lt_of_le (Base.lt_of_blk HN5.out) (Base.below2 HB3.out hb).size; clear hb)
          | (go_at_call 27; refine (H6.out _ (Base.below2 HWN.out HB5.out)).mono ?_; rintro e X6 ⟨rfl, hb⟩; have HB6 := Lib.hid (Base.below2 HB5.out hb); have hs2 := HS2.out; clear hb d0 d1 d2)
          | (go_at_call 31; refine (wire_Read.calls (varsB (l.map toVar) ++ more) _ _ _ _ (Below.refl _ _) rfl).mono ?_; rintro e X7 ⟨g2, rfl, hI, -, hb⟩; have HI7 := Lib.hid hI; have HB7 := Lib.hid hb; clear hI hb)
          | (go_at_call 33; refine (value_TakeVars.calls g2 _ _ _ _ _ _ _ _ HI7.out HB7.out (HTV.out hr)).mono ?_; rintro e X8 ⟨v0, rfl, hR, -, hb, -⟩; obtain ⟨A2, c2, rfl, hc2, hC2⟩ := Kd.R_reads hR; have HC2 := Lib.hid hC2; have HB8 := Lib.hid (Base.below2 HB6.out hb); clear hR hC2 hb)
          | (go_at_call 17; refine (H9.out hr _ (Base.below2 HWN.out HB8.out) A2 c2 HC2.out hc2).mono ?_; rintro e X9 ⟨rfl, hd⟩; have HB9 := Lib.hid (Base.below2 HB8.out hd.below); obtain ⟨d0, d1, d2⟩ := HBX.out _ HB9.out; clear hd)
          | (go_at_call 15; refine (HM.out.1 _ (Base.below2 HWN.out HB9.out)).mono ?_; rintro e X10 ⟨v1, rfl, hR, hb⟩; obtain ⟨A3, c3, rfl, hc3, hC3⟩ := Kd.R_reads hR; have HC3 := Lib.hid hC3; have HB10 := Lib.hid (Base.below2 HB9.out hb); have HR3 := Lib.hid hc3; clear hR hC3 hb d0 d1 d2)
          | (go_at_call 18; refine (value_Get.calls A3 c3 _ name a b c true _ HC3.out HR3.out HM.out.2.1).mono ?_; rintro e X11 ⟨rfl, hb⟩; have HB11 := Lib.hid (Base.below_alloc (Base.below2 HB10.out hb) (.cells #[.int .i64 a, .int .i64 b, .string c] 23)); have HP3 := Lib.hid (Kd.C_below HC3.out (Base.below_alloc hb (.cells #[.int .i64 a, .int .i64 b, .string c] 23))); have HP17 := Lib.hid (heap_alloc_new X11 (.cells #[.int .i64 a, .int .i64 b, .string c] 23)); clear hb))
        generalize X11.alloc (.cells #[.int .i64 a, .int .i64 b, .string c] 23) = P at *
        generalize X11.heap.size = pz at *
        go_loopw [19] (fun i wr => ∃ j : Nat, j ≤ l.length ∧ i = .int .i64 j ∧ Hid (Below P.heap.size P wr)) (fun i _ => l.length - (intOf i).toNat)
        case atStart => exact ⟨0, Nat.zero_le _, rfl, Lib.hid (Below.refl _ _)⟩
        case round =>
          obtain ⟨j, hj, rfl, HBL⟩ := hrel
          have hl16 := H16.out hr
          have HPW := Lib.hid (Base.below2 HWN.out (Base.below2 HB11.out HBL.out))
          by_cases hlt : j < l.length
          · obtain ⟨ad, hA, _, c0, c1, c2', c3'⟩ := readsV_of_C (Kd.C_below HC.out HPW.out) j (by simpa using hlt)
            rw [List.getElem_map] at c0 c1 c2' c3'
            have hmem : l[j] ∈ l := List.getElem_mem hlt
            have HGJ := Lib.hid (HM.out.2.2.1 l[j] hmem)
            generalize l[j] = x at *
            subst hA
            clear hmem
            by_cases hx : x.f0 = name
            · have HGX := Lib.hid (HGJ.out.1 hx)
              have hq : (x.f0.toList == name.toList) = true := by rw [hx]; exact beq_self_eq_true _
              clear hx
              have c0a : wr.cell? _ = some (.string x.f0) := c0
              have c1a : wr.cell? _ = some (.int .i64 x.f1.f0) := c1
              have c2a : wr.cell? _ = some (.int .i64 x.f1.f1) := c2'
              have c3a : wr.cell? _ = some (.string x.f1.f2) := c3'
              clear c0 c1 c2' c3'
              go_wp2_with (go_at_call 18; refine (value_Get.calls A3 c3 _ x.f0 _ _ _ true _ (Kd.C_below HP3.out HBL.out) HR3.out HGX.out).mono ?_; rintro e X12 ⟨rfl, hb⟩; have hb2 := Base.below_alloc hb (.cells #[.int .i64 a, .int .i64 b, .string c] 23); have HB12 := Lib.hid (Base.below2 HBL.out hb2); have y0 := cell_regrown (Base.cell_below hb2 c0a); have y1 := cell_regrown (Base.cell_below hb2 c1a); have y2 := cell_regrown (Base.cell_below hb2 c2a); have y3 := cell_regrown (Base.cell_below hb2 c3a); have hn12 := heap_alloc_new X12 (.cells #[.int .i64 a, .int .i64 b, .string c] 23); have y4 := cell_regrown (Base.cell_of_blk hn12 0); have y5 := cell_regrown (Base.cell_of_blk hn12 1); have y6 := cell_regrown (Base.cell_of_blk hn12 2); clear hb hb2 hn12 c0a c1a c2a c3a)
              refine wp_region_quiet_below (by kernel_rfl) (by kernel_rfl) ?_
              repeat (first | go_big_quiet_step (fail) | quiet_step (fail))
              refine wpQuiet_nil ?_
              intro _ hw'
              obtain ⟨⟨dq, osq⟩, hw''⟩ := hw'
              subst hw''
              have HBq := Lib.hid (Base.below2 HB12.out (below_regrown _ dq osq))
              clear y0 y1 y2 y3 y4 y5 y6
              go_wp2
              go_roundw
              case rel => exact ⟨j + 1, by omega, by go_num, HBq⟩
              case measure => simp [intOf]; omega
            · have HGX := Lib.hid (HGJ.out.2 hx)
              have hq : (x.f0.toList == name.toList) = false := by
                cases hz : (x.f0.toList == name.toList) with
                | true => exact (hx (toL_eq.1 hz)).elim
                | false => rfl
              clear hx
              have c0a : wr.cell? _ = some (.string x.f0) := c0
              have c1a : wr.cell? _ = some (.int .i64 x.f1.f0) := c1
              have c2a : wr.cell? _ = some (.int .i64 x.f1.f1) := c2'
              have c3a : wr.cell? _ = some (.string x.f1.f2) := c3'
              clear c0 c1 c2' c3'
              go_wp2_with (go_at_call 18; refine (value_Get.calls A3 c3 _ x.f0 _ _ _ true _ (Kd.C_below HP3.out HBL.out) HR3.out HGX.out).mono ?_; rintro e X12 ⟨rfl, hb⟩; have hb2 := Base.below_alloc hb (.cells #[.int .i64 x.f1.f0, .int .i64 x.f1.f1, .string x.f1.f2] 23); have HB12 := Lib.hid (Base.below2 HBL.out hb2); have y0 := cell_regrown (Base.cell_below hb2 c0a); have y1 := cell_regrown (Base.cell_below hb2 c1a); have y2 := cell_regrown (Base.cell_below hb2 c2a); have y3 := cell_regrown (Base.cell_below hb2 c3a); have hn12 := heap_alloc_new X12 (.cells #[.int .i64 x.f1.f0, .int .i64 x.f1.f1, .string x.f1.f2] 23); have y4 := cell_regrown (Base.cell_of_blk hn12 0); have y5 := cell_regrown (Base.cell_of_blk hn12 1); have y6 := cell_regrown (Base.cell_of_blk hn12 2); clear hb hb2 hn12 c0a c1a c2a c3a)
              refine wp_region_quiet_below (by kernel_rfl) (by kernel_rfl) ?_
              repeat (first | go_big_quiet_step (fail) | quiet_step (fail))
              refine wpQuiet_nil ?_
              intro _ hw'
              obtain ⟨⟨dq, osq⟩, hw''⟩ := hw'
              subst hw''
              have HBq := Lib.hid (Base.below2 HB12.out (below_regrown _ dq osq))
              clear y0 y1 y2 y3 y4 y5 y6
              go_wp2
              go_roundw
              case rel => exact ⟨j + 1, by omega, by go_num, HBq⟩
              case measure => simp [intOf]; omega
          · obtain rfl : j = l.length := by omega
            go_wp2_with (go_at_call 24; refine (wherryref09_Right.calls 300 A3 c3 M true _ (Kd.C_below HP3.out HBL.out) HR3.out HM.out.2.2.2).mono ?_; rintro e X13 ⟨rfl, hb⟩; have HB13 := Lib.hid (Base.below2 HB11.out (Base.below2 HBL.out hb)); obtain ⟨d0, d1, d2⟩ := HBX.out _ HB13.out; have hp17 := Base.block_below (Base.below2 HBL.out hb) HP17.out; have e0 := Base.cell_of_blk hp17 0; have e1 := Base.cell_of_blk hp17 1; have e2 := Base.cell_of_blk hp17 2; clear hb hp17)
            go_ret
            exact ⟨rfl, Base.below2 HWN.out HB13.out⟩
end Go.Proofs.YthhgfdejadbigaaDoor.GA
/-
  A handed value, opened as the print's kinds read it: whatever type it has. Nothing of a program but its types.
-/
set_option linter.unusedVariables false
set_option linter.unusedSimpArgs false
namespace Go.Proofs.YthhgfdejadbigaaDoor.OpenK
open Go Go.RowKit Go.WideShapes Go.ChangeShapes Go.Proofs.YthhgfdejadbigaaDoorW.PrintWords
def LightP {H : Type} (P : Program) (t : TypeId) (d : DataW H) : Prop := ∀ n ∈ d.weights P t, n ≤ 140737488351232
def Opens (P : Program) (t : TypeId) {α : Type} (d : Kd α) (WF : α → Prop) : Prop :=
  ∀ (H : Type) (enc : TypeId × Value → H) (w : World) (base : Nat) (spare : Nat → Bool) (held : Bool) (n : Nat) (cs : List Value) (x : DataW H × List MemPlace),
    DataW.trod enc P w base spare held n t cs = some x → LightP P t x.1 → ∃ a, d.K w a cs ∧ WF a
section
variable {P : Program} {H : Type} {enc : TypeId × Value → H} {w : World} {base : Nat} {spare : Nat → Bool} {held : Bool}
theorem light_part {t : TypeId} {fs : Array Field} {ds : List (DataW H)} (hu : P.underlying t = some (.struct fs)) (h : LightP P t (.agg ds)) {j : Nat} {f : Field} {d : DataW H} (hf : fs[j]? = some f) (hd : ds[j]? = some d) : LightP P f.type d := by
  intro n hn
  refine h n ?_
  simp only [DataW.weights, hu]
  exact DataW.weights_mem_each (j := j) (by simp [hf]) hd n hn
theorem mem_weightsAll {e : TypeId} : ∀ {l : List (DataW H)} {d : DataW H}, d ∈ l → ∀ n ∈ d.weights P e, n ∈ DataW.weightsAll P e l
  | x :: r, d, h, n, hn => by
    simp only [DataW.weightsAll, List.mem_append]
    rcases List.mem_cons.1 h with rfl | h
    · exact .inl hn
    · exact .inr (mem_weightsAll h n hn)
theorem light_elem {t e : TypeId} {es sp : List (DataW H)} (hu : P.underlying t = some (.slice e)) (h : LightP P t (.slice es sp)) {d : DataW H} (hd : d ∈ es) : LightP P e d := by
  intro n hn
  refine h n ?_
  simp only [DataW.weights, hu, List.mem_cons, List.mem_append]
  exact .inr (.inl (mem_weightsAll hd n hn))
theorem fld {fs : Array Field} {cs : List Value} {xs : List (DataW H × List MemPlace)} {m : Nat} (hf : ∀ (i : Nat) (f : Field), fs[i]? = some f → DataW.trod enc P w base spare held m f.type ((cs.drop f.offset).take (P.cellsOf f.type)) = xs[i]?)
    {i : Nat} {f : Field} (hi : fs[i]? = some f) {t : TypeId} (ht : f.type = t) {k : Nat} (hk : P.cellsOf t = k) {c : List Value} (hc : (cs.drop f.offset).take k = c) {x : DataW H × List MemPlace} (hx : xs[i]? = some x) : DataW.trod enc P w base spare held m t c = some x := by
  have h := hf i f hi
  rw [ht, hk, hc, hx] at h
  exact h
end
section
variable {P : Program} {t e : TypeId}
theorem opens_int {k : IntKind} (hu : P.underlying t = some (.int k)) : Opens P t (Kd.int k) (fun n => (Lit.int k n).wf = true) := by
  intro H enc w base spare held n cs x h _
  obtain ⟨z, rfl, _, wk⟩ := DataW.trod_int hu h
  exact ⟨z, rfl, wk⟩
theorem opens_string (hu : P.underlying t = some .string) : Opens P t Kd.string (fun s => s.size ≤ 140737488351232) := by
  intro H enc w base spare held n cs x h hl
  obtain ⟨s, rfl, rfl, _⟩ := DataW.trod_string hu h
  refine ⟨s, rfl, ?_⟩
  have := hl s.data.toList.length (by simp [DataW.weights])
  exact Nat.le_trans (by show s.data.size ≤ _; simp) this
theorem opens_slice {α : Type} {d : Kd α} {WF : α → Prop} {b : Nat} (hu : P.underlying t = some (.slice e)) (hc : P.cellsOf e = d.sz) (hb : P.bytesOf e = b) (hp : 0 < d.sz) (hd : Opens P e d WF) :
    Opens P t (Kd.slice e d) (fun l => (∀ x ∈ l, WF x) ∧ l.length * b ≤ 140737488351232) := by
  intro H enc w base spare held n cs x h hl
  rcases Go.Deep.open_slice hu h with ⟨rfl, _⟩ | ⟨a, len, cap, m, n', D, Pl, rfl, _, hlc, hcm, hm, rfl, hi⟩
  · exact ⟨[], ⟨none, 0, rfl, Nat.le_refl _, ⟨rfl, by simp, fun h => absurd h (by simp)⟩⟩, ⟨fun x hx => (by cases hx), by simp⟩⟩
  · have hlm : len ≤ m := by rw [hm]; split <;> omega
    have hex : ∀ i : Fin len, ∃ (v : α) (c : List Value), d.K w v c ∧ WF v ∧ c.length = d.sz ∧ ∀ j u, c[j]? = some u → w.cell? (a.add (i.val * d.sz + j)) = some u := by
      intro i
      obtain ⟨cs', hc', ht⟩ := hi i.val (by omega)
      obtain ⟨v, hk, hw⟩ := hd H enc w base spare held n' cs' _ ht (light_elem hu hl (List.mem_map.2 ⟨i.val, List.mem_range.2 i.isLt, rfl⟩))
      rw [hc] at hc'
      obtain ⟨_, hcl, hat⟩ := World.cells?_some hc'
      refine ⟨v, cs', hk, hw, d.K_len hk, fun j u hj => ?_⟩
      have hj4 : j < d.sz := by have := (List.getElem?_eq_some_iff.1 hj).1; rwa [d.K_len hk] at this
      have := hat j hj4
      rw [← Go.Deep.add_add, this, hj]
    obtain ⟨f, hf⟩ := Classical.axiomOfChoice hex
    refine ⟨(List.finRange len).map f, ⟨some a, cap, by simp, by simpa using hlc, ⟨rfl, ?_, fun hn => ⟨a, rfl, fun j p hj => ?_⟩⟩⟩, fun y hy => ?_, ?_⟩
    · unfold maxLen at hcm; simp; omega
    · rw [List.getElem?_map, Option.map_eq_some_iff] at hj
      obtain ⟨i, hi', rfl⟩ := hj
      obtain ⟨c, hk, _, hlen, hcc⟩ := hf i
      have hij : i.val = j := by
        obtain ⟨hlt, rfl⟩ := List.getElem?_eq_some_iff.1 hi'
        simp
      subst hij
      exact ⟨c, hlen, hk, hcc⟩
    · obtain ⟨i, _, rfl⟩ := List.mem_map.1 hy
      obtain ⟨c, _, hw, _⟩ := hf i
      exact hw
    · have := hl ((((List.range len).map D).length + ((List.range (m - len)).map fun j => D (len + j)).length) * P.bytesOf e) (by
        simp only [DataW.weights, hu]
        exact List.mem_cons_self)
      rw [hb] at this
      simp only [List.length_map, List.length_range] at this
      simp only [List.length_map, List.length_finRange]
      refine Nat.le_trans (Nat.mul_le_mul_right _ ?_) this
      omega
end
end Go.Proofs.YthhgfdejadbigaaDoor.OpenK
/-
  The laws' arguments, opened. Printed by genopen3.py.
-/
set_option linter.unusedVariables false
set_option linter.unusedSimpArgs false
namespace Go.Proofs.YthhgfdejadbigaaDoor.GA
open Go Go.RowKit Go.WideShapes Go.ChangeShapes Go.Proofs.YthhgfdejadbigaaDoor.OpenK Go.Proofs.YthhgfdejadbigaaDoorW.PrintWords
def wf23 (x : S23) : Prop := (Lit.int .i64 x.f0).wf = true ∧ (Lit.int .i64 x.f1).wf = true ∧ (x.f2).size ≤ 140737488351232
set_option maxRecDepth 100000 in
theorem opens_T23 : Opens Tryd.prog 23 k23 wf23 := by
  intro H enc w base spare held n cs x h hl
  obtain ⟨xs, m, _, rfl, hcl, hlen, hf⟩ := DataW.trod_struct Tryd.underlying23 h
  match cs, hcl.trans (show Tryd.prog.cellsOf 23 = 3 by kernel_rfl), xs, hlen with
  | [c0, c1, c2], _, [x0, x1, x2], _ =>
    obtain ⟨a0, q0, w0⟩ := (opens_int Tryd.underlying3) H enc w base spare held m [c0] x0 (fld hf (i := 0) rfl rfl (show Tryd.prog.cellsOf 3 = 1 by kernel_rfl) (c := [c0]) rfl (x := x0) rfl) (light_part Tryd.underlying23 hl (j := 0) rfl rfl)
    obtain ⟨a1, q1, w1⟩ := (opens_int Tryd.underlying2) H enc w base spare held m [c1] x1 (fld hf (i := 1) rfl rfl (show Tryd.prog.cellsOf 2 = 1 by kernel_rfl) (c := [c1]) rfl (x := x1) rfl) (light_part Tryd.underlying23 hl (j := 1) rfl rfl)
    obtain ⟨a2, q2, w2⟩ := (opens_string Tryd.underlying9) H enc w base spare held m [c2] x2 (fld hf (i := 2) rfl rfl (show Tryd.prog.cellsOf 9 = 1 by kernel_rfl) (c := [c2]) rfl (x := x2) rfl) (light_part Tryd.underlying23 hl (j := 2) rfl rfl)
    exact ⟨⟨a0, a1, a2⟩, ⟨[c0], [c1, c2], rfl, q0, ⟨[c1], [c2], rfl, q1, q2⟩⟩, ⟨w0, w1, w2⟩⟩
def wf60 (x : S60) : Prop := (x.f0).size ≤ 140737488351232 ∧ wf23 x.f1
set_option maxRecDepth 100000 in
theorem opens_T60 : Opens Tryd.prog 60 k60 wf60 := by
  intro H enc w base spare held n cs x h hl
  obtain ⟨xs, m, _, rfl, hcl, hlen, hf⟩ := DataW.trod_struct Tryd.underlying60 h
  match cs, hcl.trans (show Tryd.prog.cellsOf 60 = 4 by kernel_rfl), xs, hlen with
  | [c0, c1, c2, c3], _, [x0, x1], _ =>
    obtain ⟨a0, q0, w0⟩ := (opens_string Tryd.underlying9) H enc w base spare held m [c0] x0 (fld hf (i := 0) rfl rfl (show Tryd.prog.cellsOf 9 = 1 by kernel_rfl) (c := [c0]) rfl (x := x0) rfl) (light_part Tryd.underlying60 hl (j := 0) rfl rfl)
    obtain ⟨a1, q1, w1⟩ := opens_T23 H enc w base spare held m [c1, c2, c3] x1 (fld hf (i := 1) rfl rfl (show Tryd.prog.cellsOf 23 = 3 by kernel_rfl) (c := [c1, c2, c3]) rfl (x := x1) rfl) (light_part Tryd.underlying60 hl (j := 1) rfl rfl)
    exact ⟨⟨a0, a1⟩, ⟨[c0], [c1, c2, c3], rfl, q0, q1⟩, ⟨w0, w1⟩⟩
set_option maxRecDepth 100000 in
theorem flat_23 {H : Type} {enc : TypeId × Value → H} {w : World} {base : Nat} {spare : Nat → Bool} {held : Bool} {n : Nat} {cs : List Value} {x : DataW H × List MemPlace} (h : DataW.trod enc Tryd.prog w base spare held n 23 cs = some x) (hl : LightP Tryd.prog 23 x.1) :
    ∃ (a0 : Int) (a1 : Int) (a2 : ByteArray), cs = [.int .i64 a0, .int .i64 a1, .string a2] ∧ (Lit.int .i64 a0).wf = true ∧ (Lit.int .i64 a1).wf = true ∧ (a2).size ≤ 140737488351232 := by
  obtain ⟨xs, m, _, rfl, hcl, hlen, hf⟩ := DataW.trod_struct Tryd.underlying23 h
  match cs, hcl.trans (show Tryd.prog.cellsOf 23 = 3 by kernel_rfl), xs, hlen with
  | [e0, e1, e2], _, [x0, x1, x2], _ =>
    obtain ⟨a0, eq0, p0⟩ := (opens_int Tryd.underlying3) H enc w base spare held m [e0] x0 (fld hf (i := 0) rfl rfl (show Tryd.prog.cellsOf 3 = 1 by kernel_rfl) (c := [e0]) rfl (x := x0) rfl) (light_part Tryd.underlying23 hl (j := 0) rfl rfl)
    obtain rfl := List.head_eq_of_cons_eq eq0
    obtain ⟨a1, eq1, p1⟩ := (opens_int Tryd.underlying2) H enc w base spare held m [e1] x1 (fld hf (i := 1) rfl rfl (show Tryd.prog.cellsOf 2 = 1 by kernel_rfl) (c := [e1]) rfl (x := x1) rfl) (light_part Tryd.underlying23 hl (j := 1) rfl rfl)
    obtain rfl := List.head_eq_of_cons_eq eq1
    obtain ⟨a2, eq2, p2⟩ := (opens_string Tryd.underlying9) H enc w base spare held m [e2] x2 (fld hf (i := 2) rfl rfl (show Tryd.prog.cellsOf 9 = 1 by kernel_rfl) (c := [e2]) rfl (x := x2) rfl) (light_part Tryd.underlying23 hl (j := 2) rfl rfl)
    obtain rfl := List.head_eq_of_cons_eq eq2
    exact ⟨a0, a1, a2, rfl, p0, p1, p2⟩
set_option maxRecDepth 100000 in
theorem flat_58 {H : Type} {enc : TypeId × Value → H} {w : World} {base : Nat} {spare : Nat → Bool} {held : Bool} {n : Nat} {cs : List Value} {x : DataW H × List MemPlace} (h : DataW.trod enc Tryd.prog w base spare held n 58 cs = some x) (hl : LightP Tryd.prog 58 x.1) :
    ∃ (A0 : Option Addr) (c0 : Nat) (a0 : List (S60)) (a1 : ByteArray) (a2 : Int) (a3 : Int) (a4 : ByteArray) (a5 : ByteArray), cs = [.slice A0 a0.length c0, .string a1, .int .i64 a2, .int .i64 a3, .string a4, .string a5] ∧ (a0.length ≤ c0 ∧ Kd.C k60 w A0 a0.length a0 ∧ ((∀ y ∈ a0, wf60 y) ∧ (a0).length * 48 ≤ 140737488351232)) ∧ (a1).size ≤ 140737488351232 ∧ (Lit.int .i64 a2).wf = true ∧ (Lit.int .i64 a3).wf = true ∧ (a4).size ≤ 140737488351232 ∧ (a5).size ≤ 140737488351232 := by
  obtain ⟨xs, m, _, rfl, hcl, hlen, hf⟩ := DataW.trod_struct Tryd.underlying58 h
  match cs, hcl.trans (show Tryd.prog.cellsOf 58 = 6 by kernel_rfl), xs, hlen with
  | [e0, e1, e2, e3, e4, e5], _, [x0, x1, x2, x3], _ =>
    obtain ⟨a0, ⟨A0, c0, eq0, hc0, hC0⟩, wf0_⟩ := (opens_slice (b := 48) Tryd.underlying29 (by kernel_rfl) (by kernel_rfl) (by decide) opens_T60) H enc w base spare held m [e0] x0 (fld hf (i := 0) rfl rfl (show Tryd.prog.cellsOf 29 = 1 by kernel_rfl) (c := [e0]) rfl (x := x0) rfl) (light_part Tryd.underlying58 hl (j := 0) rfl rfl)
    obtain rfl := List.head_eq_of_cons_eq eq0
    obtain ⟨a1, eq1, p1⟩ := (opens_string Tryd.underlying9) H enc w base spare held m [e1] x1 (fld hf (i := 1) rfl rfl (show Tryd.prog.cellsOf 9 = 1 by kernel_rfl) (c := [e1]) rfl (x := x1) rfl) (light_part Tryd.underlying58 hl (j := 1) rfl rfl)
    obtain rfl := List.head_eq_of_cons_eq eq1
    obtain ⟨a2, a3, a4, eq2, p2, p3, p4⟩ := flat_23 (fld hf (i := 2) rfl rfl (show Tryd.prog.cellsOf 23 = 3 by kernel_rfl) (c := [e2, e3, e4]) rfl (x := x2) rfl) (light_part Tryd.underlying58 hl (j := 2) rfl rfl)
    simp only [List.cons.injEq, and_true] at eq2
    obtain ⟨rfl, rfl, rfl⟩ := eq2
    obtain ⟨a5, eq3, p5⟩ := (opens_string Tryd.underlying9) H enc w base spare held m [e5] x3 (fld hf (i := 3) rfl rfl (show Tryd.prog.cellsOf 9 = 1 by kernel_rfl) (c := [e5]) rfl (x := x3) rfl) (light_part Tryd.underlying58 hl (j := 3) rfl rfl)
    obtain rfl := List.head_eq_of_cons_eq eq3
    exact ⟨A0, c0, a0, a1, a2, a3, a4, a5, rfl, ⟨hc0, hC0, wf0_⟩, p1, p2, p3, p4, p5⟩
end Go.Proofs.YthhgfdejadbigaaDoor.GA
