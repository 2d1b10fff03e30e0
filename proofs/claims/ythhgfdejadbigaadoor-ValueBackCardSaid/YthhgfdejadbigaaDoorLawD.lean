/-
  Merged from GAx7, LawB, GAx1, GAx2, GAx8, LawC, LawG, LawD.
-/
import Derived.Test.YthhgfdejadbigaaDoorGAx6
namespace Go.Proofs.YthhgfdejadbigaaDoor.GA
open Go.RowKit Go.Proofs.YthhgfdejadbigaaDoorW.PrintWords Go.Proofs.YthhgfdejadbigaaDoorW.PrintLast Go.Proofs.YthhgfdejadbigaaDoorW.PrintMore
attribute [local go_sem] max2_int min2_int max_two min_two max_three min_three max_four min_four   -- for this text's walks alone
set_option linter.unusedVariables false
set_option linter.unusedSimpArgs false
mutual
def wherryref02_Less.l0 : Nat → ByteArray → ByteArray → Int → Option (Bool)
  | 0, _, _, _ => none
  | k + 1, x0, x1, x5 => if x5 < (x0.size : Int) then (wherryref02_Less.j1 k x0 x1 x5 (decide (x5 < (x1.size : Int)))) else (wherryref02_Less.j1 k x0 x1 x5 false)
def wherryref02_Less.j1 : Nat → ByteArray → ByteArray → Int → Bool → Option (Bool)
  | 0, _, _, _, _ => none
  | k + 1, x0, x1, x5, x15 => if x15 = true then (if 0 ≤ x5 then (if x5 < (x0.size : Int) then (if x5 < (x1.size : Int) then (if (bt x0 x5) = (bt x1 x5) then (wherryref02_Less.l0 k x0 x1 (wrap64 (x5 + 1))) else (some (decide ((bt x0 x5) < (bt x1 x5))))) else (none)) else (none)) else (none)) else (some (decide ((x0.size : Int) < (x1.size : Int))))
end
def wherryref02_Less.f (k : Nat) (a0 : ByteArray) (a1 : ByteArray) : Option (Bool) := wherryref02_Less.l0 k a0 a1 0
theorem wherryref02_Less.mono_l : ∀ k, (∀ y0 y1 y2, LeO (wherryref02_Less.l0 k y0 y1 y2) (wherryref02_Less.l0 (k + 1) y0 y1 y2)) ∧ (∀ y0 y1 y2 y3, LeO (wherryref02_Less.j1 k y0 y1 y2 y3) (wherryref02_Less.j1 (k + 1) y0 y1 y2 y3))
  | 0 => ⟨fun _ _ _ r h => by simp [wherryref02_Less.l0] at h, fun _ _ _ _ r h => by simp [wherryref02_Less.j1] at h⟩
  | k + 1 => by
    obtain ⟨ih0, ih1⟩ := wherryref02_Less.mono_l k
    refine ⟨?_, ?_⟩
    · intro y0 y1 y2
      unfold wherryref02_Less.l0
      repeat' first
      | (with_reducible exact ih0 _ _ _)
      | (with_reducible exact ih1 _ _ _ _)
      | (with_reducible exact LeO.refl _)
      | (with_reducible exact LeO.none _)
      | (with_reducible refine LeO.ite ?_ ?_)
      | (with_reducible refine LeO.bind ?_ (fun _ => ?_))
      | exact ih0 _ _ _
      | exact ih1 _ _ _ _
      | exact LeO.none _
      | refine LeO.ite ?_ ?_
      | refine LeO.bind ?_ (fun _ => ?_)
    · intro y0 y1 y2 y3
      unfold wherryref02_Less.j1
      repeat' first
      | (with_reducible exact ih0 _ _ _)
      | (with_reducible exact ih1 _ _ _ _)
      | (with_reducible exact LeO.refl _)
      | (with_reducible exact LeO.none _)
      | (with_reducible refine LeO.ite ?_ ?_)
      | (with_reducible refine LeO.bind ?_ (fun _ => ?_))
      | exact ih0 _ _ _
      | exact ih1 _ _ _ _
      | exact LeO.none _
      | refine LeO.ite ?_ ?_
      | refine LeO.bind ?_ (fun _ => ?_)
theorem wherryref02_Less.mono : ∀ a0 a1 k, LeO (wherryref02_Less.f k a0 a1) (wherryref02_Less.f (k + 1) a0 a1) := by
  intro a0 a1 k
  obtain ⟨ih0, ih1⟩ := wherryref02_Less.mono_l k
  unfold wherryref02_Less.f
  repeat' first
      | (with_reducible exact ih0 _ _ _)
      | (with_reducible exact ih1 _ _ _ _)
      | (with_reducible exact LeO.refl _)
      | (with_reducible exact LeO.none _)
      | (with_reducible refine LeO.ite ?_ ?_)
      | (with_reducible refine LeO.bind ?_ (fun _ => ?_))
      | exact ih0 _ _ _
      | exact ih1 _ _ _ _
      | exact LeO.none _
      | refine LeO.ite ?_ ?_
      | refine LeO.bind ?_ (fun _ => ?_)
set_option maxHeartbeats 8000000 in
set_option maxRecDepth 100000 in
theorem wherryref02_Less.calls (k : Nat) (a0 : ByteArray) (a1 : ByteArray) (r : Bool) (w : World) (h : wherryref02_Less.f k a0 a1 = some r) :
    Calls Tryd.prog 47 #[.string a0, .string a1] w fun e w' => e = .returned (.bool r) ∧ Drawn0 w w' := by
  have H : (wherryref02_Less.l0 k a0 a1 0) = some r := h
  clear h
  have H' := Aside0.mk H
  clear H
  go_enter Tryd.func47, Tryd.ntmps47
  go_wp2
  repeat (go_quiet (fail); try go_wp2)
  go_loopg [5] k (fun kq v5 w' => ∃ (x5_1 : Int), v5 = .int .i64 x5_1 ∧ Aside0 (wherryref02_Less.l0 kq a0 a1 x5_1 = some r) ∧ Aside0 (kq ≤ k) ∧ Drawn0 w w')
  case atStart => exact ⟨(0), (by first | rfl | (simp; done) | (simp [*]; done)), H', ⟨Nat.le_refl _⟩, by repeat (first | exact Drawn0.refl _ | apply Drawn0.step)⟩
  case round =>
    clear H'
    try clear p2
    obtain ⟨x5_1, rfl, HA, HK1, ⟨m1, rfl⟩⟩ := hrel
    cases gk with
    | zero => exact absurd HA.out (by simp [wherryref02_Less.l0])
    | succ k1 =>
      have H := HA.out
      clear HA
      simp only [wherryref02_Less.l0] at H
      have HC3 := Aside0.mk H
      clear H
      go_upto_region 2 with (fail)
      repeat (go_quiet (fail); go_upto_region 2 with (fail))
      go_cut [15] (fun v15 wc => ∃ (kq : Nat) (x15_2 : Bool), v15 = .bool x15_2 ∧ Aside0 (wherryref02_Less.j1 kq a0 a1 x5_1 x15_2 = some r) ∧ Aside0 (kq ≤ k1) ∧ Drawn0 w wc)
      case first =>
        have H := HC3.out
        clear HC3
        by_cases c4 : x5_1 < (a0.size : Int)
        · rw [if_pos c4] at H
          have c4b0 : decide (x5_1 < (a0.size : Int)) = true := decide_eq_true c4
          clear c4
          (first | rw [c4b0] | (simp only [i64_w, i32_w]; rw [c4b0]) | skip)
          have H' := Aside0.mk H
          clear H
          go_wp2
          repeat (go_quiet (fail); try go_wp2)
          go_meet
          case rel => exact ⟨_, (decide (x5_1 < (a1.size : Int))), (by first | rfl | (simp; done) | (simp [*]; done)), H', ⟨by have := HK1.out; first | omega | exact Nat.le_refl _⟩, by repeat (first | exact Drawn0.refl _ | apply Drawn0.step)⟩
        · rw [if_neg c4] at H
          have c4b0 : decide (x5_1 < (a0.size : Int)) = false := decide_eq_false c4
          clear c4
          (first | rw [c4b0] | (simp only [i64_w, i32_w]; rw [c4b0]) | skip)
          have H' := Aside0.mk H
          clear H
          go_wp2
          repeat (go_quiet (fail); try go_wp2)
          go_meet
          case rel => exact ⟨_, (false), (by first | rfl | (simp; done) | (simp [*]; done)), H', ⟨by have := HK1.out; first | omega | exact Nat.le_refl _⟩, by repeat (first | exact Drawn0.refl _ | apply Drawn0.step)⟩
      case rest =>
        clear HC3
        try clear p2
        try clear c4
        try clear c4b0
        try clear p2
        obtain ⟨kq, x15_2, rfl, HA, HJ2, ⟨mc2, rfl⟩⟩ := hcut
        cases kq with
        | zero => exact absurd HA.out (by simp [wherryref02_Less.j1])
        | succ kj2 =>
          have H := HA.out
          clear HA
          simp only [wherryref02_Less.j1] at H
          by_cases c5 : x15_2 = true
          · subst c5
            have H1 : (if 0 ≤ x5_1 then (if x5_1 < (a0.size : Int) then (if x5_1 < (a1.size : Int) then (if (bt a0 x5_1) = (bt a1 x5_1) then (wherryref02_Less.l0 kj2 a0 a1 (wrap64 (x5_1 + 1))) else (some (decide ((bt a0 x5_1) < (bt a1 x5_1))))) else (none)) else (none)) else (none)) = some r := by rw [if_pos rfl] at H; exact H
            clear H
            have H := H1
            clear H1
            by_cases c6 : 0 ≤ x5_1
            · rw [if_pos c6] at H
              have c6b0 : decide (0 ≤ x5_1) = true := decide_eq_true c6
              clear c6
              by_cases c7 : x5_1 < (a0.size : Int)
              · rw [if_pos c7] at H
                have c7b0 : decide (x5_1 < (a0.size : Int)) = true := decide_eq_true c7
                clear c7
                by_cases c9 : x5_1 < (a1.size : Int)
                · rw [if_pos c9] at H
                  have c9b0 : decide (x5_1 < (a1.size : Int)) = true := decide_eq_true c9
                  clear c9
                  by_cases c11 : (bt a0 x5_1) = (bt a1 x5_1)
                  · rw [if_pos c11] at H
                    have c11b0 : ((bt a0 x5_1) == (bt a1 x5_1)) = true := beq_iff_eq.mpr c11
                    have c11b1 : ((bt a0 x5_1) != (bt a1 x5_1)) = false := bne_eq_false_iff_eq.mpr c11
                    clear c11
                    have H' := Aside0.mk H
                    clear H
                    have p8 : 0 ≤ (x5_1 : Int) := of_decide_eq_true (by first | (with_reducible assumption) | assumption)
                    have q8 : x5_1 < (a0.size : Int) := of_decide_eq_true (by first | (with_reducible assumption) | assumption)
                    have hx8 := bt_at a0 x5_1
                    replace p8 := eq_true p8
                    replace q8 := eq_true q8
                    have p10 : 0 ≤ (x5_1 : Int) := of_decide_eq_true (by first | (with_reducible assumption) | assumption)
                    have q10 : x5_1 < (a1.size : Int) := of_decide_eq_true (by first | (with_reducible assumption) | assumption)
                    have hx10 := bt_at a1 x5_1
                    replace p10 := eq_true p10
                    replace q10 := eq_true q10
                    go_wp2
                    repeat (go_quiet (fail); try go_wp2)
                    go_roundg kj2
                    case measure => have := HK1.out; have := HJ2.out; omega
                    case rel => exact ⟨(wrap64 (x5_1 + 1)), (by first | rfl | (simp; done) | (simp [*]; done)), H', ⟨by have := HK1.out; have := HJ2.out; omega⟩, by repeat (first | exact Drawn0.refl _ | apply Drawn0.step)⟩
                  · rw [if_neg c11] at H
                    have c11b0 : ((bt a0 x5_1) == (bt a1 x5_1)) = false := beq_eq_false_iff_ne.mpr c11
                    have c11b1 : ((bt a0 x5_1) != (bt a1 x5_1)) = true := bne_iff_ne.mpr c11
                    obtain rfl := Option.some.inj H
                    have p8 : 0 ≤ (x5_1 : Int) := of_decide_eq_true (by first | (with_reducible assumption) | assumption)
                    have q8 : x5_1 < (a0.size : Int) := of_decide_eq_true (by first | (with_reducible assumption) | assumption)
                    have hx8 := bt_at a0 x5_1
                    replace p8 := eq_true p8
                    replace q8 := eq_true q8
                    have p10 : 0 ≤ (x5_1 : Int) := of_decide_eq_true (by first | (with_reducible assumption) | assumption)
                    have q10 : x5_1 < (a1.size : Int) := of_decide_eq_true (by first | (with_reducible assumption) | assumption)
                    have hx10 := bt_at a1 x5_1
                    replace p10 := eq_true p10
                    replace q10 := eq_true q10
                    have p12 : 0 ≤ (x5_1 : Int) := of_decide_eq_true (by first | (with_reducible assumption) | assumption)
                    have q12 : x5_1 < (a0.size : Int) := of_decide_eq_true (by first | (with_reducible assumption) | assumption)
                    have hx12 := bt_at a0 x5_1
                    replace p12 := eq_true p12
                    replace q12 := eq_true q12
                    have p13 : 0 ≤ (x5_1 : Int) := of_decide_eq_true (by first | (with_reducible assumption) | assumption)
                    have q13 : x5_1 < (a1.size : Int) := of_decide_eq_true (by first | (with_reducible assumption) | assumption)
                    have hx13 := bt_at a1 x5_1
                    replace p13 := eq_true p13
                    replace q13 := eq_true q13
                    go_wp2
                    repeat (go_quiet (fail); try go_wp2)
                    go_ret
                    exact ⟨by first | rfl | (simp; done) | (simp [*]; done), by repeat (first | exact Drawn0.refl _ | apply Drawn0.step)⟩
                · rw [if_neg c9] at H
                  exact absurd H (by simp)
              · rw [if_neg c7] at H
                exact absurd H (by simp)
            · rw [if_neg c6] at H
              exact absurd H (by simp)
          · replace c5 := Bool.eq_false_iff.mpr c5
            subst c5
            have H1 : (some (decide ((a0.size : Int) < (a1.size : Int)))) = some r := by rw [if_neg (show ¬ (false = true) by decide)] at H; exact H
            clear H
            have H := H1
            clear H1
            obtain rfl := Option.some.inj H
            go_wp2
            repeat (go_quiet (fail); try go_wp2)
            go_ret
            exact ⟨by first | rfl | (simp; done) | (simp [*]; done), by repeat (first | exact Drawn0.refl _ | apply Drawn0.step)⟩
mutual
def wherryref09_Right.l0 : Nat → List (S60) → Int → Option (Bool)
  | 0, _, _ => none
  | k + 1, x0, x3 => if x3 < (x0.length : Int) then (if 0 ≤ x3 then ((wherryref09_Named.f k ((rd_T60 x0 x3).f0)).bind fun t134 => ((wherryref09_May.f ((rd_T60 x0 x3).f1.f0) ((rd_T60 x0 x3).f1.f1) ((rd_T60 x0 x3).f1.f2)).bind fun t136 => (if t134 = true then (wherryref09_Right.j1 k x0 x3 (!t136)) else (wherryref09_Right.j1 k x0 x3 true)))) else (none)) else (some true)
def wherryref09_Right.j1 : Nat → List (S60) → Int → Bool → Option (Bool)
  | 0, _, _, _ => none
  | k + 1, x0, x3, x32 => if x32 = true then (some false) else (if x3 > 0 then (if 0 ≤ (wrap64 (x3 - 1)) then (if (wrap64 (x3 - 1)) < (x0.length : Int) then (if 0 ≤ x3 then (if x3 < (x0.length : Int) then ((wherryref02_Less.f k ((rd_T60 x0 (wrap64 (x3 - 1))).f0) ((rd_T60 x0 x3).f0)).bind fun t139 => (if t139 = true then (wherryref09_Right.l0 k x0 (wrap64 (x3 + 1))) else (some false))) else (none)) else (none)) else (none)) else (none)) else (wherryref09_Right.l0 k x0 (wrap64 (x3 + 1))))
end
def wherryref09_Right.f (k : Nat) (l0 : List (S60)) : Option (Bool) := if (l0.length : Int) > 16 then (some false) else (wherryref09_Right.l0 k l0 0)
theorem wherryref09_Right.mono_l : ∀ k, (∀ y0 y1, LeO (wherryref09_Right.l0 k y0 y1) (wherryref09_Right.l0 (k + 1) y0 y1)) ∧ (∀ y0 y1 y2, LeO (wherryref09_Right.j1 k y0 y1 y2) (wherryref09_Right.j1 (k + 1) y0 y1 y2))
  | 0 => ⟨fun _ _ r h => by simp [wherryref09_Right.l0] at h, fun _ _ _ r h => by simp [wherryref09_Right.j1] at h⟩
  | k + 1 => by
    obtain ⟨ih0, ih1⟩ := wherryref09_Right.mono_l k
    refine ⟨?_, ?_⟩
    · intro y0 y1
      unfold wherryref09_Right.l0
      repeat' first
      | (with_reducible exact ih0 _ _)
      | (with_reducible exact ih1 _ _ _)
      | (with_reducible exact wherryref02_Less.mono _ _ _)
      | (with_reducible exact wherryref09_Named.mono _ _)
      | (with_reducible exact LeO.refl _)
      | (with_reducible exact LeO.none _)
      | (with_reducible refine LeO.ite ?_ ?_)
      | (with_reducible refine LeO.bind ?_ (fun _ => ?_))
      | exact ih0 _ _
      | exact ih1 _ _ _
      | exact wherryref02_Less.mono _ _ _
      | exact wherryref09_Named.mono _ _
      | exact LeO.none _
      | refine LeO.ite ?_ ?_
      | refine LeO.bind ?_ (fun _ => ?_)
    · intro y0 y1 y2
      unfold wherryref09_Right.j1
      repeat' first
      | (with_reducible exact ih0 _ _)
      | (with_reducible exact ih1 _ _ _)
      | (with_reducible exact wherryref02_Less.mono _ _ _)
      | (with_reducible exact wherryref09_Named.mono _ _)
      | (with_reducible exact LeO.refl _)
      | (with_reducible exact LeO.none _)
      | (with_reducible refine LeO.ite ?_ ?_)
      | (with_reducible refine LeO.bind ?_ (fun _ => ?_))
      | exact ih0 _ _
      | exact ih1 _ _ _
      | exact wherryref02_Less.mono _ _ _
      | exact wherryref09_Named.mono _ _
      | exact LeO.none _
      | refine LeO.ite ?_ ?_
      | refine LeO.bind ?_ (fun _ => ?_)
theorem wherryref09_Right.mono : ∀ a0 k, LeO (wherryref09_Right.f k a0) (wherryref09_Right.f (k + 1) a0) := by
  intro a0 k
  obtain ⟨ih0, ih1⟩ := wherryref09_Right.mono_l k
  unfold wherryref09_Right.f
  repeat' first
      | (with_reducible exact ih0 _ _)
      | (with_reducible exact ih1 _ _ _)
      | (with_reducible exact wherryref02_Less.mono _ _ _)
      | (with_reducible exact wherryref09_Named.mono _ _)
      | (with_reducible exact LeO.refl _)
      | (with_reducible exact LeO.none _)
      | (with_reducible refine LeO.ite ?_ ?_)
      | (with_reducible refine LeO.bind ?_ (fun _ => ?_))
      | exact ih0 _ _
      | exact ih1 _ _ _
      | exact wherryref02_Less.mono _ _ _
      | exact wherryref09_Named.mono _ _
      | exact LeO.none _
      | refine LeO.ite ?_ ?_
      | refine LeO.bind ?_ (fun _ => ?_)
set_option maxHeartbeats 8000000 in
set_option maxRecDepth 100000 in
theorem wherryref09_Right.calls (k : Nat) (A0 : Option Addr) (c0 : Nat) (l0 : List (S60)) (r : Bool) (w : World) (hr0 : Kd.C k60 w A0 l0.length l0) (hc0 : l0.length ≤ c0) (h : wherryref09_Right.f k l0 = some r) :
    Calls Tryd.prog 24 #[.slice A0 l0.length c0] w fun e w' => e = .returned (.bool r) ∧ Below w.heap.size w w' := by
  have hu23 := Tryd.underlying23
  have HR0 := Aside0.mk hr0
  have HC0 := Aside0.mk hc0
  clear hr0 hc0
  have HB := Aside0.mk (Below.refl w.heap.size w)
  have H : (if (l0.length : Int) > 16 then (some false) else (wherryref09_Right.l0 k l0 0)) = some r := h
  clear h
  by_cases c2 : (l0.length : Int) > 16
  · rw [if_pos c2] at H
    have c2b0 : decide (16 < (l0.length : Int)) = true := decide_eq_true c2
    have c2b1 : decide (16 < l0.length) = true := decide_eq_true (by omega)
    clear c2
    obtain rfl := Option.some.inj H
    go_enter Tryd.func24, Tryd.ntmps24
    go_wp2
    repeat (go_quiet (fail); try go_wp2)
    go_ret
    exact ⟨by first | rfl | (simp [errW_none, errW_some] <;> rfl) | (simp [*, errW_none, errW_some] <;> rfl), by repeat (first | (with_reducible first | exact HB.out | apply below_alloc | apply pw_below_drewN | apply below_drew1) | exact HB.out)⟩
  · rw [if_neg c2] at H
    have c2b0 : decide (16 < (l0.length : Int)) = false := decide_eq_false c2
    have c2b1 : decide (16 < l0.length) = false := decide_eq_false (by omega)
    clear c2
    have H' := Aside0.mk H
    clear H
    go_enter Tryd.func24, Tryd.ntmps24
    go_wp2
    repeat (go_quiet (fail); try go_wp2)
    go_loopg [3] k (fun kq v3 w' => ∃ (x3_1 : Int), v3 = .int .i64 x3_1 ∧ Aside0 (wherryref09_Right.l0 kq l0 x3_1 = some r) ∧ Aside0 (kq ≤ k) ∧ Aside0 (Below w.heap.size w w'))
    case atStart => exact ⟨(0), (by first | rfl | (simp; done) | (simp [*]; done)), H', ⟨Nat.le_refl _⟩, ⟨by repeat (first | (with_reducible first | exact HB.out | apply below_alloc | apply pw_below_drewN | apply below_drew1) | exact HB.out)⟩⟩
    case round =>
      clear H'
      try clear c2
      try clear c2b0
      try clear c2b1
      try clear p2
      obtain ⟨x3_1, rfl, HA, HK1, HB⟩ := hrel
      cases gk with
      | zero => exact absurd HA.out (by simp [wherryref09_Right.l0])
      | succ k1 =>
        have H := HA.out
        clear HA
        simp only [wherryref09_Right.l0] at H
        by_cases c3 : x3_1 < (l0.length : Int)
        · rw [if_pos c3] at H
          have c3b0 : decide (x3_1 < (l0.length : Int)) = true := decide_eq_true c3
          clear c3
          by_cases c4 : 0 ≤ x3_1
          · rw [if_pos c4] at H
            have c4b0 : decide (0 ≤ x3_1) = true := decide_eq_true c4
            clear c4
            replace H := Option.bind_eq_some_iff.mp H
            obtain ⟨t134, A50, H⟩ := H
            replace H : ((wherryref09_May.f ((rd_T60 l0 x3_1).f1.f0) ((rd_T60 l0 x3_1).f1.f1) ((rd_T60 l0 x3_1).f1.f2)).bind fun t136 => (if t134 = true then (wherryref09_Right.j1 k1 l0 x3_1 (!t136)) else (wherryref09_Right.j1 k1 l0 x3_1 true))) = some r := H
            have A5 := Aside0.mk A50
            clear A50
            replace H := Option.bind_eq_some_iff.mp H
            obtain ⟨t136, A60, H⟩ := H
            replace H : (if t134 = true then (wherryref09_Right.j1 k1 l0 x3_1 (!t136)) else (wherryref09_Right.j1 k1 l0 x3_1 true)) = some r := H
            have A6 := Aside0.mk A60
            clear A60
            have HC7 := Aside0.mk H
            clear H
            have p133 : 0 ≤ (x3_1 : Int) := of_decide_eq_true (by first | (with_reducible assumption) | assumption)
            have q133 : x3_1 < (l0.length : Int) := of_decide_eq_true (by first | (with_reducible assumption) | assumption)
            obtain ⟨ad133, e133, hx133_0, hx133_1, hx133_2, hx133_3⟩ := at_T60 HR0.out x3_1 p133 q133
            cases e133
            replace hx133_0 := (HB.out.cell (World.block_lt_of_cell? w _ hx133_0)).trans hx133_0
            replace hx133_1 := (HB.out.cell (World.block_lt_of_cell? w _ hx133_1)).trans hx133_1
            replace hx133_2 := (HB.out.cell (World.block_lt_of_cell? w _ hx133_2)).trans hx133_2
            replace hx133_3 := (HB.out.cell (World.block_lt_of_cell? w _ hx133_3)).trans hx133_3
            replace p133 := eq_true p133
            replace q133 := eq_true q133
            go_upto_region 8 with (first | (go_at_call 20; (with_reducible refine (wherryref09_Named.calls k1 ((rd_T60 l0 x3_1).f0) t134 _ A5.out).mono ?_); rintro e w' ⟨rfl, ⟨nd, rfl⟩⟩; (try first | exact ⟨rfl, _, World.drewN_drewN _ _ _⟩ | exact ⟨rfl, _, Eq.trans (World.drewN_drewN _ _ _) (congrArg (World.drewN _) (Nat.add_assoc _ _ _))⟩); have p135 : 0 ≤ (x3_1 : Int) := of_decide_eq_true (by first | (with_reducible assumption) | assumption); have q135 : x3_1 < (l0.length : Int) := of_decide_eq_true (by first | (with_reducible assumption) | assumption); obtain ⟨ad135, e135, hx135_0, hx135_1, hx135_2, hx135_3⟩ := at_T60 HR0.out x3_1 p135 q135; obtain rfl : ad133 = ad135 := (by injection e135); replace hx135_0 := (HB.out.cell (World.block_lt_of_cell? w _ hx135_0)).trans hx135_0; replace hx135_1 := (HB.out.cell (World.block_lt_of_cell? w _ hx135_1)).trans hx135_1; replace hx135_2 := (HB.out.cell (World.block_lt_of_cell? w _ hx135_2)).trans hx135_2; replace hx135_3 := (HB.out.cell (World.block_lt_of_cell? w _ hx135_3)).trans hx135_3; replace p135 := eq_true p135; replace q135 := eq_true q135) | (go_at_call 11; (with_reducible refine (wherryref09_May.calls ((rd_T60 l0 x3_1).f1.f0) ((rd_T60 l0 x3_1).f1.f1) ((rd_T60 l0 x3_1).f1.f2) t136 _ A6.out).mono ?_); rintro e w8 ⟨rfl, hb⟩; have n0_ := Aside0.mk (below_step (by repeat (first | (with_reducible first | exact HB.out | apply below_alloc | apply pw_below_drewN | apply below_drew1) | exact HB.out)) hb); clear HB; have HB := n0_; clear n0_; (try clear hb); (try clear hb2); (try clear hk); (try clear hi)))
            repeat (go_quiet (first | (go_at_call 20; (with_reducible refine (wherryref09_Named.calls k1 ((rd_T60 l0 x3_1).f0) t134 _ A5.out).mono ?_); rintro e w' ⟨rfl, ⟨nd, rfl⟩⟩; (try first | exact ⟨rfl, _, World.drewN_drewN _ _ _⟩ | exact ⟨rfl, _, Eq.trans (World.drewN_drewN _ _ _) (congrArg (World.drewN _) (Nat.add_assoc _ _ _))⟩); have p135 : 0 ≤ (x3_1 : Int) := of_decide_eq_true (by first | (with_reducible assumption) | assumption); have q135 : x3_1 < (l0.length : Int) := of_decide_eq_true (by first | (with_reducible assumption) | assumption); obtain ⟨ad135, e135, hx135_0, hx135_1, hx135_2, hx135_3⟩ := at_T60 HR0.out x3_1 p135 q135; obtain rfl : ad133 = ad135 := (by injection e135); replace hx135_0 := (HB.out.cell (World.block_lt_of_cell? w _ hx135_0)).trans hx135_0; replace hx135_1 := (HB.out.cell (World.block_lt_of_cell? w _ hx135_1)).trans hx135_1; replace hx135_2 := (HB.out.cell (World.block_lt_of_cell? w _ hx135_2)).trans hx135_2; replace hx135_3 := (HB.out.cell (World.block_lt_of_cell? w _ hx135_3)).trans hx135_3; replace p135 := eq_true p135; replace q135 := eq_true q135) | (go_at_call 11; (with_reducible refine (wherryref09_May.calls ((rd_T60 l0 x3_1).f1.f0) ((rd_T60 l0 x3_1).f1.f1) ((rd_T60 l0 x3_1).f1.f2) t136 _ A6.out).mono ?_); rintro e w8 ⟨rfl, hb⟩; have n0_ := Aside0.mk (below_step (by repeat (first | (with_reducible first | exact HB.out | apply below_alloc | apply pw_below_drewN | apply below_drew1) | exact HB.out)) hb); clear HB; have HB := n0_; clear n0_; (try clear hb); (try clear hb2); (try clear hk); (try clear hi))); go_upto_region 8 with (first | (go_at_call 20; (with_reducible refine (wherryref09_Named.calls k1 ((rd_T60 l0 x3_1).f0) t134 _ A5.out).mono ?_); rintro e w' ⟨rfl, ⟨nd, rfl⟩⟩; (try first | exact ⟨rfl, _, World.drewN_drewN _ _ _⟩ | exact ⟨rfl, _, Eq.trans (World.drewN_drewN _ _ _) (congrArg (World.drewN _) (Nat.add_assoc _ _ _))⟩); have p135 : 0 ≤ (x3_1 : Int) := of_decide_eq_true (by first | (with_reducible assumption) | assumption); have q135 : x3_1 < (l0.length : Int) := of_decide_eq_true (by first | (with_reducible assumption) | assumption); obtain ⟨ad135, e135, hx135_0, hx135_1, hx135_2, hx135_3⟩ := at_T60 HR0.out x3_1 p135 q135; obtain rfl : ad133 = ad135 := (by injection e135); replace hx135_0 := (HB.out.cell (World.block_lt_of_cell? w _ hx135_0)).trans hx135_0; replace hx135_1 := (HB.out.cell (World.block_lt_of_cell? w _ hx135_1)).trans hx135_1; replace hx135_2 := (HB.out.cell (World.block_lt_of_cell? w _ hx135_2)).trans hx135_2; replace hx135_3 := (HB.out.cell (World.block_lt_of_cell? w _ hx135_3)).trans hx135_3; replace p135 := eq_true p135; replace q135 := eq_true q135) | (go_at_call 11; (with_reducible refine (wherryref09_May.calls ((rd_T60 l0 x3_1).f1.f0) ((rd_T60 l0 x3_1).f1.f1) ((rd_T60 l0 x3_1).f1.f2) t136 _ A6.out).mono ?_); rintro e w8 ⟨rfl, hb⟩; have n0_ := Aside0.mk (below_step (by repeat (first | (with_reducible first | exact HB.out | apply below_alloc | apply pw_below_drewN | apply below_drew1) | exact HB.out)) hb); clear HB; have HB := n0_; clear n0_; (try clear hb); (try clear hb2); (try clear hk); (try clear hi))))
            (try simp only [Act.put, List.setIfInBounds_toArray, List.set_cons_zero, List.set_cons_succ])
            go_cut [32] (fun v32 wc => ∃ (kq : Nat) (x32_6 : Bool), v32 = .bool x32_6 ∧ Aside0 (wherryref09_Right.j1 kq l0 x3_1 x32_6 = some r) ∧ Aside0 (kq ≤ k1) ∧ Aside0 (Below w.heap.size w wc))
            case first =>
              have H := HC7.out
              clear HC7
              by_cases c9 : t134 = true
              · subst c9
                have H1 : (wherryref09_Right.j1 k1 l0 x3_1 (!t136)) = some r := by rw [if_pos rfl] at H; exact H
                clear H
                have H := H1
                clear H1
                have H' := Aside0.mk H
                clear H
                go_wp2
                repeat (go_quiet (fail); try go_wp2)
                go_meet
                case rel => exact ⟨_, (!t136), (by first | rfl | (simp; done) | (simp [*]; done)), H', ⟨by have := HK1.out; first | omega | exact Nat.le_refl _⟩, ⟨by repeat (first | (with_reducible first | exact HB.out | apply below_alloc | apply pw_below_drewN | apply below_drew1) | exact HB.out)⟩⟩
              · replace c9 := Bool.eq_false_iff.mpr c9
                subst c9
                have H1 : (wherryref09_Right.j1 k1 l0 x3_1 true) = some r := by rw [if_neg (show ¬ (false = true) by decide)] at H; exact H
                clear H
                have H := H1
                clear H1
                have H' := Aside0.mk H
                clear H
                go_wp2
                repeat (go_quiet (fail); try go_wp2)
                go_meet
                case rel => exact ⟨_, (true), (by first | rfl | (simp; done) | (simp [*]; done)), H', ⟨by have := HK1.out; first | omega | exact Nat.le_refl _⟩, ⟨by repeat (first | (with_reducible first | exact HB.out | apply below_alloc | apply pw_below_drewN | apply below_drew1) | exact HB.out)⟩⟩
            case rest =>
              clear HC7
              try clear p1
              try clear q1
              try clear hx1
              try clear c2
              try clear c2b0
              try clear c2b1
              try clear p2
              try clear c3
              try clear c3b0
              try clear c4
              try clear c4b0
              try clear c9
              try clear hx133_0
              try clear hx133_1
              try clear hx133_2
              try clear hx133_3
              try clear hx135_0
              try clear hx135_1
              try clear hx135_2
              try clear hx135_3
              try clear p133
              try clear p135
              try clear p2
              try clear q133
              try clear q135
              obtain ⟨kq, x32_6, rfl, HA, HJ6, HB⟩ := hcut
              cases kq with
              | zero => exact absurd HA.out (by simp [wherryref09_Right.j1])
              | succ kj6 =>
                have H := HA.out
                clear HA
                simp only [wherryref09_Right.j1] at H
                by_cases c10 : x32_6 = true
                · subst c10
                  have H1 : (some false) = some r := by rw [if_pos rfl] at H; exact H
                  clear H
                  have H := H1
                  clear H1
                  obtain rfl := Option.some.inj H
                  go_wp2
                  repeat (go_quiet (fail); try go_wp2)
                  go_ret
                  exact ⟨by first | rfl | (simp [errW_none, errW_some] <;> rfl) | (simp [*, errW_none, errW_some] <;> rfl), by repeat (first | (with_reducible first | exact HB.out | apply below_alloc | apply pw_below_drewN | apply below_drew1) | exact HB.out)⟩
                · replace c10 := Bool.eq_false_iff.mpr c10
                  subst c10
                  have H1 : (if x3_1 > 0 then (if 0 ≤ (wrap64 (x3_1 - 1)) then (if (wrap64 (x3_1 - 1)) < (l0.length : Int) then (if 0 ≤ x3_1 then (if x3_1 < (l0.length : Int) then ((wherryref02_Less.f kj6 ((rd_T60 l0 (wrap64 (x3_1 - 1))).f0) ((rd_T60 l0 x3_1).f0)).bind fun t139 => (if t139 = true then (wherryref09_Right.l0 kj6 l0 (wrap64 (x3_1 + 1))) else (some false))) else (none)) else (none)) else (none)) else (none)) else (wherryref09_Right.l0 kj6 l0 (wrap64 (x3_1 + 1)))) = some r := by rw [if_neg (show ¬ (false = true) by decide)] at H; exact H
                  clear H
                  have H := H1
                  clear H1
                  by_cases c11 : x3_1 > 0
                  · rw [if_pos c11] at H
                    have c11b0 : decide (0 < x3_1) = true := decide_eq_true c11
                    clear c11
                    obtain ⟨ji12, hji12⟩ : ∃ j_ : Int, (wrap64 (x3_1 - 1)) = j_ := ⟨_, rfl⟩
                    replace H : (if 0 ≤ (ji12) then (if (ji12) < (l0.length : Int) then (if 0 ≤ x3_1 then (if x3_1 < (l0.length : Int) then ((wherryref02_Less.f kj6 ((rd_T60 l0 (ji12)).f0) ((rd_T60 l0 x3_1).f0)).bind fun t139 => (if t139 = true then (wherryref09_Right.l0 kj6 l0 (wrap64 (x3_1 + 1))) else (some false))) else (none)) else (none)) else (none)) else (none)) = some r := by first | (rw [hji12] at H; exact H) | (simp only [hji12] at H ⊢; exact H)
                    have hji12w : (IntKind.i64.wrap (x3_1 - 1)) = ji12 := (i64_w _).trans hji12
                    by_cases c13 : 0 ≤ (ji12)
                    · rw [if_pos c13] at H
                      have c13b0 : decide (0 ≤ (ji12)) = true := decide_eq_true c13
                      clear c13
                      by_cases c14 : (ji12) < (l0.length : Int)
                      · rw [if_pos c14] at H
                        have c14b0 : decide ((ji12) < (l0.length : Int)) = true := decide_eq_true c14
                        clear c14
                        by_cases c15 : 0 ≤ x3_1
                        · rw [if_pos c15] at H
                          have c15b0 : decide (0 ≤ x3_1) = true := decide_eq_true c15
                          clear c15
                          by_cases c16 : x3_1 < (l0.length : Int)
                          · rw [if_pos c16] at H
                            have c16b0 : decide (x3_1 < (l0.length : Int)) = true := decide_eq_true c16
                            clear c16
                            replace H := Option.bind_eq_some_iff.mp H
                            obtain ⟨t139, A170, H⟩ := H
                            replace H : (if t139 = true then (wherryref09_Right.l0 kj6 l0 (wrap64 (x3_1 + 1))) else (some false)) = some r := H
                            have A17 := Aside0.mk A170
                            clear A170
                            by_cases c18 : t139 = true
                            · subst c18
                              have H1 : (wherryref09_Right.l0 kj6 l0 (wrap64 (x3_1 + 1))) = some r := by rw [if_pos rfl] at H; exact H
                              clear H
                              have H := H1
                              clear H1
                              have H' := Aside0.mk H
                              clear H
                              have p137 : 0 ≤ ((ji12) : Int) := of_decide_eq_true (by first | (with_reducible assumption) | assumption)
                              have q137 : (ji12) < (l0.length : Int) := of_decide_eq_true (by first | (with_reducible assumption) | assumption)
                              obtain ⟨ad137, e137, hx137_0, hx137_1, hx137_2, hx137_3⟩ := at_T60 HR0.out (ji12) p137 q137
                              obtain rfl : ad133 = ad137 := (by injection e137)
                              replace hx137_0 := (HB.out.cell (World.block_lt_of_cell? w _ hx137_0)).trans hx137_0
                              replace hx137_1 := (HB.out.cell (World.block_lt_of_cell? w _ hx137_1)).trans hx137_1
                              replace hx137_2 := (HB.out.cell (World.block_lt_of_cell? w _ hx137_2)).trans hx137_2
                              replace hx137_3 := (HB.out.cell (World.block_lt_of_cell? w _ hx137_3)).trans hx137_3
                              replace p137 := eq_true p137
                              replace q137 := eq_true q137
                              have p138 : 0 ≤ (x3_1 : Int) := of_decide_eq_true (by first | (with_reducible assumption) | assumption)
                              have q138 : x3_1 < (l0.length : Int) := of_decide_eq_true (by first | (with_reducible assumption) | assumption)
                              obtain ⟨ad138, e138, hx138_0, hx138_1, hx138_2, hx138_3⟩ := at_T60 HR0.out x3_1 p138 q138
                              obtain rfl : ad133 = ad138 := (by injection e138)
                              replace hx138_0 := (HB.out.cell (World.block_lt_of_cell? w _ hx138_0)).trans hx138_0
                              replace hx138_1 := (HB.out.cell (World.block_lt_of_cell? w _ hx138_1)).trans hx138_1
                              replace hx138_2 := (HB.out.cell (World.block_lt_of_cell? w _ hx138_2)).trans hx138_2
                              replace hx138_3 := (HB.out.cell (World.block_lt_of_cell? w _ hx138_3)).trans hx138_3
                              replace p138 := eq_true p138
                              replace q138 := eq_true q138
                              go_wp2_with (first | (go_at_call 47; (with_reducible refine (wherryref02_Less.calls kj6 ((rd_T60 l0 (ji12)).f0) ((rd_T60 l0 x3_1).f0) true _ A17.out).mono ?_); rintro e w' ⟨rfl, ⟨nd, rfl⟩⟩; (try first | exact ⟨rfl, _, World.drewN_drewN _ _ _⟩ | exact ⟨rfl, _, Eq.trans (World.drewN_drewN _ _ _) (congrArg (World.drewN _) (Nat.add_assoc _ _ _))⟩)))
                              repeat (go_quiet (first | (go_at_call 47; (with_reducible refine (wherryref02_Less.calls kj6 ((rd_T60 l0 (ji12)).f0) ((rd_T60 l0 x3_1).f0) true _ A17.out).mono ?_); rintro e w' ⟨rfl, ⟨nd, rfl⟩⟩; (try first | exact ⟨rfl, _, World.drewN_drewN _ _ _⟩ | exact ⟨rfl, _, Eq.trans (World.drewN_drewN _ _ _) (congrArg (World.drewN _) (Nat.add_assoc _ _ _))⟩))); try go_wp2_with (first | (go_at_call 47; (with_reducible refine (wherryref02_Less.calls kj6 ((rd_T60 l0 (ji12)).f0) ((rd_T60 l0 x3_1).f0) true _ A17.out).mono ?_); rintro e w' ⟨rfl, ⟨nd, rfl⟩⟩; (try first | exact ⟨rfl, _, World.drewN_drewN _ _ _⟩ | exact ⟨rfl, _, Eq.trans (World.drewN_drewN _ _ _) (congrArg (World.drewN _) (Nat.add_assoc _ _ _))⟩))))
                              go_roundg kj6
                              case measure => have := HK1.out; have := HJ6.out; omega
                              case rel => exact ⟨(wrap64 (x3_1 + 1)), (by first | rfl | (simp; done) | (simp [*]; done)), H', ⟨by have := HK1.out; have := HJ6.out; omega⟩, ⟨by repeat (first | (with_reducible first | exact HB.out | apply below_alloc | apply pw_below_drewN | apply below_drew1) | exact HB.out)⟩⟩
                            · replace c18 := Bool.eq_false_iff.mpr c18
                              subst c18
                              have H1 : (some false) = some r := by rw [if_neg (show ¬ (false = true) by decide)] at H; exact H
                              clear H
                              have H := H1
                              clear H1
                              obtain rfl := Option.some.inj H
                              have p137 : 0 ≤ ((ji12) : Int) := of_decide_eq_true (by first | (with_reducible assumption) | assumption)
                              have q137 : (ji12) < (l0.length : Int) := of_decide_eq_true (by first | (with_reducible assumption) | assumption)
                              obtain ⟨ad137, e137, hx137_0, hx137_1, hx137_2, hx137_3⟩ := at_T60 HR0.out (ji12) p137 q137
                              obtain rfl : ad133 = ad137 := (by injection e137)
                              replace hx137_0 := (HB.out.cell (World.block_lt_of_cell? w _ hx137_0)).trans hx137_0
                              replace hx137_1 := (HB.out.cell (World.block_lt_of_cell? w _ hx137_1)).trans hx137_1
                              replace hx137_2 := (HB.out.cell (World.block_lt_of_cell? w _ hx137_2)).trans hx137_2
                              replace hx137_3 := (HB.out.cell (World.block_lt_of_cell? w _ hx137_3)).trans hx137_3
                              replace p137 := eq_true p137
                              replace q137 := eq_true q137
                              have p138 : 0 ≤ (x3_1 : Int) := of_decide_eq_true (by first | (with_reducible assumption) | assumption)
                              have q138 : x3_1 < (l0.length : Int) := of_decide_eq_true (by first | (with_reducible assumption) | assumption)
                              obtain ⟨ad138, e138, hx138_0, hx138_1, hx138_2, hx138_3⟩ := at_T60 HR0.out x3_1 p138 q138
                              obtain rfl : ad133 = ad138 := (by injection e138)
                              replace hx138_0 := (HB.out.cell (World.block_lt_of_cell? w _ hx138_0)).trans hx138_0
                              replace hx138_1 := (HB.out.cell (World.block_lt_of_cell? w _ hx138_1)).trans hx138_1
                              replace hx138_2 := (HB.out.cell (World.block_lt_of_cell? w _ hx138_2)).trans hx138_2
                              replace hx138_3 := (HB.out.cell (World.block_lt_of_cell? w _ hx138_3)).trans hx138_3
                              replace p138 := eq_true p138
                              replace q138 := eq_true q138
                              go_wp2_with (first | (go_at_call 47; (with_reducible refine (wherryref02_Less.calls kj6 ((rd_T60 l0 (ji12)).f0) ((rd_T60 l0 x3_1).f0) false _ A17.out).mono ?_); rintro e w' ⟨rfl, ⟨nd, rfl⟩⟩; (try first | exact ⟨rfl, _, World.drewN_drewN _ _ _⟩ | exact ⟨rfl, _, Eq.trans (World.drewN_drewN _ _ _) (congrArg (World.drewN _) (Nat.add_assoc _ _ _))⟩)))
                              repeat (go_quiet (first | (go_at_call 47; (with_reducible refine (wherryref02_Less.calls kj6 ((rd_T60 l0 (ji12)).f0) ((rd_T60 l0 x3_1).f0) false _ A17.out).mono ?_); rintro e w' ⟨rfl, ⟨nd, rfl⟩⟩; (try first | exact ⟨rfl, _, World.drewN_drewN _ _ _⟩ | exact ⟨rfl, _, Eq.trans (World.drewN_drewN _ _ _) (congrArg (World.drewN _) (Nat.add_assoc _ _ _))⟩))); try go_wp2_with (first | (go_at_call 47; (with_reducible refine (wherryref02_Less.calls kj6 ((rd_T60 l0 (ji12)).f0) ((rd_T60 l0 x3_1).f0) false _ A17.out).mono ?_); rintro e w' ⟨rfl, ⟨nd, rfl⟩⟩; (try first | exact ⟨rfl, _, World.drewN_drewN _ _ _⟩ | exact ⟨rfl, _, Eq.trans (World.drewN_drewN _ _ _) (congrArg (World.drewN _) (Nat.add_assoc _ _ _))⟩))))
                              go_ret
                              exact ⟨by first | rfl | (simp [errW_none, errW_some] <;> rfl) | (simp only [← hji12]; first | rfl | (simp [errW_none, errW_some] <;> rfl)) | (simp [*, errW_none, errW_some] <;> rfl), by repeat (first | (with_reducible first | exact HB.out | apply below_alloc | apply pw_below_drewN | apply below_drew1) | exact HB.out)⟩
                          · rw [if_neg c16] at H
                            exact absurd H (by simp)
                        · rw [if_neg c15] at H
                          exact absurd H (by simp)
                      · rw [if_neg c14] at H
                        exact absurd H (by simp)
                    · rw [if_neg c13] at H
                      exact absurd H (by simp)
                  · rw [if_neg c11] at H
                    have c11b0 : decide (0 < x3_1) = false := decide_eq_false c11
                    clear c11
                    have H' := Aside0.mk H
                    clear H
                    go_wp2
                    repeat (go_quiet (fail); try go_wp2)
                    go_roundg kj6
                    case measure => have := HK1.out; have := HJ6.out; omega
                    case rel => exact ⟨(wrap64 (x3_1 + 1)), (by first | rfl | (simp; done) | (simp [*]; done)), H', ⟨by have := HK1.out; have := HJ6.out; omega⟩, ⟨by repeat (first | (with_reducible first | exact HB.out | apply below_alloc | apply pw_below_drewN | apply below_drew1) | exact HB.out)⟩⟩
          · rw [if_neg c4] at H
            exact absurd H (by simp)
        · rw [if_neg c3] at H
          have c3b0 : decide (x3_1 < (l0.length : Int)) = false := decide_eq_false c3
          clear c3
          obtain rfl := Option.some.inj H
          go_wp2
          repeat (go_quiet (fail); try go_wp2)
          go_ret
          exact ⟨by first | rfl | (simp [errW_none, errW_some] <;> rfl) | (simp [*, errW_none, errW_some] <;> rfl), by repeat (first | (with_reducible first | exact HB.out | apply below_alloc | apply pw_below_drewN | apply below_drew1) | exact HB.out)⟩
end Go.Proofs.YthhgfdejadbigaaDoor.GA
/-
  Chapter 9: what the references print, as plain functions: less, may, named, right.
-/
set_option linter.unusedVariables false
set_option linter.unusedSimpArgs false
namespace Go.Proofs.YthhgfdejadbigaaDoor.GA
open Go.RowKit Go.Proofs.YthhgfdejadbigaaDoorW.PrintWords Go.Proofs.YthhgfdejadbigaaDoorW.PrintLast Go.Proofs.YthhgfdejadbigaaDoorW.PrintMore
theorem bt_nat {s : ByteArray} {i : Nat} (h : i < s.size) : bt s (i : Int) = (s[i].toNat : Int) := by
  unfold bt; rw [dif_pos (by simpa using h)]; rfl
theorem wrap_nat {i n : Nat} (h : i < n) (hn : n ≤ 9223372036854775807) : wrap64 ((i : Int) + 1) = ((i + 1 : Nat) : Int) := by unfold wrap64; omega
theorem drop_at {s : ByteArray} {i : Nat} (h : i < s.size) : (Base.toL s).drop i = s[i] :: (Base.toL s).drop (i + 1) := Base.toL_drop_cons h
theorem drop_end {s : ByteArray} {i : Nat} (h : s.size ≤ i) : (Base.toL s).drop i = [] := List.drop_eq_nil_of_le (by rw [Base.toL_length]; exact h)
theorem less_l0 (a b : ByteArray) (ha : a.size ≤ 9223372036854775807) : ∀ (d k i : Nat), a.size - i = d → i ≤ a.size → i ≤ b.size → 2 * d + 2 ≤ k → wherryref02_Less.l0 k a b (i : Int) = some (Op.bytesLess ((Base.toL a).drop i) ((Base.toL b).drop i)) := by
  intro d
  induction d with
  | zero =>
    intro k i hd h1 h2 hk
    obtain ⟨k, rfl⟩ : ∃ m, k = m + 1 + 1 := ⟨k - 2, by omega⟩
    simp only [wherryref02_Less.l0]
    rw [if_neg (by omega)]
    simp only [wherryref02_Less.j1]
    rw [if_neg (by simp), drop_end (show a.size ≤ i by omega)]
    by_cases hb : i < b.size
    · rw [drop_at hb]
      simp [Op.bytesLess]; omega
    · rw [drop_end (show b.size ≤ i by omega)]
      simp [Op.bytesLess]; omega
  | succ d ih =>
    intro k i hd h1 h2 hk
    obtain ⟨k, rfl⟩ : ∃ m, k = m + 1 + 1 := ⟨k - 2, by omega⟩
    have hia : i < a.size := by omega
    simp only [wherryref02_Less.l0]
    rw [if_pos (by omega), drop_at hia]
    simp only [wherryref02_Less.j1]
    by_cases hb : i < b.size
    · rw [if_pos (by simp; omega), if_pos (by omega), if_pos (by omega), if_pos (by omega), drop_at hb, bt_nat hia, bt_nat hb]
      by_cases he : a[i] = b[i]
      · rw [if_pos (by rw [he]), wrap_nat hia ha, ih k (i + 1) (by omega) (by omega) (by omega) (by omega), he]
        simp [Op.bytesLess]
      · have hne : ¬ ((a[i].toNat : Int) = (b[i].toNat : Int)) := fun h => he (UInt8.toNat_inj.1 (by omega))
        rw [if_neg hne]
        simp [Op.bytesLess, he, UInt8.lt_iff_toNat_lt]
    · rw [if_neg (by simp; omega), drop_end (show b.size ≤ i by omega)]
      simp [Op.bytesLess]; omega
theorem less_k {a b : ByteArray} {k : Nat} (ha : a.size ≤ 32) (hk : 66 ≤ k) : wherryref02_Less.f k a b = some (Base.lessS a b) := by
  unfold wherryref02_Less.f Base.lessS
  have h := less_l0 a b (by omega) a.size k 0 (by omega) (by omega) (by omega) (by omega)
  rw [Base.toList_toL, Base.toList_toL]
  simpa using h
theorem toList_nil (s : ByteArray) : s.toList = ([] : List UInt8) ↔ s.size = 0 := by
  rw [Base.toList_toL, ← Base.toL_length, List.length_eq_zero_iff]
theorem may_f (k n : Int) (s : ByteArray) : wherryref09_May.f k n s = some (Base.mayV k n s) := by
  unfold wherryref09_May.f Base.mayV
  by_cases h3 : k = 3
  · rw [if_pos h3, if_pos h3]
    by_cases h0 : n = 0
    · rw [if_pos h0]; simp [h0]; omega
    · rw [if_neg h0]; simp [h0]
  · rw [if_neg h3, if_neg h3]
    by_cases hs : s.toList = ([] : List UInt8)
    · have hz := (toList_nil s).1 hs
      rw [if_pos hs]
      by_cases h1 : k = 1
      · rw [if_pos h1, if_neg (by omega), if_pos h1]; simp [hz]
      · rw [if_neg h1]
        by_cases h2 : k = 2
        · rw [if_pos h2, if_pos h2]
          by_cases h0 : n = 0
          · rw [if_pos h0]; simp [hz, h0]
          · rw [if_neg h0]; simp [hz, h0]; rfl
        · rw [if_neg h2, if_neg h2, if_neg h1]
    · have hz : ¬ s.size = 0 := fun h => hs ((toList_nil s).2 h)
      rw [if_neg hs]
      by_cases h2 : k = 2
      · rw [if_pos h2]; simp [hz]
      · rw [if_neg h2]
        by_cases h1 : k = 1
        · rw [if_pos h1]; simp [hz]
        · rw [if_neg h1]
def noWord (s : ByteArray) : Bool := !(Base.wordBs.any fun y => s.toList == y.toList)
theorem words_chain (s : ByteArray) : (if s.toList = ([97, 110, 100] : List UInt8) then (some false) else (if s.toList = ([111, 114] : List UInt8) then (some false) else (if s.toList = ([110, 111, 116] : List UInt8) then (some false) else (if s.toList = ([116, 114, 117, 101] : List UInt8) then (some false) else (if s.toList = ([102, 97, 108, 115, 101] : List UInt8) then (some false) else (some (s.toList != ([108, 101, 110] : List UInt8)))))))) = some (noWord s) := by
  have e : noWord s = !(Base.words.any fun y => s.toList == y) := by
    unfold noWord Base.wordBs
    rw [List.any_map]
    congr 2
    funext l
    simp [Base.toList_toL]
  rw [e]
  unfold Base.words
  generalize s.toList = l
  simp only [List.any_cons, List.any_nil, Bool.or_false]
  by_cases h1 : l = [97, 110, 100]
  · simp [h1]
  by_cases h2 : l = [111, 114]
  · simp [h2]
  by_cases h3 : l = [110, 111, 116]
  · simp [h3]
  by_cases h4 : l = [116, 114, 117, 101]
  · simp [h4]
  by_cases h5 : l = [102, 97, 108, 115, 101]
  · simp [h5]
  rw [if_neg h1, if_neg h2, if_neg h3, if_neg h4, if_neg h5]
  have e1 : (l == [97, 110, 100]) = false := by simpa using h1
  have e2 : (l == [111, 114]) = false := by simpa using h2
  have e3 : (l == [110, 111, 116]) = false := by simpa using h3
  have e4 : (l == [116, 114, 117, 101]) = false := by simpa using h4
  have e5 : (l == [102, 97, 108, 115, 101]) = false := by simpa using h5
  rw [e1, e2, e3, e4, e5]
  rfl
theorem named_l0 (s : ByteArray) (hs : s.size ≤ 9223372036854775807) : ∀ (d k i : Nat), s.size - i = d → i ≤ s.size → d + 1 ≤ k → wherryref09_Named.l0 k s (i : Int) = some ((if i = 0 then (match (Base.toL s) with | [] => true | c :: r => Base.letterB c && r.all Base.nameB) else ((Base.toL s).drop i).all Base.nameB) && noWord s) := by
  intro d
  induction d with
  | zero =>
    intro k i hd h1 hk
    obtain ⟨k, rfl⟩ : ∃ m, k = m + 1 := ⟨k - 1, by omega⟩
    simp only [wherryref09_Named.l0]
    rw [if_neg (by omega), words_chain]
    by_cases h0 : i = 0
    · rw [if_pos h0]
      have : Base.toL s = [] := by have := drop_end (s := s) (i := 0) (by omega); simpa using this
      rw [this]; rfl
    · rw [if_neg h0, drop_end (by omega)]; rfl
  | succ d ih =>
    intro k i hd h1 hk
    obtain ⟨k, rfl⟩ : ∃ m, k = m + 1 := ⟨k - 1, by omega⟩
    have hi : i < s.size := by omega
    have hgo := ih k (i + 1) (by omega) (by omega) (by omega)
    rw [if_neg (by omega)] at hgo
    simp only [wherryref09_Named.l0]
    rw [if_pos (by omega), if_pos (by omega), bt_nat hi, wrap_nat hi hs, hgo]
    have hb := s[i].toNat_lt
    have hrhs : (if i = 0 then (match (Base.toL s) with | [] => true | c :: r => Base.letterB c && r.all Base.nameB) else ((Base.toL s).drop i).all Base.nameB) = ((if i = 0 then Base.letterB s[i] else Base.nameB s[i]) && ((Base.toL s).drop (i + 1)).all Base.nameB) := by
      by_cases h0 : i = 0
      · subst h0
        rw [if_pos rfl, if_pos rfl]
        have h := drop_at hi
        rw [List.drop_zero] at h
        rw [h]; simp
      · rw [if_neg h0, if_neg h0, drop_at hi]; rfl
    rw [hrhs]
    generalize ((Base.toL s).drop (i + 1)).all Base.nameB = R
    generalize noWord s = N
    have i0 : ((i : Int) = 0) ↔ i = 0 := by omega
    unfold Base.letterB Base.nameB
    generalize s[i].toNat = c at hb ⊢
    have k1 : ((c : Int) ≥ 97) ↔ 97 ≤ c := by omega
    have k2 : ((c : Int) ≤ 122) ↔ c ≤ 122 := by omega
    have k3 : ((c : Int) ≥ 48) ↔ 48 ≤ c := by omega
    have k4 : ((c : Int) ≤ 57) ↔ c ≤ 57 := by omega
    have k5 : ((c : Int) = 95) ↔ c = 95 := by omega
    simp only [k1, k2, k3, k4, k5, i0]
    clear k1 k2 k3 k4 k5 hgo hrhs ih
    by_cases h0 : i = 0
    · simp only [if_pos h0]
      by_cases c1 : 97 ≤ c <;> by_cases c2 : c ≤ 122 <;> by_cases c3 : 48 ≤ c <;> by_cases c4 : c ≤ 57 <;> first | (exfalso; omega) | simp [c1, c2, c3, c4]
    · simp only [if_neg h0]
      by_cases c5 : c = 95
      · subst c5; simp
      · by_cases c1 : 97 ≤ c <;> by_cases c2 : c ≤ 122 <;> by_cases c3 : 48 ≤ c <;> by_cases c4 : c ≤ 57 <;> first | (exfalso; omega) | simp [c1, c2, c3, c4, c5]
theorem named_k {s : ByteArray} (hs : s.size ≤ 9223372036854775807) {k : Nat} (hk : 40 ≤ k) : wherryref09_Named.f k s = some (Base.named s) := by
  obtain ⟨k, rfl⟩ : ∃ m, k = m + 1 := ⟨k - 1, by omega⟩
  unfold wherryref09_Named.f
  by_cases h0 : 0 < s.size
  · rw [if_neg (by omega), Base.named_cons h0]
    simp only [wherryref09_Named.j0]
    by_cases h32 : s.size ≤ 32
    · rw [if_neg (by simp; omega)]
      have h := named_l0 s hs s.size k 0 (by omega) (by omega) (by omega)
      have hd := drop_at h0
      rw [List.drop_zero] at hd
      rw [if_pos rfl, hd] at h
      have h' : wherryref09_Named.l0 k s 0 = some ((Base.letterB s[0] && ((Base.toL s).drop 1).all Base.nameB) && noWord s) := h
      rw [h']
      unfold noWord
      simp [h32]
    · rw [if_pos (by simp; omega)]
      simp [h32]
  · rw [if_pos (by omega), Base.named_nil h0]
    simp only [wherryref09_Named.j0]
    rw [if_pos trivial]
end Go.Proofs.YthhgfdejadbigaaDoor.GA
namespace Go.Proofs.YthhgfdejadbigaaDoor.GA
open Go.RowKit Go.Proofs.YthhgfdejadbigaaDoorW.PrintWords Go.Proofs.YthhgfdejadbigaaDoorW.PrintLast Go.Proofs.YthhgfdejadbigaaDoorW.PrintMore
attribute [local go_sem] max2_int min2_int max_two min_two max_three min_three max_four min_four   -- for this text's walks alone
set_option linter.unusedVariables false
set_option linter.unusedSimpArgs false
theorem eqA23 (d : Nat) (w : World) (x0 y0 : Int) (x1 y1 : Int) (x2 y2 : ByteArray) :
    (Op.equalIn (d + 2) 23 (.agg #[.int .i64 x0, .int .i64 x1, .string x2]) (.agg #[.int .i64 y0, .int .i64 y1, .string y2])).run Tryd.prog w = .ok (x0 == y0 && (x1 == y1 && (x2.toList == y2.toList))) w := by
  refine eqA_of Tryd.underlying23 (by kernel_rfl) ?_
  refine eqf_cons (by rfl) (by go_simp; rfl) (by go_simp; rfl) (by go_simp) ?_
  refine eqf_cons (by rfl) (by go_simp; rfl) (by go_simp; rfl) (by go_simp) ?_
  exact eqf_last (by rfl) (by go_simp; rfl) (by go_simp; rfl) (by go_simp)
end Go.Proofs.YthhgfdejadbigaaDoor.GA
namespace Go.Proofs.YthhgfdejadbigaaDoor.GA
open Go.RowKit Go.Proofs.YthhgfdejadbigaaDoorW.PrintWords Go.Proofs.YthhgfdejadbigaaDoorW.PrintLast Go.Proofs.YthhgfdejadbigaaDoorW.PrintMore
attribute [local go_sem] max2_int min2_int max_two min_two max_three min_three max_four min_four   -- for this text's walks alone
set_option linter.unusedVariables false
set_option linter.unusedSimpArgs false
theorem eqA60 (d : Nat) (w : World) (x0 y0 : ByteArray) (x1 y1 : Int) (x2 y2 : Int) (x3 y3 : ByteArray) :
    (Op.equalIn (d + 3) 60 (.agg #[.string x0, .int .i64 x1, .int .i64 x2, .string x3]) (.agg #[.string y0, .int .i64 y1, .int .i64 y2, .string y3])).run Tryd.prog w = .ok (x0.toList == y0.toList && ((x1 == y1 && (x2 == y2 && (x3.toList == y3.toList))))) w := by
  refine eqA_of Tryd.underlying60 (by kernel_rfl) ?_
  refine eqf_cons (by rfl) (by go_simp; rfl) (by go_simp; rfl) (by go_simp) ?_
  exact eqf_last (by rfl) (by go_simp) (by go_simp) (eqA23 (d + 0) w _ _ _ _ _ _)
end Go.Proofs.YthhgfdejadbigaaDoor.GA
namespace Go.Proofs.YthhgfdejadbigaaDoor.GA
open Go.RowKit Go.Proofs.YthhgfdejadbigaaDoorW.PrintWords Go.Proofs.YthhgfdejadbigaaDoorW.PrintLast Go.Proofs.YthhgfdejadbigaaDoorW.PrintMore
attribute [local go_sem] max2_int min2_int max_two min_two max_three min_three max_four min_four   -- for this text's walks alone
set_option linter.unusedVariables false
set_option linter.unusedSimpArgs false
attribute [local go_sem high] eqA60
mutual
def wherryref09_Put.j0 : Nat → List (S60) → ByteArray → Bool → Int → Int → ByteArray → Option ((List (S60)) × Int)
  | 0, _, _, _, _, _, _ => none
  | k + 1, x0, x1, x30, x141000, x141001, x141002 => if x30 = true then (some (([] : List (S60)), 1)) else (wherryref09_Put.l0 k x0 x1 ([] : List (S60)) false 0 x141000 x141001 x141002)
def wherryref09_Put.l0 : Nat → List (S60) → ByteArray → List (S60) → Bool → Int → Int → Int → ByteArray → Option ((List (S60)) × Int)
  | 0, _, _, _, _, _, _, _, _ => none
  | k + 1, x0, x1, x11, x12, x13, x141000, x141001, x141002 => if x13 < (x0.length : Int) then (if 0 ≤ x13 then ((wherryref02_Less.f k ((rd_T60 x0 x13).f0) x1).bind fun t145 => (if t145 = true then (wherryref09_Put.j2 k x0 x1 x11 x12 x13 false x141000 x141001 x141002) else (wherryref09_Put.j2 k x0 x1 x11 x12 x13 (!x12) x141000 x141001 x141002))) else (none)) else (if x12 = true then (if (x11.length : Int) > 16 then (some (([] : List (S60)), 4)) else (some (x11, 0))) else (if x11.length < 2932031007402 then ((some (x11 ++ [(⟨x1, (⟨x141000, x141001, x141002⟩ : S23)⟩ : S60)] : List (S60))).bind fun y159 => (if (y159.length : Int) > 16 then (some (([] : List (S60)), 4)) else (some (y159, 0)))) else (none)))
def wherryref09_Put.j2 : Nat → List (S60) → ByteArray → List (S60) → Bool → Int → Bool → Int → Int → ByteArray → Option ((List (S60)) × Int)
  | 0, _, _, _, _, _, _, _, _, _ => none
  | k + 1, x0, x1, x11, x12, x13, x49, x141000, x141001, x141002 => if x49 = true then (if x11.length < 2932031007402 then ((some (x11 ++ [(⟨x1, (⟨x141000, x141001, x141002⟩ : S23)⟩ : S60)] : List (S60))).bind fun y146 => (if 0 ≤ x13 then (if x13 < (x0.length : Int) then (if ((rd_T60 x0 x13).f0).toList = x1.toList then (wherryref09_Put.l0 k x0 x1 y146 true (wrap64 (x13 + 1)) x141000 x141001 x141002) else (if y146.length < 2932031007402 then (wherryref09_Put.l0 k x0 x1 (y146 ++ [(⟨(rd_T60 x0 x13).f0, (⟨(rd_T60 x0 x13).f1.f0, (rd_T60 x0 x13).f1.f1, (rd_T60 x0 x13).f1.f2⟩ : S23)⟩ : S60)]) true (wrap64 (x13 + 1)) x141000 x141001 x141002) else (none))) else (none)) else (none))) else (none)) else (if 0 ≤ x13 then (if x13 < (x0.length : Int) then (if ((rd_T60 x0 x13).f0).toList = x1.toList then (wherryref09_Put.l0 k x0 x1 x11 x12 (wrap64 (x13 + 1)) x141000 x141001 x141002) else (if x11.length < 2932031007402 then (wherryref09_Put.l0 k x0 x1 (x11 ++ [(⟨(rd_T60 x0 x13).f0, (⟨(rd_T60 x0 x13).f1.f0, (rd_T60 x0 x13).f1.f1, (rd_T60 x0 x13).f1.f2⟩ : S23)⟩ : S60)]) x12 (wrap64 (x13 + 1)) x141000 x141001 x141002) else (none))) else (none)) else (none))
end
def wherryref09_Put.f (k : Nat) (l0 : List (S60)) (a1 : ByteArray) (a2_0 : Int) (a2_1 : Int) (a2_2 : ByteArray) : Option ((List (S60)) × Int) := (wherryref09_Right.f k l0).bind fun t141 => ((wherryref09_Named.f k a1).bind fun t142 => ((wherryref09_May.f a2_0 a2_1 a2_2).bind fun t143 => (if t141 = true then (if t142 = true then (wherryref09_Put.j0 k l0 a1 (!t143) a2_0 a2_1 a2_2) else (wherryref09_Put.j0 k l0 a1 true a2_0 a2_1 a2_2)) else (wherryref09_Put.j0 k l0 a1 true a2_0 a2_1 a2_2))))
theorem wherryref09_Put.mono_l : ∀ k, (∀ y0 y1 y2 y3 y4 y5, LeO (wherryref09_Put.j0 k y0 y1 y2 y3 y4 y5) (wherryref09_Put.j0 (k + 1) y0 y1 y2 y3 y4 y5)) ∧ (∀ y0 y1 y2 y3 y4 y5 y6 y7, LeO (wherryref09_Put.l0 k y0 y1 y2 y3 y4 y5 y6 y7) (wherryref09_Put.l0 (k + 1) y0 y1 y2 y3 y4 y5 y6 y7)) ∧ (∀ y0 y1 y2 y3 y4 y5 y6 y7 y8, LeO (wherryref09_Put.j2 k y0 y1 y2 y3 y4 y5 y6 y7 y8) (wherryref09_Put.j2 (k + 1) y0 y1 y2 y3 y4 y5 y6 y7 y8))
  | 0 => ⟨fun _ _ _ _ _ _ r h => by simp [wherryref09_Put.j0] at h, fun _ _ _ _ _ _ _ _ r h => by simp [wherryref09_Put.l0] at h, fun _ _ _ _ _ _ _ _ _ r h => by simp [wherryref09_Put.j2] at h⟩
  | k + 1 => by
    obtain ⟨ih0, ih1, ih2⟩ := wherryref09_Put.mono_l k
    refine ⟨?_, ?_, ?_⟩
    · intro y0 y1 y2 y3 y4 y5
      unfold wherryref09_Put.j0
      repeat' first
      | (with_reducible exact ih0 _ _ _ _ _ _)
      | (with_reducible exact ih1 _ _ _ _ _ _ _ _)
      | (with_reducible exact ih2 _ _ _ _ _ _ _ _ _)
      | (with_reducible exact wherryref02_Less.mono _ _ _)
      | (with_reducible exact wherryref09_Named.mono _ _)
      | (with_reducible exact wherryref09_Right.mono _ _)
      | (with_reducible exact LeO.refl _)
      | (with_reducible exact LeO.none _)
      | (with_reducible refine LeO.ite ?_ ?_)
      | (with_reducible refine LeO.bind ?_ (fun _ => ?_))
      | exact ih0 _ _ _ _ _ _
      | exact ih1 _ _ _ _ _ _ _ _
      | exact ih2 _ _ _ _ _ _ _ _ _
      | exact wherryref02_Less.mono _ _ _
      | exact wherryref09_Named.mono _ _
      | exact wherryref09_Right.mono _ _
      | exact LeO.none _
      | refine LeO.ite ?_ ?_
      | refine LeO.bind ?_ (fun _ => ?_)
    · intro y0 y1 y2 y3 y4 y5 y6 y7
      unfold wherryref09_Put.l0
      repeat' first
      | (with_reducible exact ih0 _ _ _ _ _ _)
      | (with_reducible exact ih1 _ _ _ _ _ _ _ _)
      | (with_reducible exact ih2 _ _ _ _ _ _ _ _ _)
      | (with_reducible exact wherryref02_Less.mono _ _ _)
      | (with_reducible exact wherryref09_Named.mono _ _)
      | (with_reducible exact wherryref09_Right.mono _ _)
      | (with_reducible exact LeO.refl _)
      | (with_reducible exact LeO.none _)
      | (with_reducible refine LeO.ite ?_ ?_)
      | (with_reducible refine LeO.bind ?_ (fun _ => ?_))
      | exact ih0 _ _ _ _ _ _
      | exact ih1 _ _ _ _ _ _ _ _
      | exact ih2 _ _ _ _ _ _ _ _ _
      | exact wherryref02_Less.mono _ _ _
      | exact wherryref09_Named.mono _ _
      | exact wherryref09_Right.mono _ _
      | exact LeO.none _
      | refine LeO.ite ?_ ?_
      | refine LeO.bind ?_ (fun _ => ?_)
    · intro y0 y1 y2 y3 y4 y5 y6 y7 y8
      unfold wherryref09_Put.j2
      repeat' first
      | (with_reducible exact ih0 _ _ _ _ _ _)
      | (with_reducible exact ih1 _ _ _ _ _ _ _ _)
      | (with_reducible exact ih2 _ _ _ _ _ _ _ _ _)
      | (with_reducible exact wherryref02_Less.mono _ _ _)
      | (with_reducible exact wherryref09_Named.mono _ _)
      | (with_reducible exact wherryref09_Right.mono _ _)
      | (with_reducible exact LeO.refl _)
      | (with_reducible exact LeO.none _)
      | (with_reducible refine LeO.ite ?_ ?_)
      | (with_reducible refine LeO.bind ?_ (fun _ => ?_))
      | exact ih0 _ _ _ _ _ _
      | exact ih1 _ _ _ _ _ _ _ _
      | exact ih2 _ _ _ _ _ _ _ _ _
      | exact wherryref02_Less.mono _ _ _
      | exact wherryref09_Named.mono _ _
      | exact wherryref09_Right.mono _ _
      | exact LeO.none _
      | refine LeO.ite ?_ ?_
      | refine LeO.bind ?_ (fun _ => ?_)
theorem wherryref09_Put.mono : ∀ a0 a1 a2 a3 a4 k, LeO (wherryref09_Put.f k a0 a1 a2 a3 a4) (wherryref09_Put.f (k + 1) a0 a1 a2 a3 a4) := by
  intro a0 a1 a2 a3 a4 k
  obtain ⟨ih0, ih1, ih2⟩ := wherryref09_Put.mono_l k
  unfold wherryref09_Put.f
  repeat' first
      | (with_reducible exact ih0 _ _ _ _ _ _)
      | (with_reducible exact ih1 _ _ _ _ _ _ _ _)
      | (with_reducible exact ih2 _ _ _ _ _ _ _ _ _)
      | (with_reducible exact wherryref02_Less.mono _ _ _)
      | (with_reducible exact wherryref09_Named.mono _ _)
      | (with_reducible exact wherryref09_Right.mono _ _)
      | (with_reducible exact LeO.refl _)
      | (with_reducible exact LeO.none _)
      | (with_reducible refine LeO.ite ?_ ?_)
      | (with_reducible refine LeO.bind ?_ (fun _ => ?_))
      | exact ih0 _ _ _ _ _ _
      | exact ih1 _ _ _ _ _ _ _ _
      | exact ih2 _ _ _ _ _ _ _ _ _
      | exact wherryref02_Less.mono _ _ _
      | exact wherryref09_Named.mono _ _
      | exact wherryref09_Right.mono _ _
      | exact LeO.none _
      | refine LeO.ite ?_ ?_
      | refine LeO.bind ?_ (fun _ => ?_)
set_option maxHeartbeats 8000000 in
set_option maxRecDepth 100000 in
theorem wherryref09_Put.calls (k : Nat) (A0 : Option Addr) (c0 : Nat) (l0 : List (S60)) (a1 : ByteArray) (a2_0 : Int) (a2_1 : Int) (a2_2 : ByteArray) (r1 : List (S60)) (r2 : Int) (w : World) (hr0 : Kd.C k60 w A0 l0.length l0) (hc0 : l0.length ≤ c0) (h : wherryref09_Put.f k l0 a1 a2_0 a2_1 a2_2 = some (r1, r2)) :
    Calls Tryd.prog 16 #[.slice A0 l0.length c0, .string a1, .agg #[.int .i64 a2_0, .int .i64 a2_1, .string a2_2]] w fun e w' => ∃ v0_ : Value, e = .returned (.tuple #[v0_, .int .i64 r2]) ∧ Kd.R k60 60 w' w.heap.size (fun _ => True) v0_ r1 ∧ Below w.heap.size w w' := by
  have hu23 := Tryd.underlying23
  have hu60 := Tryd.underlying60
  have HR0 := Aside0.mk hr0
  have HC0 := Aside0.mk hc0
  clear hr0 hc0
  have HB := Aside0.mk (Below.refl w.heap.size w)
  have H : ((wherryref09_Right.f k l0).bind fun t141 => ((wherryref09_Named.f k a1).bind fun t142 => ((wherryref09_May.f a2_0 a2_1 a2_2).bind fun t143 => (if t141 = true then (if t142 = true then (wherryref09_Put.j0 k l0 a1 (!t143) a2_0 a2_1 a2_2) else (wherryref09_Put.j0 k l0 a1 true a2_0 a2_1 a2_2)) else (wherryref09_Put.j0 k l0 a1 true a2_0 a2_1 a2_2))))) = some (r1, r2) := h
  clear h
  replace H := Option.bind_eq_some_iff.mp H
  obtain ⟨t141, A40, H⟩ := H
  replace H : ((wherryref09_Named.f k a1).bind fun t142 => ((wherryref09_May.f a2_0 a2_1 a2_2).bind fun t143 => (if t141 = true then (if t142 = true then (wherryref09_Put.j0 k l0 a1 (!t143) a2_0 a2_1 a2_2) else (wherryref09_Put.j0 k l0 a1 true a2_0 a2_1 a2_2)) else (wherryref09_Put.j0 k l0 a1 true a2_0 a2_1 a2_2)))) = some (r1, r2) := H
  have A4 := Aside0.mk A40
  clear A40
  replace H := Option.bind_eq_some_iff.mp H
  obtain ⟨t142, A50, H⟩ := H
  replace H : ((wherryref09_May.f a2_0 a2_1 a2_2).bind fun t143 => (if t141 = true then (if t142 = true then (wherryref09_Put.j0 k l0 a1 (!t143) a2_0 a2_1 a2_2) else (wherryref09_Put.j0 k l0 a1 true a2_0 a2_1 a2_2)) else (wherryref09_Put.j0 k l0 a1 true a2_0 a2_1 a2_2))) = some (r1, r2) := H
  have A5 := Aside0.mk A50
  clear A50
  replace H := Option.bind_eq_some_iff.mp H
  obtain ⟨t143, A60, H⟩ := H
  replace H : (if t141 = true then (if t142 = true then (wherryref09_Put.j0 k l0 a1 (!t143) a2_0 a2_1 a2_2) else (wherryref09_Put.j0 k l0 a1 true a2_0 a2_1 a2_2)) else (wherryref09_Put.j0 k l0 a1 true a2_0 a2_1 a2_2)) = some (r1, r2) := H
  have A6 := Aside0.mk A60
  clear A60
  have HC7 := Aside0.mk H
  clear H
  go_enter Tryd.func16, Tryd.ntmps16
  go_upto_region 4 with (first | ((with_reducible refine gate_dst (N := 5) rfl ?_); refine box_event ?hg (N := 5) ?hd (cs := #[.int .i64 a2_0, .int .i64 a2_1, .string a2_2]) (t := 23) ?hr ?_; (case hd => rfl); (case hg => rfl); (case hr => first | (go_simp; done) | (go_simp; rfl)); intro gb140 hg w8 hbox hb; have n0_ := Aside0.mk (below_step (by repeat (first | (with_reducible first | exact HB.out | apply below_alloc | apply pw_below_drewN | apply below_drew1) | exact HB.out)) hb); have n1_ := Aside0.mk (hbox); have n2_ := Aside0.mk ((by rw [hg]; exact (below_size (by repeat (first | (with_reducible first | exact HB.out | apply below_alloc | apply pw_below_drewN | apply below_drew1) | exact HB.out))) : w.heap.size ≤ gb140)); have n3_ := Aside0.mk ((by rw [hg]; exact (below_size (by repeat (first | (with_reducible first | exact HB.out | apply below_alloc | apply pw_below_drewN | apply below_drew1) | exact HB.out))) : w.heap.size ≤ gb140)); clear HB; have HB := n0_; have BK140 := n1_; have GW140 := n2_; have GE140 := n3_; clear n0_ n1_ n2_ n3_; clear hb hbox hg) | ((with_reducible refine gate_callee (f := 24) rfl ?_); refine goesL_ (some 16) rfl rfl Tryd.func24 (by kernel_rfl) rfl #[.slice A0 l0.length c0] rfl (by (try simp only [List.map_toArray, List.map_cons, List.map_nil]); first | done | rfl | (simp only [List.length_drop, List.length_take]; rfl)) ?_; (with_reducible refine (wherryref09_Right.calls k _ _ l0 t141 _ ?side1 ?side2 A4.out).mono ?_); (case side1 => repeat (first | exact (Kd.C_below HR0.out HB.out) | (with_reducible refine Kd.C_alloc ?_ _) | (with_reducible refine Kd.C_drewN ?_ _) | (with_reducible refine Kd.C_drew ?_))); (case side2 => exact HC0.out); rintro e w9 ⟨rfl, hb⟩; refine ⟨_, rfl, ?_⟩; have n0_ := Aside0.mk (blk_below (g := gb140) (o := .cells #[.int .i64 a2_0, .int .i64 a2_1, .string a2_2] 23 (0, 0)) (by (with_reducible repeat (first | refine blk_drewN ?_ _ | refine blk_drew ?_ | refine blk_alloc ?_ _)); exact BK140.out) hb); have n1_ := Aside0.mk (below_step (by repeat (first | (with_reducible first | exact HB.out | apply below_alloc | apply pw_below_drewN | apply below_drew1 | refine below_set ?_ GE140.out) | exact HB.out)) hb); clear BK140; clear HB; have BK140 := n0_; have HB := n1_; clear n0_ n1_; (try clear hb); (try clear hb2); (try clear hk); (try clear hi)) | ((with_reducible refine gate_callee (f := 20) rfl ?_); refine goesL_ (some 18) rfl rfl Tryd.func20 (by kernel_rfl) rfl #[.string a1] rfl (by (try simp only [List.map_toArray, List.map_cons, List.map_nil]); first | done | rfl | (simp only [List.length_drop, List.length_take]; rfl)) ?_; (with_reducible refine (wherryref09_Named.calls k a1 t142 _ A5.out).mono ?_); rintro e w' ⟨rfl, ⟨nd, rfl⟩⟩; refine ⟨_, rfl, ?_⟩; have hcz10_0 : w9.cell? ⟨gb140, 0, none⟩ = some (.int .i64 a2_0) := (blk_cell BK140.out 0).trans rfl; have hcz10_1 : w9.cell? ⟨gb140, 1, none⟩ = some (.int .i64 a2_1) := (blk_cell BK140.out 1).trans rfl; have hcz10_2 : w9.cell? ⟨gb140, 2, none⟩ = some (.string a2_2) := (blk_cell BK140.out 2).trans rfl; have hfz10_0 := blk_frozen BK140.out 0; have hfz10_1 := blk_frozen BK140.out 1; have hfz10_2 := blk_frozen BK140.out 2) | ((with_reducible refine gate_callee (f := 11) rfl ?_); refine goesL_ (some 20) rfl rfl Tryd.func11 (by kernel_rfl) rfl #[.agg #[.int .i64 a2_0, .int .i64 a2_1, .string a2_2]] rfl (by (try simp only [List.map_toArray, List.map_cons, List.map_nil]); first | done | rfl | (simp only [List.length_drop, List.length_take]; rfl)) ?_; (with_reducible refine (wherryref09_May.calls a2_0 a2_1 a2_2 t143 _ A6.out).mono ?_); rintro e w11 ⟨rfl, hb⟩; refine ⟨_, rfl, ?_⟩; have n0_ := Aside0.mk (blk_below (g := gb140) (o := .cells #[.int .i64 a2_0, .int .i64 a2_1, .string a2_2] 23 (0, 0)) (by (with_reducible repeat (first | refine blk_drewN ?_ _ | refine blk_drew ?_ | refine blk_alloc ?_ _)); exact BK140.out) hb); have n1_ := Aside0.mk (below_step (by repeat (first | (with_reducible first | exact HB.out | apply below_alloc | apply pw_below_drewN | apply below_drew1 | refine below_set ?_ GE140.out) | exact HB.out)) hb); clear BK140; clear HB; have BK140 := n0_; have HB := n1_; clear n0_ n1_; (try clear hb); (try clear hb2); (try clear hk); (try clear hi)))
  (try simp only [Act.put, List.setIfInBounds_toArray, List.set_cons_zero, List.set_cons_succ])
  go_cut [30] (fun v30 wc => ∃ (kq : Nat) (x30_6 : Bool), v30 = .bool x30_6 ∧ Aside0 (wherryref09_Put.j0 kq l0 a1 x30_6 a2_0 a2_1 a2_2 = some (r1, r2)) ∧ Aside0 (kq ≤ k) ∧ Aside0 (wc.heap[gb140]? = some (.cells #[.int .i64 a2_0, .int .i64 a2_1, .string a2_2] 23 (0, 0))) ∧ Aside0 (Below w.heap.size w wc))
  case first =>
    have H := HC7.out
    clear HC7
    by_cases c12 : t141 = true
    · subst c12
      have H1 : (if t142 = true then (wherryref09_Put.j0 k l0 a1 (!t143) a2_0 a2_1 a2_2) else (wherryref09_Put.j0 k l0 a1 true a2_0 a2_1 a2_2)) = some (r1, r2) := by rw [if_pos rfl] at H; exact H
      clear H
      have H := H1
      clear H1
      by_cases c13 : t142 = true
      · subst c13
        have H1 : (wherryref09_Put.j0 k l0 a1 (!t143) a2_0 a2_1 a2_2) = some (r1, r2) := by rw [if_pos rfl] at H; exact H
        clear H
        have H := H1
        clear H1
        have H' := Aside0.mk H
        clear H
        go_wp2
        go_meet
        case rel => exact ⟨_, (!t143), (by first | rfl | (simp; done) | (simp [*]; done)), H', ⟨by first | omega | exact Nat.le_refl _⟩, ⟨by (with_reducible repeat (first | refine blk_drewN ?_ _ | refine blk_drew ?_ | refine blk_alloc ?_ _)); exact BK140.out⟩, ⟨by repeat (first | (with_reducible first | exact HB.out | apply below_alloc | apply pw_below_drewN | apply below_drew1 | refine below_set ?_ GE140.out) | exact HB.out)⟩⟩
      · replace c13 := Bool.eq_false_iff.mpr c13
        subst c13
        have H1 : (wherryref09_Put.j0 k l0 a1 true a2_0 a2_1 a2_2) = some (r1, r2) := by rw [if_neg (show ¬ (false = true) by decide)] at H; exact H
        clear H
        have H := H1
        clear H1
        have H' := Aside0.mk H
        clear H
        go_wp2
        go_meet
        case rel => exact ⟨_, (true), (by first | rfl | (simp; done) | (simp [*]; done)), H', ⟨by first | omega | exact Nat.le_refl _⟩, ⟨by (with_reducible repeat (first | refine blk_drewN ?_ _ | refine blk_drew ?_ | refine blk_alloc ?_ _)); exact BK140.out⟩, ⟨by repeat (first | (with_reducible first | exact HB.out | apply below_alloc | apply pw_below_drewN | apply below_drew1 | refine below_set ?_ GE140.out) | exact HB.out)⟩⟩
    · replace c12 := Bool.eq_false_iff.mpr c12
      subst c12
      have H1 : (wherryref09_Put.j0 k l0 a1 true a2_0 a2_1 a2_2) = some (r1, r2) := by rw [if_neg (show ¬ (false = true) by decide)] at H; exact H
      clear H
      have H := H1
      clear H1
      have H' := Aside0.mk H
      clear H
      go_wp2
      go_meet
      case rel => exact ⟨_, (true), (by first | rfl | (simp; done) | (simp [*]; done)), H', ⟨by first | omega | exact Nat.le_refl _⟩, ⟨by (with_reducible repeat (first | refine blk_drewN ?_ _ | refine blk_drew ?_ | refine blk_alloc ?_ _)); exact BK140.out⟩, ⟨by repeat (first | (with_reducible first | exact HB.out | apply below_alloc | apply pw_below_drewN | apply below_drew1 | refine below_set ?_ GE140.out) | exact HB.out)⟩⟩
  case rest =>
    clear HC7
    try clear c1
    try clear c2
    try clear p2
    try clear c11
    try clear c12
    try clear c13
    try clear hcz10_0
    try clear hcz10_1
    try clear hcz10_2
    try clear hfz10_0
    try clear hfz10_1
    try clear hfz10_2
    obtain ⟨kq, x30_6, rfl, HA, HJ6, BK140, HB⟩ := hcut
    cases kq with
    | zero => exact absurd HA.out (by simp [wherryref09_Put.j0])
    | succ kj6 =>
      have H := HA.out
      clear HA
      simp only [wherryref09_Put.j0] at H
      by_cases c14 : x30_6 = true
      · subst c14
        have H1 : (some (([] : List (S60)), 1)) = some (r1, r2) := by rw [if_pos rfl] at H; exact H
        clear H
        have H := H1
        clear H1
        simp only [Option.some.injEq, Prod.mk.injEq] at H
        obtain ⟨rfl, rfl⟩ := H
        go_wp2
        go_ret2
        exact ⟨_, by first | rfl | (simp [errW_none, errW_some] <;> rfl) | (simp [*, errW_none, errW_some] <;> rfl), by first | exact Kd.R_nil _ _ _ _ _ | exact Kd.N_nil _ _ _ _ _ | exact Kd.V_nil _ _ _ _ _ | exact Kd.Q_nil _ _ _ _ _ | exact Kd.S_nil _ _ _ _ _, by repeat (first | (with_reducible first | exact HB.out | apply below_alloc | apply pw_below_drewN | apply below_drew1 | refine below_set ?_ GE140.out) | exact HB.out)⟩
      · replace c14 := Bool.eq_false_iff.mpr c14
        subst c14
        have H1 : (wherryref09_Put.l0 kj6 l0 a1 ([] : List (S60)) false 0 a2_0 a2_1 a2_2) = some (r1, r2) := by rw [if_neg (show ¬ (false = true) by decide)] at H; exact H
        clear H
        have H := H1
        clear H1
        have H' := Aside0.mk H
        clear H
        go_wp2
        go_loopg [11, 12, 13] kj6 (fun kq v11 v12 v13 w' => ∃ (x11_2 : List (S60)) (x12_2 : Bool) (x13_2 : Int), v12 = .bool x12_2 ∧ v13 = .int .i64 x13_2 ∧ Aside0 (wherryref09_Put.l0 kq l0 a1 x11_2 x12_2 x13_2 a2_0 a2_1 a2_2 = some (r1, r2)) ∧ Aside0 (kq ≤ kj6) ∧ Aside0 (Kd.R k60 60 w' w.heap.size (fun _ => True) v11 x11_2) ∧ Aside0 (w'.heap[gb140]? = some (.cells #[.int .i64 a2_0, .int .i64 a2_1, .string a2_2] 23 (0, 0))) ∧ Aside0 (Below w.heap.size w w'))
        case atStart => exact ⟨(([] : List (S60))), (false), (0), (by first | rfl | (simp; done) | (simp [*]; done)), (by first | rfl | (simp; done) | (simp [*]; done)), H', ⟨Nat.le_refl _⟩, ⟨by first | exact Kd.R_nil _ _ _ _ _ | exact Kd.N_nil _ _ _ _ _ | exact Kd.V_nil _ _ _ _ _ | exact Kd.Q_nil _ _ _ _ _ | exact Kd.S_nil _ _ _ _ _⟩, ⟨by (with_reducible repeat (first | refine blk_drewN ?_ _ | refine blk_drew ?_ | refine blk_alloc ?_ _)); exact BK140.out⟩, ⟨by repeat (first | (with_reducible first | exact HB.out | apply below_alloc | apply pw_below_drewN | apply below_drew1 | refine below_set ?_ GE140.out) | exact HB.out)⟩⟩
        case round =>
          clear H'
          try clear c1
          try clear c2
          try clear p2
          try clear c11
          try clear c12
          try clear c13
          try clear c14
          try clear hcz10_0
          try clear hcz10_1
          try clear hcz10_2
          try clear hfz10_0
          try clear hfz10_1
          try clear hfz10_2
          try clear p2
          obtain ⟨x11_2, x12_2, x13_2, rfl, rfl, HA, HK2, HO_11, BK140, HB⟩ := hrel
          cases gk with
          | zero => exact absurd HA.out (by simp [wherryref09_Put.l0])
          | succ k2 =>
            have H := HA.out
            clear HA
            simp only [wherryref09_Put.l0] at H
            by_cases c15 : x13_2 < (l0.length : Int)
            · rw [if_pos c15] at H
              have c15b0 : decide (x13_2 < (l0.length : Int)) = true := decide_eq_true c15
              clear c15
              by_cases c16 : 0 ≤ x13_2
              · rw [if_pos c16] at H
                have c16b0 : decide (0 ≤ x13_2) = true := decide_eq_true c16
                clear c16
                replace H := Option.bind_eq_some_iff.mp H
                obtain ⟨t145, A170, H⟩ := H
                replace H : (if t145 = true then (wherryref09_Put.j2 k2 l0 a1 x11_2 x12_2 x13_2 false a2_0 a2_1 a2_2) else (wherryref09_Put.j2 k2 l0 a1 x11_2 x12_2 x13_2 (!x12_2) a2_0 a2_1 a2_2)) = some (r1, r2) := H
                have A17 := Aside0.mk A170
                clear A170
                have HC18 := Aside0.mk H
                clear H
                have p144 : 0 ≤ (x13_2 : Int) := of_decide_eq_true (by first | (with_reducible assumption) | assumption)
                have q144 : x13_2 < (l0.length : Int) := of_decide_eq_true (by first | (with_reducible assumption) | assumption)
                obtain ⟨ad144, e144, hx144_0, hx144_1, hx144_2, hx144_3⟩ := at_T60 HR0.out x13_2 p144 q144
                cases e144
                replace hx144_0 := (HB.out.cell (World.block_lt_of_cell? w _ hx144_0)).trans hx144_0
                replace hx144_1 := (HB.out.cell (World.block_lt_of_cell? w _ hx144_1)).trans hx144_1
                replace hx144_2 := (HB.out.cell (World.block_lt_of_cell? w _ hx144_2)).trans hx144_2
                replace hx144_3 := (HB.out.cell (World.block_lt_of_cell? w _ hx144_3)).trans hx144_3
                replace p144 := eq_true p144
                replace q144 := eq_true q144
                go_upto_region 12 with (first | ((with_reducible refine gate_callee (f := 47) rfl ?_); refine goesL_ (some 43) rfl rfl Tryd.func47 (by kernel_rfl) rfl #[.string ((rd_T60 l0 x13_2).f0), .string a1] rfl (by (try simp only [List.map_toArray, List.map_cons, List.map_nil]); first | done | rfl | (simp only [List.length_drop, List.length_take]; rfl)) ?_; (with_reducible refine (wherryref02_Less.calls k2 ((rd_T60 l0 x13_2).f0) a1 t145 _ A17.out).mono ?_); rintro e w' ⟨rfl, ⟨nd, rfl⟩⟩; refine ⟨_, rfl, ?_⟩))
                (try simp only [Act.put, List.setIfInBounds_toArray, List.set_cons_zero, List.set_cons_succ])
                go_cut [49] (fun v49 wc => ∃ (kq : Nat) (x49_17 : Bool), v49 = .bool x49_17 ∧ Aside0 (wherryref09_Put.j2 kq l0 a1 x11_2 x12_2 x13_2 x49_17 a2_0 a2_1 a2_2 = some (r1, r2)) ∧ Aside0 (kq ≤ k2) ∧ Aside0 (Kd.R k60 60 wc w.heap.size (fun _ => True) u11 x11_2) ∧ Aside0 (wc.heap[gb140]? = some (.cells #[.int .i64 a2_0, .int .i64 a2_1, .string a2_2] 23 (0, 0))) ∧ Aside0 (Below w.heap.size w wc))
                case first =>
                  have H := HC18.out
                  clear HC18
                  by_cases c19 : t145 = true
                  · subst c19
                    have H1 : (wherryref09_Put.j2 k2 l0 a1 x11_2 x12_2 x13_2 false a2_0 a2_1 a2_2) = some (r1, r2) := by rw [if_pos rfl] at H; exact H
                    clear H
                    have H := H1
                    clear H1
                    have H' := Aside0.mk H
                    clear H
                    go_wp2
                    go_meet
                    case rel => exact ⟨_, (false), (by first | rfl | (simp; done) | (simp [*]; done)), H', ⟨by have := HJ6.out; have := HK2.out; first | omega | exact Nat.le_refl _⟩, ⟨by (with_reducible repeat (first | apply Kd.R_alloc | apply Kd.R_drewN | apply Kd.R_drew)); exact HO_11.out⟩, ⟨by (with_reducible repeat (first | refine blk_drewN ?_ _ | refine blk_drew ?_ | refine blk_alloc ?_ _)); exact BK140.out⟩, ⟨by repeat (first | (with_reducible first | exact HB.out | apply below_alloc | apply pw_below_drewN | apply below_drew1 | refine below_set ?_ GE140.out) | exact HB.out)⟩⟩
                  · replace c19 := Bool.eq_false_iff.mpr c19
                    subst c19
                    have H1 : (wherryref09_Put.j2 k2 l0 a1 x11_2 x12_2 x13_2 (!x12_2) a2_0 a2_1 a2_2) = some (r1, r2) := by rw [if_neg (show ¬ (false = true) by decide)] at H; exact H
                    clear H
                    have H := H1
                    clear H1
                    have H' := Aside0.mk H
                    clear H
                    go_wp2
                    go_meet
                    case rel => exact ⟨_, (!x12_2), (by first | rfl | (simp; done) | (simp [*]; done)), H', ⟨by have := HJ6.out; have := HK2.out; first | omega | exact Nat.le_refl _⟩, ⟨by (with_reducible repeat (first | apply Kd.R_alloc | apply Kd.R_drewN | apply Kd.R_drew)); exact HO_11.out⟩, ⟨by (with_reducible repeat (first | refine blk_drewN ?_ _ | refine blk_drew ?_ | refine blk_alloc ?_ _)); exact BK140.out⟩, ⟨by repeat (first | (with_reducible first | exact HB.out | apply below_alloc | apply pw_below_drewN | apply below_drew1 | refine below_set ?_ GE140.out) | exact HB.out)⟩⟩
                case rest =>
                  clear HC18
                  try clear c1
                  try clear p1
                  try clear q1
                  try clear hx1
                  try clear c2
                  try clear p2
                  try clear c4
                  try clear c11
                  try clear c12
                  try clear c13
                  try clear c14
                  try clear p14
                  try clear q14
                  try clear hx14
                  try clear c15
                  try clear c15b0
                  try clear c16
                  try clear c16b0
                  try clear c19
                  try clear hcz10_0
                  try clear hcz10_1
                  try clear hcz10_2
                  try clear hfz10_0
                  try clear hfz10_1
                  try clear hfz10_2
                  try clear hx144_0
                  try clear hx144_1
                  try clear hx144_2
                  try clear hx144_3
                  try clear p144
                  try clear p2
                  try clear q144
                  obtain ⟨kq, x49_17, rfl, HA, HJ17, HO_11, BK140, HB⟩ := hcut
                  cases kq with
                  | zero => exact absurd HA.out (by simp [wherryref09_Put.j2])
                  | succ kj17 =>
                    have H := HA.out
                    clear HA
                    simp only [wherryref09_Put.j2] at H
                    by_cases c20 : x49_17 = true
                    · subst c20
                      have H1 : (if x11_2.length < 2932031007402 then ((some (x11_2 ++ [(⟨a1, (⟨a2_0, a2_1, a2_2⟩ : S23)⟩ : S60)] : List (S60))).bind fun y146 => (if 0 ≤ x13_2 then (if x13_2 < (l0.length : Int) then (if ((rd_T60 l0 x13_2).f0).toList = a1.toList then (wherryref09_Put.l0 kj17 l0 a1 y146 true (wrap64 (x13_2 + 1)) a2_0 a2_1 a2_2) else (if y146.length < 2932031007402 then (wherryref09_Put.l0 kj17 l0 a1 (y146 ++ [(⟨(rd_T60 l0 x13_2).f0, (⟨(rd_T60 l0 x13_2).f1.f0, (rd_T60 l0 x13_2).f1.f1, (rd_T60 l0 x13_2).f1.f2⟩ : S23)⟩ : S60)]) true (wrap64 (x13_2 + 1)) a2_0 a2_1 a2_2) else (none))) else (none)) else (none))) else (none)) = some (r1, r2) := by rw [if_pos rfl] at H; exact H
                      clear H
                      have H := H1
                      clear H1
                      by_cases c21 : x11_2.length < 2932031007402
                      · rw [if_pos c21] at H
                        have LMc21 := Aside0.mk c21
                        clear c21
                        obtain ⟨y146, hy146⟩ : ∃ y_ : List (S60), y_ = (x11_2 ++ [(⟨a1, (⟨a2_0, a2_1, a2_2⟩ : S23)⟩ : S60)]) := ⟨_, rfl⟩
                        replace H : (if 0 ≤ x13_2 then (if x13_2 < (l0.length : Int) then (if ((rd_T60 l0 x13_2).f0).toList = a1.toList then (wherryref09_Put.l0 kj17 l0 a1 y146 true (wrap64 (x13_2 + 1)) a2_0 a2_1 a2_2) else (if y146.length < 2932031007402 then (wherryref09_Put.l0 kj17 l0 a1 (y146 ++ [(⟨(rd_T60 l0 x13_2).f0, (⟨(rd_T60 l0 x13_2).f1.f0, (rd_T60 l0 x13_2).f1.f1, (rd_T60 l0 x13_2).f1.f2⟩ : S23)⟩ : S60)]) true (wrap64 (x13_2 + 1)) a2_0 a2_1 a2_2) else (none))) else (none)) else (none)) = some (r1, r2) := by first | (rw [hy146]; with_reducible exact H) | (have H2_ := (Option.bind_some _ _).symm.trans H; rw [hy146]; with_reducible exact H2_) | (have H2_ := (Option.bind_some _ _).symm.trans H; with_reducible exact H2_) | with_reducible exact H | (rw [hy146]; exact H) | exact H
                        have Ny146 := Aside0.mk hy146
                        clear hy146
                        by_cases c22 : 0 ≤ x13_2
                        · rw [if_pos c22] at H
                          have c22b0 : decide (0 ≤ x13_2) = true := decide_eq_true c22
                          clear c22
                          by_cases c23 : x13_2 < (l0.length : Int)
                          · rw [if_pos c23] at H
                            have c23b0 : decide (x13_2 < (l0.length : Int)) = true := decide_eq_true c23
                            clear c23
                            by_cases c24 : ((rd_T60 l0 x13_2).f0).toList = a1.toList
                            · rw [if_pos c24] at H
                              have c24b0 : (((rd_T60 l0 x13_2).f0).toList == a1.toList) = true := beq_iff_eq.mpr c24
                              have c24b1 : (((rd_T60 l0 x13_2).f0).toList != a1.toList) = false := bne_eq_false_iff_eq.mpr c24
                              clear c24
                              have H' := Aside0.mk H
                              clear H
                              have hcz25_0 : wc.cell? ⟨gb140, 0, none⟩ = some (.int .i64 a2_0) := (blk_cell BK140.out 0).trans rfl
                              have hcz25_1 : wc.cell? ⟨gb140, 1, none⟩ = some (.int .i64 a2_1) := (blk_cell BK140.out 1).trans rfl
                              have hcz25_2 : wc.cell? ⟨gb140, 2, none⟩ = some (.string a2_2) := (blk_cell BK140.out 2).trans rfl
                              have hfz25_0 := blk_frozen BK140.out 0
                              have hfz25_1 := blk_frozen BK140.out 1
                              have hfz25_2 := blk_frozen BK140.out 2
                              go_wp2_with (first | ((with_reducible refine gate_builtin (b := .append) (xs := #[.tmp 50, .tmp 54]) rfl ?_); at_builtin; refine Kd.R_append k60 (w0 := w) w.heap.size rfl (.tmp 50) (.tmp 54) 29 60 (.agg #[(.string ⟨#[]⟩), (.int .i64 0), (.int .i64 0), (.string ⟨#[]⟩)]) 48 rfl Tryd.underlying29 info60 rfl (by decide) (by omega) u11 x11_2 (⟨a1, (⟨a2_0, a2_1, a2_2⟩ : S23)⟩ : S60) [.string a1, .int .i64 a2_0, .int .i64 a2_1, .string a2_2] (fun _ => True) (fun _ => False) rfl rfl ?aP (fun _ hk => hk.elim) ?aF ?aO ?aB ?aS ?aL ?_; (case aP => exact k60_mkM _ _ _ (⟨a1, (⟨a2_0, a2_1, a2_2⟩ : S23)⟩ : S60)); (case aB => exact (by repeat (first | (with_reducible first | exact HB.out | apply below_alloc | apply pw_below_drewN | apply below_drew1 | refine below_set ?_ GE140.out) | exact HB.out))); (case aF => exact (fun _ _ => trivial)); (case aO => exact (by (with_reducible repeat (first | apply Kd.R_alloc | apply Kd.R_drewN | apply Kd.R_drew)); exact HO_11.out)); (case aS => exact (below_size (by repeat (first | (with_reducible first | exact HB.out | apply below_alloc | apply pw_below_drewN | apply below_drew1 | refine below_set ?_ GE140.out) | exact HB.out)))); (case aL => have := LMc21.out; omega); intro v147 w26 ho hb hg hat; rw [← Ny146.out] at ho; have n0_ := Aside0.mk (blk_grown (g := gb140) (o := .cells #[.int .i64 a2_0, .int .i64 a2_1, .string a2_2] 23 (0, 0)) (by (with_reducible repeat (first | refine blk_drewN ?_ _ | refine blk_drew ?_ | refine blk_alloc ?_ _)); exact BK140.out) hg (Kd.R_ne HO_11.out BK140.out (by decide))); have n1_ := Aside0.mk (hb); have n2_ := Aside0.mk (ho); clear BK140; clear HB; clear HO_11; have BK140 := n0_; have HB := n1_; have HO148 := n2_; clear n0_ n1_ n2_; clear ho hb hg hat; have p149 : 0 ≤ (x13_2 : Int) := of_decide_eq_true (by first | (with_reducible assumption) | assumption); have q149 : x13_2 < (l0.length : Int) := of_decide_eq_true (by first | (with_reducible assumption) | assumption); obtain ⟨ad149, e149, hx149_0, hx149_1, hx149_2, hx149_3⟩ := at_T60 HR0.out x13_2 p149 q149; obtain rfl : ad144 = ad149 := (by injection e149); replace hx149_0 := (HB.out.cell (World.block_lt_of_cell? w _ hx149_0)).trans hx149_0; replace hx149_1 := (HB.out.cell (World.block_lt_of_cell? w _ hx149_1)).trans hx149_1; replace hx149_2 := (HB.out.cell (World.block_lt_of_cell? w _ hx149_2)).trans hx149_2; replace hx149_3 := (HB.out.cell (World.block_lt_of_cell? w _ hx149_3)).trans hx149_3; replace p149 := eq_true p149; replace q149 := eq_true q149))
                              go_roundg kj17
                              case measure => have := HJ6.out; have := HK2.out; have := HJ17.out; omega
                              case rel => exact ⟨(y146), (true), (wrap64 (x13_2 + 1)), (by first | rfl | (simp; done) | (simp [*]; done)), (by first | rfl | (simp; done) | (simp [*]; done)), H', ⟨by have := HJ6.out; have := HK2.out; have := HJ17.out; omega⟩, ⟨by (with_reducible repeat (first | apply Kd.R_alloc | apply Kd.R_drewN | apply Kd.R_drew)); exact HO148.out⟩, ⟨by (with_reducible repeat (first | refine blk_drewN ?_ _ | refine blk_drew ?_ | refine blk_alloc ?_ _)); exact BK140.out⟩, ⟨by repeat (first | (with_reducible first | exact HB.out | apply below_alloc | apply pw_below_drewN | apply below_drew1 | refine below_set ?_ GE140.out) | exact HB.out)⟩⟩
                            · rw [if_neg c24] at H
                              have c24b0 : (((rd_T60 l0 x13_2).f0).toList == a1.toList) = false := beq_eq_false_iff_ne.mpr c24
                              have c24b1 : (((rd_T60 l0 x13_2).f0).toList != a1.toList) = true := bne_iff_ne.mpr c24
                              by_cases c27 : y146.length < 2932031007402
                              · rw [if_pos c27] at H
                                have LMc27 := Aside0.mk c27
                                clear c27
                                obtain ⟨y151, hy151⟩ : ∃ y_ : List (S60), y_ = (y146 ++ [(⟨(rd_T60 l0 x13_2).f0, (⟨(rd_T60 l0 x13_2).f1.f0, (rd_T60 l0 x13_2).f1.f1, (rd_T60 l0 x13_2).f1.f2⟩ : S23)⟩ : S60)]) := ⟨_, rfl⟩
                                replace H : (wherryref09_Put.l0 kj17 l0 a1 y151 true (wrap64 (x13_2 + 1)) a2_0 a2_1 a2_2) = some (r1, r2) := by first | (rw [hy151]; with_reducible exact H) | (have H2_ := (Option.bind_some _ _).symm.trans H; rw [hy151]; with_reducible exact H2_) | (have H2_ := (Option.bind_some _ _).symm.trans H; with_reducible exact H2_) | with_reducible exact H | (rw [hy151]; exact H) | exact H
                                have Ny151 := Aside0.mk hy151
                                clear hy151
                                have H' := Aside0.mk H
                                clear H
                                have hcz28_0 : wc.cell? ⟨gb140, 0, none⟩ = some (.int .i64 a2_0) := (blk_cell BK140.out 0).trans rfl
                                have hcz28_1 : wc.cell? ⟨gb140, 1, none⟩ = some (.int .i64 a2_1) := (blk_cell BK140.out 1).trans rfl
                                have hcz28_2 : wc.cell? ⟨gb140, 2, none⟩ = some (.string a2_2) := (blk_cell BK140.out 2).trans rfl
                                have hfz28_0 := blk_frozen BK140.out 0
                                have hfz28_1 := blk_frozen BK140.out 1
                                have hfz28_2 := blk_frozen BK140.out 2
                                go_wp2_with (first | ((with_reducible refine gate_builtin (b := .append) (xs := #[.tmp 50, .tmp 54]) rfl ?_); at_builtin; refine Kd.R_append k60 (w0 := w) w.heap.size rfl (.tmp 50) (.tmp 54) 29 60 (.agg #[(.string ⟨#[]⟩), (.int .i64 0), (.int .i64 0), (.string ⟨#[]⟩)]) 48 rfl Tryd.underlying29 info60 rfl (by decide) (by omega) u11 x11_2 (⟨a1, (⟨a2_0, a2_1, a2_2⟩ : S23)⟩ : S60) [.string a1, .int .i64 a2_0, .int .i64 a2_1, .string a2_2] (fun _ => True) (fun _ => False) rfl rfl ?aP (fun _ hk => hk.elim) ?aF ?aO ?aB ?aS ?aL ?_; (case aP => exact k60_mkM _ _ _ (⟨a1, (⟨a2_0, a2_1, a2_2⟩ : S23)⟩ : S60)); (case aB => exact (by repeat (first | (with_reducible first | exact HB.out | apply below_alloc | apply pw_below_drewN | apply below_drew1 | refine below_set ?_ GE140.out) | exact HB.out))); (case aF => exact (fun _ _ => trivial)); (case aO => exact (by (with_reducible repeat (first | apply Kd.R_alloc | apply Kd.R_drewN | apply Kd.R_drew)); exact HO_11.out)); (case aS => exact (below_size (by repeat (first | (with_reducible first | exact HB.out | apply below_alloc | apply pw_below_drewN | apply below_drew1 | refine below_set ?_ GE140.out) | exact HB.out)))); (case aL => have := LMc21.out; omega); intro v147 w29 ho hb hg hat; rw [← Ny146.out] at ho; have n0_ := Aside0.mk (blk_grown (g := gb140) (o := .cells #[.int .i64 a2_0, .int .i64 a2_1, .string a2_2] 23 (0, 0)) (by (with_reducible repeat (first | refine blk_drewN ?_ _ | refine blk_drew ?_ | refine blk_alloc ?_ _)); exact BK140.out) hg (Kd.R_ne HO_11.out BK140.out (by decide))); have n1_ := Aside0.mk (hb); have n2_ := Aside0.mk (ho); clear BK140; clear HB; clear HO_11; have BK140 := n0_; have HB := n1_; have HO148 := n2_; clear n0_ n1_ n2_; clear ho hb hg hat; have p149 : 0 ≤ (x13_2 : Int) := of_decide_eq_true (by first | (with_reducible assumption) | assumption); have q149 : x13_2 < (l0.length : Int) := of_decide_eq_true (by first | (with_reducible assumption) | assumption); obtain ⟨ad149, e149, hx149_0, hx149_1, hx149_2, hx149_3⟩ := at_T60 HR0.out x13_2 p149 q149; obtain rfl : ad144 = ad149 := (by injection e149); replace hx149_0 := (HB.out.cell (World.block_lt_of_cell? w _ hx149_0)).trans hx149_0; replace hx149_1 := (HB.out.cell (World.block_lt_of_cell? w _ hx149_1)).trans hx149_1; replace hx149_2 := (HB.out.cell (World.block_lt_of_cell? w _ hx149_2)).trans hx149_2; replace hx149_3 := (HB.out.cell (World.block_lt_of_cell? w _ hx149_3)).trans hx149_3; replace p149 := eq_true p149; replace q149 := eq_true q149; have p150 : 0 ≤ (x13_2 : Int) := of_decide_eq_true (by first | (with_reducible assumption) | assumption); have q150 : x13_2 < (l0.length : Int) := of_decide_eq_true (by first | (with_reducible assumption) | assumption); obtain ⟨ad150, e150, hx150_0, hx150_1, hx150_2, hx150_3⟩ := at_T60 HR0.out x13_2 p150 q150; obtain rfl : ad144 = ad150 := (by injection e150); replace hx150_0 := (HB.out.cell (World.block_lt_of_cell? w _ hx150_0)).trans hx150_0; replace hx150_1 := (HB.out.cell (World.block_lt_of_cell? w _ hx150_1)).trans hx150_1; replace hx150_2 := (HB.out.cell (World.block_lt_of_cell? w _ hx150_2)).trans hx150_2; replace hx150_3 := (HB.out.cell (World.block_lt_of_cell? w _ hx150_3)).trans hx150_3; replace p150 := eq_true p150; replace q150 := eq_true q150) | ((with_reducible refine gate_builtin (b := .append) (xs := #[.tmp 63, .tmp 68]) rfl ?_); at_builtin; refine Kd.R_append k60 (w0 := w) w.heap.size rfl (.tmp 63) (.tmp 68) 29 60 (.agg #[(.string ⟨#[]⟩), (.int .i64 0), (.int .i64 0), (.string ⟨#[]⟩)]) 48 rfl Tryd.underlying29 info60 rfl (by decide) (by omega) v147 y146 (⟨(rd_T60 l0 x13_2).f0, (⟨(rd_T60 l0 x13_2).f1.f0, (rd_T60 l0 x13_2).f1.f1, (rd_T60 l0 x13_2).f1.f2⟩ : S23)⟩ : S60) [.string ((rd_T60 l0 x13_2).f0), .int .i64 ((rd_T60 l0 x13_2).f1.f0), .int .i64 ((rd_T60 l0 x13_2).f1.f1), .string ((rd_T60 l0 x13_2).f1.f2)] (fun _ => True) (fun _ => False) rfl rfl ?aP (fun _ hk => hk.elim) ?aF ?aO ?aB ?aS ?aL ?_; (case aP => exact k60_mkM _ _ _ (⟨(rd_T60 l0 x13_2).f0, (⟨(rd_T60 l0 x13_2).f1.f0, (rd_T60 l0 x13_2).f1.f1, (rd_T60 l0 x13_2).f1.f2⟩ : S23)⟩ : S60)); (case aB => exact (by repeat (first | (with_reducible first | exact HB.out | apply below_alloc | apply pw_below_drewN | apply below_drew1 | refine below_set ?_ GE140.out) | exact HB.out))); (case aF => exact (fun _ _ => trivial)); (case aO => exact (by (with_reducible repeat (first | apply Kd.R_alloc | apply Kd.R_drewN | apply Kd.R_drew)); exact HO148.out)); (case aS => exact (below_size (by repeat (first | (with_reducible first | exact HB.out | apply below_alloc | apply pw_below_drewN | apply below_drew1 | refine below_set ?_ GE140.out) | exact HB.out)))); (case aL => have := LMc27.out; omega); intro v152 w30 ho hb hg hat; rw [← Ny151.out] at ho; have n0_ := Aside0.mk (blk_grown (g := gb140) (o := .cells #[.int .i64 a2_0, .int .i64 a2_1, .string a2_2] 23 (0, 0)) (by (with_reducible repeat (first | refine blk_drewN ?_ _ | refine blk_drew ?_ | refine blk_alloc ?_ _)); exact BK140.out) hg (Kd.R_ne HO148.out BK140.out (by decide))); have n1_ := Aside0.mk (hb); have n2_ := Aside0.mk (ho); clear BK140; clear HB; clear HO148; have BK140 := n0_; have HB := n1_; have HO153 := n2_; clear n0_ n1_ n2_; clear ho hb hg hat))
                                go_roundg kj17
                                case measure => have := HJ6.out; have := HK2.out; have := HJ17.out; omega
                                case rel => exact ⟨(y151), (true), (wrap64 (x13_2 + 1)), (by first | rfl | (simp; done) | (simp [*]; done)), (by first | rfl | (simp; done) | (simp [*]; done)), H', ⟨by have := HJ6.out; have := HK2.out; have := HJ17.out; omega⟩, ⟨by (with_reducible repeat (first | apply Kd.R_alloc | apply Kd.R_drewN | apply Kd.R_drew)); exact HO153.out⟩, ⟨by (with_reducible repeat (first | refine blk_drewN ?_ _ | refine blk_drew ?_ | refine blk_alloc ?_ _)); exact BK140.out⟩, ⟨by repeat (first | (with_reducible first | exact HB.out | apply below_alloc | apply pw_below_drewN | apply below_drew1 | refine below_set ?_ GE140.out) | exact HB.out)⟩⟩
                              · rw [if_neg c27] at H
                                exact absurd H (by simp)
                          · rw [if_neg c23] at H
                            exact absurd H (by simp)
                        · rw [if_neg c22] at H
                          exact absurd H (by simp)
                      · rw [if_neg c21] at H
                        exact absurd H (by simp)
                    · replace c20 := Bool.eq_false_iff.mpr c20
                      subst c20
                      have H1 : (if 0 ≤ x13_2 then (if x13_2 < (l0.length : Int) then (if ((rd_T60 l0 x13_2).f0).toList = a1.toList then (wherryref09_Put.l0 kj17 l0 a1 x11_2 x12_2 (wrap64 (x13_2 + 1)) a2_0 a2_1 a2_2) else (if x11_2.length < 2932031007402 then (wherryref09_Put.l0 kj17 l0 a1 (x11_2 ++ [(⟨(rd_T60 l0 x13_2).f0, (⟨(rd_T60 l0 x13_2).f1.f0, (rd_T60 l0 x13_2).f1.f1, (rd_T60 l0 x13_2).f1.f2⟩ : S23)⟩ : S60)]) x12_2 (wrap64 (x13_2 + 1)) a2_0 a2_1 a2_2) else (none))) else (none)) else (none)) = some (r1, r2) := by rw [if_neg (show ¬ (false = true) by decide)] at H; exact H
                      clear H
                      have H := H1
                      clear H1
                      by_cases c31 : 0 ≤ x13_2
                      · rw [if_pos c31] at H
                        have c31b0 : decide (0 ≤ x13_2) = true := decide_eq_true c31
                        clear c31
                        by_cases c32 : x13_2 < (l0.length : Int)
                        · rw [if_pos c32] at H
                          have c32b0 : decide (x13_2 < (l0.length : Int)) = true := decide_eq_true c32
                          clear c32
                          by_cases c33 : ((rd_T60 l0 x13_2).f0).toList = a1.toList
                          · rw [if_pos c33] at H
                            have c33b0 : (((rd_T60 l0 x13_2).f0).toList == a1.toList) = true := beq_iff_eq.mpr c33
                            have c33b1 : (((rd_T60 l0 x13_2).f0).toList != a1.toList) = false := bne_eq_false_iff_eq.mpr c33
                            clear c33
                            have H' := Aside0.mk H
                            clear H
                            have p154 : 0 ≤ (x13_2 : Int) := of_decide_eq_true (by first | (with_reducible assumption) | assumption)
                            have q154 : x13_2 < (l0.length : Int) := of_decide_eq_true (by first | (with_reducible assumption) | assumption)
                            obtain ⟨ad154, e154, hx154_0, hx154_1, hx154_2, hx154_3⟩ := at_T60 HR0.out x13_2 p154 q154
                            obtain rfl : ad144 = ad154 := (by injection e154)
                            replace hx154_0 := (HB.out.cell (World.block_lt_of_cell? w _ hx154_0)).trans hx154_0
                            replace hx154_1 := (HB.out.cell (World.block_lt_of_cell? w _ hx154_1)).trans hx154_1
                            replace hx154_2 := (HB.out.cell (World.block_lt_of_cell? w _ hx154_2)).trans hx154_2
                            replace hx154_3 := (HB.out.cell (World.block_lt_of_cell? w _ hx154_3)).trans hx154_3
                            replace p154 := eq_true p154
                            replace q154 := eq_true q154
                            go_wp2
                            go_roundg kj17
                            case measure => have := HJ6.out; have := HK2.out; have := HJ17.out; omega
                            case rel => exact ⟨(x11_2), (x12_2), (wrap64 (x13_2 + 1)), (by first | rfl | (simp; done) | (simp [*]; done)), (by first | rfl | (simp; done) | (simp [*]; done)), H', ⟨by have := HJ6.out; have := HK2.out; have := HJ17.out; omega⟩, ⟨by (with_reducible repeat (first | apply Kd.R_alloc | apply Kd.R_drewN | apply Kd.R_drew)); exact HO_11.out⟩, ⟨by (with_reducible repeat (first | refine blk_drewN ?_ _ | refine blk_drew ?_ | refine blk_alloc ?_ _)); exact BK140.out⟩, ⟨by repeat (first | (with_reducible first | exact HB.out | apply below_alloc | apply pw_below_drewN | apply below_drew1 | refine below_set ?_ GE140.out) | exact HB.out)⟩⟩
                          · rw [if_neg c33] at H
                            have c33b0 : (((rd_T60 l0 x13_2).f0).toList == a1.toList) = false := beq_eq_false_iff_ne.mpr c33
                            have c33b1 : (((rd_T60 l0 x13_2).f0).toList != a1.toList) = true := bne_iff_ne.mpr c33
                            by_cases c34 : x11_2.length < 2932031007402
                            · rw [if_pos c34] at H
                              have LMc34 := Aside0.mk c34
                              clear c34
                              obtain ⟨y156, hy156⟩ : ∃ y_ : List (S60), y_ = (x11_2 ++ [(⟨(rd_T60 l0 x13_2).f0, (⟨(rd_T60 l0 x13_2).f1.f0, (rd_T60 l0 x13_2).f1.f1, (rd_T60 l0 x13_2).f1.f2⟩ : S23)⟩ : S60)]) := ⟨_, rfl⟩
                              replace H : (wherryref09_Put.l0 kj17 l0 a1 y156 x12_2 (wrap64 (x13_2 + 1)) a2_0 a2_1 a2_2) = some (r1, r2) := by first | (rw [hy156]; with_reducible exact H) | (have H2_ := (Option.bind_some _ _).symm.trans H; rw [hy156]; with_reducible exact H2_) | (have H2_ := (Option.bind_some _ _).symm.trans H; with_reducible exact H2_) | with_reducible exact H | (rw [hy156]; exact H) | exact H
                              have Ny156 := Aside0.mk hy156
                              clear hy156
                              have H' := Aside0.mk H
                              clear H
                              have p154 : 0 ≤ (x13_2 : Int) := of_decide_eq_true (by first | (with_reducible assumption) | assumption)
                              have q154 : x13_2 < (l0.length : Int) := of_decide_eq_true (by first | (with_reducible assumption) | assumption)
                              obtain ⟨ad154, e154, hx154_0, hx154_1, hx154_2, hx154_3⟩ := at_T60 HR0.out x13_2 p154 q154
                              obtain rfl : ad144 = ad154 := (by injection e154)
                              replace hx154_0 := (HB.out.cell (World.block_lt_of_cell? w _ hx154_0)).trans hx154_0
                              replace hx154_1 := (HB.out.cell (World.block_lt_of_cell? w _ hx154_1)).trans hx154_1
                              replace hx154_2 := (HB.out.cell (World.block_lt_of_cell? w _ hx154_2)).trans hx154_2
                              replace hx154_3 := (HB.out.cell (World.block_lt_of_cell? w _ hx154_3)).trans hx154_3
                              replace p154 := eq_true p154
                              replace q154 := eq_true q154
                              have p155 : 0 ≤ (x13_2 : Int) := of_decide_eq_true (by first | (with_reducible assumption) | assumption)
                              have q155 : x13_2 < (l0.length : Int) := of_decide_eq_true (by first | (with_reducible assumption) | assumption)
                              obtain ⟨ad155, e155, hx155_0, hx155_1, hx155_2, hx155_3⟩ := at_T60 HR0.out x13_2 p155 q155
                              obtain rfl : ad144 = ad155 := (by injection e155)
                              replace hx155_0 := (HB.out.cell (World.block_lt_of_cell? w _ hx155_0)).trans hx155_0
                              replace hx155_1 := (HB.out.cell (World.block_lt_of_cell? w _ hx155_1)).trans hx155_1
                              replace hx155_2 := (HB.out.cell (World.block_lt_of_cell? w _ hx155_2)).trans hx155_2
                              replace hx155_3 := (HB.out.cell (World.block_lt_of_cell? w _ hx155_3)).trans hx155_3
                              replace p155 := eq_true p155
                              replace q155 := eq_true q155
                              go_wp2_with (first | ((with_reducible refine gate_builtin (b := .append) (xs := #[.tmp 63, .tmp 68]) rfl ?_); at_builtin; refine Kd.R_append k60 (w0 := w) w.heap.size rfl (.tmp 63) (.tmp 68) 29 60 (.agg #[(.string ⟨#[]⟩), (.int .i64 0), (.int .i64 0), (.string ⟨#[]⟩)]) 48 rfl Tryd.underlying29 info60 rfl (by decide) (by omega) u11 x11_2 (⟨(rd_T60 l0 x13_2).f0, (⟨(rd_T60 l0 x13_2).f1.f0, (rd_T60 l0 x13_2).f1.f1, (rd_T60 l0 x13_2).f1.f2⟩ : S23)⟩ : S60) [.string ((rd_T60 l0 x13_2).f0), .int .i64 ((rd_T60 l0 x13_2).f1.f0), .int .i64 ((rd_T60 l0 x13_2).f1.f1), .string ((rd_T60 l0 x13_2).f1.f2)] (fun _ => True) (fun _ => False) rfl rfl ?aP (fun _ hk => hk.elim) ?aF ?aO ?aB ?aS ?aL ?_; (case aP => exact k60_mkM _ _ _ (⟨(rd_T60 l0 x13_2).f0, (⟨(rd_T60 l0 x13_2).f1.f0, (rd_T60 l0 x13_2).f1.f1, (rd_T60 l0 x13_2).f1.f2⟩ : S23)⟩ : S60)); (case aB => exact (by repeat (first | (with_reducible first | exact HB.out | apply below_alloc | apply pw_below_drewN | apply below_drew1 | refine below_set ?_ GE140.out) | exact HB.out))); (case aF => exact (fun _ _ => trivial)); (case aO => exact (by (with_reducible repeat (first | apply Kd.R_alloc | apply Kd.R_drewN | apply Kd.R_drew)); exact HO_11.out)); (case aS => exact (below_size (by repeat (first | (with_reducible first | exact HB.out | apply below_alloc | apply pw_below_drewN | apply below_drew1 | refine below_set ?_ GE140.out) | exact HB.out)))); (case aL => have := LMc34.out; omega); intro v157 w35 ho hb hg hat; rw [← Ny156.out] at ho; have n0_ := Aside0.mk (blk_grown (g := gb140) (o := .cells #[.int .i64 a2_0, .int .i64 a2_1, .string a2_2] 23 (0, 0)) (by (with_reducible repeat (first | refine blk_drewN ?_ _ | refine blk_drew ?_ | refine blk_alloc ?_ _)); exact BK140.out) hg (Kd.R_ne HO_11.out BK140.out (by decide))); have n1_ := Aside0.mk (hb); have n2_ := Aside0.mk (ho); clear BK140; clear HB; clear HO_11; have BK140 := n0_; have HB := n1_; have HO158 := n2_; clear n0_ n1_ n2_; clear ho hb hg hat))
                              go_roundg kj17
                              case measure => have := HJ6.out; have := HK2.out; have := HJ17.out; omega
                              case rel => exact ⟨(y156), (x12_2), (wrap64 (x13_2 + 1)), (by first | rfl | (simp; done) | (simp [*]; done)), (by first | rfl | (simp; done) | (simp [*]; done)), H', ⟨by have := HJ6.out; have := HK2.out; have := HJ17.out; omega⟩, ⟨by (with_reducible repeat (first | apply Kd.R_alloc | apply Kd.R_drewN | apply Kd.R_drew)); exact HO158.out⟩, ⟨by (with_reducible repeat (first | refine blk_drewN ?_ _ | refine blk_drew ?_ | refine blk_alloc ?_ _)); exact BK140.out⟩, ⟨by repeat (first | (with_reducible first | exact HB.out | apply below_alloc | apply pw_below_drewN | apply below_drew1 | refine below_set ?_ GE140.out) | exact HB.out)⟩⟩
                            · rw [if_neg c34] at H
                              exact absurd H (by simp)
                        · rw [if_neg c32] at H
                          exact absurd H (by simp)
                      · rw [if_neg c31] at H
                        exact absurd H (by simp)
              · rw [if_neg c16] at H
                exact absurd H (by simp)
            · rw [if_neg c15] at H
              have c15b0 : decide (x13_2 < (l0.length : Int)) = false := decide_eq_false c15
              clear c15
              by_cases c36 : x12_2 = true
              · subst c36
                have H1 : (if (x11_2.length : Int) > 16 then (some (([] : List (S60)), 4)) else (some (x11_2, 0))) = some (r1, r2) := by rw [if_pos rfl] at H; exact H
                clear H
                have H := H1
                clear H1
                by_cases c37 : (x11_2.length : Int) > 16
                · rw [if_pos c37] at H
                  have c37b0 : decide (16 < (x11_2.length : Int)) = true := decide_eq_true c37
                  have c37b1 : decide (16 < x11_2.length) = true := decide_eq_true (by omega)
                  clear c37
                  simp only [Option.some.injEq, Prod.mk.injEq] at H
                  obtain ⟨rfl, rfl⟩ := H
                  obtain ⟨Ao38, co38, eo38⟩ := Kd.R_slice HO_11.out
                  subst eo38
                  go_wp2
                  go_ret2
                  exact ⟨_, by first | rfl | (simp [errW_none, errW_some] <;> rfl) | (simp [*, errW_none, errW_some] <;> rfl), by first | exact Kd.R_nil _ _ _ _ _ | exact Kd.N_nil _ _ _ _ _ | exact Kd.V_nil _ _ _ _ _ | exact Kd.Q_nil _ _ _ _ _ | exact Kd.S_nil _ _ _ _ _, by repeat (first | (with_reducible first | exact HB.out | apply below_alloc | apply pw_below_drewN | apply below_drew1 | refine below_set ?_ GE140.out) | exact HB.out)⟩
                · rw [if_neg c37] at H
                  have c37b0 : decide (16 < (x11_2.length : Int)) = false := decide_eq_false c37
                  have c37b1 : decide (16 < x11_2.length) = false := decide_eq_false (by omega)
                  clear c37
                  simp only [Option.some.injEq, Prod.mk.injEq] at H
                  obtain ⟨rfl, rfl⟩ := H
                  obtain ⟨Ao39, co39, eo39⟩ := Kd.R_slice HO_11.out
                  subst eo39
                  go_wp2
                  go_ret2
                  exact ⟨_, by first | rfl | (simp [errW_none, errW_some] <;> rfl) | (simp [*, errW_none, errW_some] <;> rfl), by (with_reducible repeat (first | apply Kd.R_alloc | apply Kd.R_drewN | apply Kd.R_drew)); exact HO_11.out, by repeat (first | (with_reducible first | exact HB.out | apply below_alloc | apply pw_below_drewN | apply below_drew1 | refine below_set ?_ GE140.out) | exact HB.out)⟩
              · replace c36 := Bool.eq_false_iff.mpr c36
                subst c36
                have H1 : (if x11_2.length < 2932031007402 then ((some (x11_2 ++ [(⟨a1, (⟨a2_0, a2_1, a2_2⟩ : S23)⟩ : S60)] : List (S60))).bind fun y159 => (if (y159.length : Int) > 16 then (some (([] : List (S60)), 4)) else (some (y159, 0)))) else (none)) = some (r1, r2) := by rw [if_neg (show ¬ (false = true) by decide)] at H; exact H
                clear H
                have H := H1
                clear H1
                by_cases c40 : x11_2.length < 2932031007402
                · rw [if_pos c40] at H
                  have LMc40 := Aside0.mk c40
                  clear c40
                  obtain ⟨y159, hy159⟩ : ∃ y_ : List (S60), y_ = (x11_2 ++ [(⟨a1, (⟨a2_0, a2_1, a2_2⟩ : S23)⟩ : S60)]) := ⟨_, rfl⟩
                  replace H : (if (y159.length : Int) > 16 then (some (([] : List (S60)), 4)) else (some (y159, 0))) = some (r1, r2) := by first | (rw [hy159]; with_reducible exact H) | (have H2_ := (Option.bind_some _ _).symm.trans H; rw [hy159]; with_reducible exact H2_) | (have H2_ := (Option.bind_some _ _).symm.trans H; with_reducible exact H2_) | with_reducible exact H | (rw [hy159]; exact H) | exact H
                  have Ny159 := Aside0.mk hy159
                  clear hy159
                  by_cases c41 : (y159.length : Int) > 16
                  · rw [if_pos c41] at H
                    have c41b0 : decide (16 < (y159.length : Int)) = true := decide_eq_true c41
                    have c41b1 : decide (16 < y159.length) = true := decide_eq_true (by omega)
                    clear c41
                    simp only [Option.some.injEq, Prod.mk.injEq] at H
                    obtain ⟨rfl, rfl⟩ := H
                    have hcz42_0 : wr.cell? ⟨gb140, 0, none⟩ = some (.int .i64 a2_0) := (blk_cell BK140.out 0).trans rfl
                    have hcz42_1 : wr.cell? ⟨gb140, 1, none⟩ = some (.int .i64 a2_1) := (blk_cell BK140.out 1).trans rfl
                    have hcz42_2 : wr.cell? ⟨gb140, 2, none⟩ = some (.string a2_2) := (blk_cell BK140.out 2).trans rfl
                    have hfz42_0 := blk_frozen BK140.out 0
                    have hfz42_1 := blk_frozen BK140.out 1
                    have hfz42_2 := blk_frozen BK140.out 2
                    go_wp2_with (first | ((with_reducible refine gate_builtin (b := .append) (xs := #[.tmp 72, .tmp 76]) rfl ?_); at_builtin; refine Kd.R_append k60 (w0 := w) w.heap.size rfl (.tmp 72) (.tmp 76) 29 60 (.agg #[(.string ⟨#[]⟩), (.int .i64 0), (.int .i64 0), (.string ⟨#[]⟩)]) 48 rfl Tryd.underlying29 info60 rfl (by decide) (by omega) u11 x11_2 (⟨a1, (⟨a2_0, a2_1, a2_2⟩ : S23)⟩ : S60) [.string a1, .int .i64 a2_0, .int .i64 a2_1, .string a2_2] (fun _ => True) (fun _ => False) rfl rfl ?aP (fun _ hk => hk.elim) ?aF ?aO ?aB ?aS ?aL ?_; (case aP => exact k60_mkM _ _ _ (⟨a1, (⟨a2_0, a2_1, a2_2⟩ : S23)⟩ : S60)); (case aB => exact (by repeat (first | (with_reducible first | exact HB.out | apply below_alloc | apply pw_below_drewN | apply below_drew1 | refine below_set ?_ GE140.out) | exact HB.out))); (case aF => exact (fun _ _ => trivial)); (case aO => exact (by (with_reducible repeat (first | apply Kd.R_alloc | apply Kd.R_drewN | apply Kd.R_drew)); exact HO_11.out)); (case aS => exact (below_size (by repeat (first | (with_reducible first | exact HB.out | apply below_alloc | apply pw_below_drewN | apply below_drew1 | refine below_set ?_ GE140.out) | exact HB.out)))); (case aL => have := LMc40.out; omega); intro v160 w43 ho hb hg hat; rw [← Ny159.out] at ho; have n0_ := Aside0.mk (blk_grown (g := gb140) (o := .cells #[.int .i64 a2_0, .int .i64 a2_1, .string a2_2] 23 (0, 0)) (by (with_reducible repeat (first | refine blk_drewN ?_ _ | refine blk_drew ?_ | refine blk_alloc ?_ _)); exact BK140.out) hg (Kd.R_ne HO_11.out BK140.out (by decide))); have n1_ := Aside0.mk (hb); have n2_ := Aside0.mk (ho); clear BK140; clear HB; clear HO_11; have BK140 := n0_; have HB := n1_; have HO161 := n2_; clear n0_ n1_ n2_; clear ho hb hg hat; obtain ⟨Ao44, co44, eo44⟩ := Kd.R_slice HO161.out; subst eo44))
                    go_ret2
                    exact ⟨_, by first | rfl | (simp [errW_none, errW_some] <;> rfl) | (simp [*, errW_none, errW_some] <;> rfl), by first | exact Kd.R_nil _ _ _ _ _ | exact Kd.N_nil _ _ _ _ _ | exact Kd.V_nil _ _ _ _ _ | exact Kd.Q_nil _ _ _ _ _ | exact Kd.S_nil _ _ _ _ _, by repeat (first | (with_reducible first | exact HB.out | apply below_alloc | apply pw_below_drewN | apply below_drew1 | refine below_set ?_ GE140.out) | exact HB.out)⟩
                  · rw [if_neg c41] at H
                    have c41b0 : decide (16 < (y159.length : Int)) = false := decide_eq_false c41
                    have c41b1 : decide (16 < y159.length) = false := decide_eq_false (by omega)
                    clear c41
                    simp only [Option.some.injEq, Prod.mk.injEq] at H
                    obtain ⟨rfl, rfl⟩ := H
                    have hcz45_0 : wr.cell? ⟨gb140, 0, none⟩ = some (.int .i64 a2_0) := (blk_cell BK140.out 0).trans rfl
                    have hcz45_1 : wr.cell? ⟨gb140, 1, none⟩ = some (.int .i64 a2_1) := (blk_cell BK140.out 1).trans rfl
                    have hcz45_2 : wr.cell? ⟨gb140, 2, none⟩ = some (.string a2_2) := (blk_cell BK140.out 2).trans rfl
                    have hfz45_0 := blk_frozen BK140.out 0
                    have hfz45_1 := blk_frozen BK140.out 1
                    have hfz45_2 := blk_frozen BK140.out 2
                    go_wp2_with (first | ((with_reducible refine gate_builtin (b := .append) (xs := #[.tmp 72, .tmp 76]) rfl ?_); at_builtin; refine Kd.R_append k60 (w0 := w) w.heap.size rfl (.tmp 72) (.tmp 76) 29 60 (.agg #[(.string ⟨#[]⟩), (.int .i64 0), (.int .i64 0), (.string ⟨#[]⟩)]) 48 rfl Tryd.underlying29 info60 rfl (by decide) (by omega) u11 x11_2 (⟨a1, (⟨a2_0, a2_1, a2_2⟩ : S23)⟩ : S60) [.string a1, .int .i64 a2_0, .int .i64 a2_1, .string a2_2] (fun _ => True) (fun _ => False) rfl rfl ?aP (fun _ hk => hk.elim) ?aF ?aO ?aB ?aS ?aL ?_; (case aP => exact k60_mkM _ _ _ (⟨a1, (⟨a2_0, a2_1, a2_2⟩ : S23)⟩ : S60)); (case aB => exact (by repeat (first | (with_reducible first | exact HB.out | apply below_alloc | apply pw_below_drewN | apply below_drew1 | refine below_set ?_ GE140.out) | exact HB.out))); (case aF => exact (fun _ _ => trivial)); (case aO => exact (by (with_reducible repeat (first | apply Kd.R_alloc | apply Kd.R_drewN | apply Kd.R_drew)); exact HO_11.out)); (case aS => exact (below_size (by repeat (first | (with_reducible first | exact HB.out | apply below_alloc | apply pw_below_drewN | apply below_drew1 | refine below_set ?_ GE140.out) | exact HB.out)))); (case aL => have := LMc40.out; omega); intro v160 w46 ho hb hg hat; rw [← Ny159.out] at ho; have n0_ := Aside0.mk (blk_grown (g := gb140) (o := .cells #[.int .i64 a2_0, .int .i64 a2_1, .string a2_2] 23 (0, 0)) (by (with_reducible repeat (first | refine blk_drewN ?_ _ | refine blk_drew ?_ | refine blk_alloc ?_ _)); exact BK140.out) hg (Kd.R_ne HO_11.out BK140.out (by decide))); have n1_ := Aside0.mk (hb); have n2_ := Aside0.mk (ho); clear BK140; clear HB; clear HO_11; have BK140 := n0_; have HB := n1_; have HO161 := n2_; clear n0_ n1_ n2_; clear ho hb hg hat; obtain ⟨Ao47, co47, eo47⟩ := Kd.R_slice HO161.out; subst eo47))
                    go_ret2
                    exact ⟨_, by first | rfl | (simp [errW_none, errW_some] <;> rfl) | (simp [*, errW_none, errW_some] <;> rfl), by (with_reducible repeat (first | apply Kd.R_alloc | apply Kd.R_drewN | apply Kd.R_drew)); exact HO161.out, by repeat (first | (with_reducible first | exact HB.out | apply below_alloc | apply pw_below_drewN | apply below_drew1 | refine below_set ?_ GE140.out) | exact HB.out)⟩
                · rw [if_neg c40] at H
                  exact absurd H (by simp)
def wherryref09_Same.l0 : Nat → List (S60) → List (S60) → Int → Option (Bool)
  | 0, _, _, _ => none
  | k + 1, x0, x1, x5 => if x5 < (x0.length : Int) then (if 0 ≤ x5 then (if x5 < (x1.length : Int) then (if (!((((rd_T60 x0 x5).f0).toList) == (((rd_T60 x1 x5).f0).toList)) || ((!(((rd_T60 x0 x5).f1.f0) == ((rd_T60 x1 x5).f1.f0)) || (!(((rd_T60 x0 x5).f1.f1) == ((rd_T60 x1 x5).f1.f1)) || (!((((rd_T60 x0 x5).f1.f2).toList) == (((rd_T60 x1 x5).f1.f2).toList))))))) = true then (some false) else (wherryref09_Same.l0 k x0 x1 (wrap64 (x5 + 1)))) else (none)) else (none)) else (some true)
def wherryref09_Same.f (k : Nat) (l0 : List (S60)) (l1 : List (S60)) : Option (Bool) := if (l0.length : Int) = (l1.length : Int) then (wherryref09_Same.l0 k l0 l1 0) else (some false)
theorem wherryref09_Same.mono_l : ∀ k, (∀ y0 y1 y2, LeO (wherryref09_Same.l0 k y0 y1 y2) (wherryref09_Same.l0 (k + 1) y0 y1 y2))
  | 0 => fun _ _ _ r h => by simp [wherryref09_Same.l0] at h
  | k + 1 => by
    have ih0 := wherryref09_Same.mono_l k
    · intro y0 y1 y2
      unfold wherryref09_Same.l0
      repeat' first
      | (with_reducible exact ih0 _ _ _)
      | (with_reducible exact LeO.refl _)
      | (with_reducible exact LeO.none _)
      | (with_reducible refine LeO.ite ?_ ?_)
      | (with_reducible refine LeO.bind ?_ (fun _ => ?_))
      | exact ih0 _ _ _
      | exact LeO.none _
      | refine LeO.ite ?_ ?_
      | refine LeO.bind ?_ (fun _ => ?_)
theorem wherryref09_Same.mono : ∀ a0 a1 k, LeO (wherryref09_Same.f k a0 a1) (wherryref09_Same.f (k + 1) a0 a1) := by
  intro a0 a1 k
  have ih0 := wherryref09_Same.mono_l k
  unfold wherryref09_Same.f
  repeat' first
      | (with_reducible exact ih0 _ _ _)
      | (with_reducible exact LeO.refl _)
      | (with_reducible exact LeO.none _)
      | (with_reducible refine LeO.ite ?_ ?_)
      | (with_reducible refine LeO.bind ?_ (fun _ => ?_))
      | exact ih0 _ _ _
      | exact LeO.none _
      | refine LeO.ite ?_ ?_
      | refine LeO.bind ?_ (fun _ => ?_)
set_option maxHeartbeats 8000000 in
set_option maxRecDepth 100000 in
theorem wherryref09_Same.calls (k : Nat) (A0 : Option Addr) (c0 : Nat) (l0 : List (S60)) (A1 : Option Addr) (c1 : Nat) (l1 : List (S60)) (r : Bool) (w : World) (hr0 : Kd.C k60 w A0 l0.length l0) (hc0 : l0.length ≤ c0) (hr1 : Kd.C k60 w A1 l1.length l1) (hc1 : l1.length ≤ c1) (h : wherryref09_Same.f k l0 l1 = some r) :
    Calls Tryd.prog 17 #[.slice A0 l0.length c0, .slice A1 l1.length c1] w fun e w' => e = .returned (.bool r) ∧ Drawn0 w w' := by
  have hu60 := Tryd.underlying60
  have HR0 := Aside0.mk hr0
  have HC0 := Aside0.mk hc0
  clear hr0 hc0
  have HR1 := Aside0.mk hr1
  have HC1 := Aside0.mk hc1
  clear hr1 hc1
  have H : (if (l0.length : Int) = (l1.length : Int) then (wherryref09_Same.l0 k l0 l1 0) else (some false)) = some r := h
  clear h
  by_cases c3 : (l0.length : Int) = (l1.length : Int)
  · rw [if_pos c3] at H
    have c3b0 : ((l0.length : Int) == (l1.length : Int)) = true := beq_iff_eq.mpr c3
    have c3b1 : ((l0.length : Int) != (l1.length : Int)) = false := bne_eq_false_iff_eq.mpr c3
    have c3b2 : (l0.length == l1.length) = true := by first | simpa using c3 | (simp at c3 ⊢; omega)
    clear c3
    have H' := Aside0.mk H
    clear H
    go_enter Tryd.func17, Tryd.ntmps17
    go_wp2
    repeat (go_quiet (fail); try go_wp2)
    go_loopg [5] k (fun kq v5 w' => ∃ (x5_1 : Int), v5 = .int .i64 x5_1 ∧ Aside0 (wherryref09_Same.l0 kq l0 l1 x5_1 = some r) ∧ Aside0 (kq ≤ k) ∧ Drawn0 w w')
    case atStart => exact ⟨(0), (by first | rfl | (simp; done) | (simp [*]; done)), H', ⟨Nat.le_refl _⟩, by repeat (first | exact Drawn0.refl _ | apply Drawn0.step)⟩
    case round =>
      clear H'
      try clear c1
      try clear p2
      try clear c3
      try clear c3b0
      try clear c3b1
      try clear c3b2
      obtain ⟨x5_1, rfl, HA, HK1, ⟨m1, rfl⟩⟩ := hrel
      cases gk with
      | zero => exact absurd HA.out (by simp [wherryref09_Same.l0])
      | succ k1 =>
        have H := HA.out
        clear HA
        simp only [wherryref09_Same.l0] at H
        by_cases c4 : x5_1 < (l0.length : Int)
        · rw [if_pos c4] at H
          have c4b0 : decide (x5_1 < (l0.length : Int)) = true := decide_eq_true c4
          clear c4
          by_cases c5 : 0 ≤ x5_1
          · rw [if_pos c5] at H
            have c5b0 : decide (0 ≤ x5_1) = true := decide_eq_true c5
            clear c5
            by_cases c6 : x5_1 < (l1.length : Int)
            · rw [if_pos c6] at H
              have c6b0 : decide (x5_1 < (l1.length : Int)) = true := decide_eq_true c6
              clear c6
              by_cases c7 : (!((((rd_T60 l0 x5_1).f0).toList) == (((rd_T60 l1 x5_1).f0).toList)) || ((!(((rd_T60 l0 x5_1).f1.f0) == ((rd_T60 l1 x5_1).f1.f0)) || (!(((rd_T60 l0 x5_1).f1.f1) == ((rd_T60 l1 x5_1).f1.f1)) || (!((((rd_T60 l0 x5_1).f1.f2).toList) == (((rd_T60 l1 x5_1).f1.f2).toList))))))) = true
              · rw [if_pos c7] at H
                have c7b0 : (!((((rd_T60 l0 x5_1).f0).toList) == (((rd_T60 l1 x5_1).f0).toList)) || ((!(((rd_T60 l0 x5_1).f1.f0) == ((rd_T60 l1 x5_1).f1.f0)) || (!(((rd_T60 l0 x5_1).f1.f1) == ((rd_T60 l1 x5_1).f1.f1)) || (!((((rd_T60 l0 x5_1).f1.f2).toList) == (((rd_T60 l1 x5_1).f1.f2).toList))))))) = true := c7
                clear c7
                obtain rfl := Option.some.inj H
                have p162 : 0 ≤ (x5_1 : Int) := of_decide_eq_true (by first | (with_reducible assumption) | assumption)
                have q162 : x5_1 < (l0.length : Int) := of_decide_eq_true (by first | (with_reducible assumption) | assumption)
                obtain ⟨ad162, e162, hx162_0, hx162_1, hx162_2, hx162_3⟩ := at_T60 HR0.out x5_1 p162 q162
                cases e162
                replace p162 := eq_true p162
                replace q162 := eq_true q162
                have p163 : 0 ≤ (x5_1 : Int) := of_decide_eq_true (by first | (with_reducible assumption) | assumption)
                have q163 : x5_1 < (l1.length : Int) := of_decide_eq_true (by first | (with_reducible assumption) | assumption)
                obtain ⟨ad163, e163, hx163_0, hx163_1, hx163_2, hx163_3⟩ := at_T60 HR1.out x5_1 p163 q163
                cases e163
                replace p163 := eq_true p163
                replace q163 := eq_true q163
                go_wp2
                repeat (go_quiet (fail); try go_wp2)
                go_ret
                exact ⟨by first | rfl | (simp; done) | (simp [*]; done), by repeat (first | exact Drawn0.refl _ | apply Drawn0.step)⟩
              · rw [if_neg c7] at H
                have c7b0 : (!((((rd_T60 l0 x5_1).f0).toList) == (((rd_T60 l1 x5_1).f0).toList)) || ((!(((rd_T60 l0 x5_1).f1.f0) == ((rd_T60 l1 x5_1).f1.f0)) || (!(((rd_T60 l0 x5_1).f1.f1) == ((rd_T60 l1 x5_1).f1.f1)) || (!((((rd_T60 l0 x5_1).f1.f2).toList) == (((rd_T60 l1 x5_1).f1.f2).toList))))))) = false := by simpa using c7
                clear c7
                have H' := Aside0.mk H
                clear H
                have p162 : 0 ≤ (x5_1 : Int) := of_decide_eq_true (by first | (with_reducible assumption) | assumption)
                have q162 : x5_1 < (l0.length : Int) := of_decide_eq_true (by first | (with_reducible assumption) | assumption)
                obtain ⟨ad162, e162, hx162_0, hx162_1, hx162_2, hx162_3⟩ := at_T60 HR0.out x5_1 p162 q162
                cases e162
                replace p162 := eq_true p162
                replace q162 := eq_true q162
                have p163 : 0 ≤ (x5_1 : Int) := of_decide_eq_true (by first | (with_reducible assumption) | assumption)
                have q163 : x5_1 < (l1.length : Int) := of_decide_eq_true (by first | (with_reducible assumption) | assumption)
                obtain ⟨ad163, e163, hx163_0, hx163_1, hx163_2, hx163_3⟩ := at_T60 HR1.out x5_1 p163 q163
                cases e163
                replace p163 := eq_true p163
                replace q163 := eq_true q163
                go_wp2
                repeat (go_quiet (fail); try go_wp2)
                go_roundg k1
                case measure => have := HK1.out; omega
                case rel => exact ⟨(wrap64 (x5_1 + 1)), (by first | rfl | (simp; done) | (simp [*]; done)), H', ⟨by have := HK1.out; omega⟩, by repeat (first | exact Drawn0.refl _ | apply Drawn0.step)⟩
            · rw [if_neg c6] at H
              exact absurd H (by simp)
          · rw [if_neg c5] at H
            exact absurd H (by simp)
        · rw [if_neg c4] at H
          have c4b0 : decide (x5_1 < (l0.length : Int)) = false := decide_eq_false c4
          clear c4
          obtain rfl := Option.some.inj H
          go_wp2
          repeat (go_quiet (fail); try go_wp2)
          go_ret
          exact ⟨by first | rfl | (simp; done) | (simp [*]; done), by repeat (first | exact Drawn0.refl _ | apply Drawn0.step)⟩
  · rw [if_neg c3] at H
    have c3b0 : ((l0.length : Int) == (l1.length : Int)) = false := beq_eq_false_iff_ne.mpr c3
    have c3b1 : ((l0.length : Int) != (l1.length : Int)) = true := bne_iff_ne.mpr c3
    have c3b2 : (l0.length == l1.length) = false := by first | simpa using c3 | (simp at c3 ⊢; omega)
    obtain rfl := Option.some.inj H
    go_enter Tryd.func17, Tryd.ntmps17
    go_wp2
    repeat (go_quiet (fail); try go_wp2)
    go_ret
    exact ⟨by first | rfl | (simp; done) | (simp [*]; done), by repeat (first | exact Drawn0.refl _ | apply Drawn0.step)⟩
def value_Get.f (l0 : List (S60)) (a1 : ByteArray) : Option (Int × Int × ByteArray × Bool) := some ((getOut a1 (l0.map toVar)).1.k, (getOut a1 (l0.map toVar)).1.n, (getOut a1 (l0.map toVar)).1.s, (getOut a1 (l0.map toVar)).2)
theorem value_Get.calls (A0 : Option Addr) (c0 : Nat) (l0 : List (S60)) (a1 : ByteArray) (r1 : Int) (r2 : Int) (r3 : ByteArray) (r4 : Bool) (w : World) (hr0 : Kd.C k60 w A0 l0.length l0) (hc0 : l0.length ≤ c0) (h : value_Get.f l0 a1 = some (r1, r2, r3, r4)) :
    Calls Tryd.prog 18 #[.slice A0 l0.length c0, .string a1] w fun e w' => e = .returned (.tuple #[.agg #[.int .i64 r1, .int .i64 r2, .string r3], .bool r4]) ∧ Below w.heap.size w w' := by
  unfold value_Get.f at h
  simp only [Option.some.injEq, Prod.mk.injEq] at h
  obtain ⟨rfl, rfl, rfl, rfl⟩ := h
  exact val_Get A0 l0.length c0 a1 (l0.map toVar) w (by simp) hc0 (Kd.C_max hr0) (readsV_of_C hr0)
def wherryref09_Get.l0 : Nat → List (S60) → ByteArray → Int → Option (Int × Int × ByteArray × Bool)
  | 0, _, _, _ => none
  | k + 1, x0, x1, x6 => if x6 < (x0.length : Int) then (if 0 ≤ x6 then (if ((rd_T60 x0 x6).f0).toList = x1.toList then (some ((rd_T60 x0 x6).f1.f0, (rd_T60 x0 x6).f1.f1, (rd_T60 x0 x6).f1.f2, true)) else (wherryref09_Get.l0 k x0 x1 (wrap64 (x6 + 1)))) else (none)) else (some (0, 0, (⟨#[]⟩ : ByteArray), false))
def wherryref09_Get.f (k : Nat) (l0 : List (S60)) (a1 : ByteArray) : Option (Int × Int × ByteArray × Bool) := wherryref09_Get.l0 k l0 a1 0
theorem wherryref09_Get.mono_l : ∀ k, (∀ y0 y1 y2, LeO (wherryref09_Get.l0 k y0 y1 y2) (wherryref09_Get.l0 (k + 1) y0 y1 y2))
  | 0 => fun _ _ _ r h => by simp [wherryref09_Get.l0] at h
  | k + 1 => by
    have ih0 := wherryref09_Get.mono_l k
    · intro y0 y1 y2
      unfold wherryref09_Get.l0
      repeat' first
      | (with_reducible exact ih0 _ _ _)
      | (with_reducible exact LeO.refl _)
      | (with_reducible exact LeO.none _)
      | (with_reducible refine LeO.ite ?_ ?_)
      | (with_reducible refine LeO.bind ?_ (fun _ => ?_))
      | exact ih0 _ _ _
      | exact LeO.none _
      | refine LeO.ite ?_ ?_
      | refine LeO.bind ?_ (fun _ => ?_)
theorem wherryref09_Get.mono : ∀ a0 a1 k, LeO (wherryref09_Get.f k a0 a1) (wherryref09_Get.f (k + 1) a0 a1) := by
  intro a0 a1 k
  have ih0 := wherryref09_Get.mono_l k
  unfold wherryref09_Get.f
  repeat' first
      | (with_reducible exact ih0 _ _ _)
      | (with_reducible exact LeO.refl _)
      | (with_reducible exact LeO.none _)
      | (with_reducible refine LeO.ite ?_ ?_)
      | (with_reducible refine LeO.bind ?_ (fun _ => ?_))
      | exact ih0 _ _ _
      | exact LeO.none _
      | refine LeO.ite ?_ ?_
      | refine LeO.bind ?_ (fun _ => ?_)
set_option maxHeartbeats 8000000 in
set_option maxRecDepth 100000 in
theorem wherryref09_Get.calls (k : Nat) (A0 : Option Addr) (c0 : Nat) (l0 : List (S60)) (a1 : ByteArray) (r1 : Int) (r2 : Int) (r3 : ByteArray) (r4 : Bool) (w : World) (hr0 : Kd.C k60 w A0 l0.length l0) (hc0 : l0.length ≤ c0) (h : wherryref09_Get.f k l0 a1 = some (r1, r2, r3, r4)) :
    Calls Tryd.prog 19 #[.slice A0 l0.length c0, .string a1] w fun e w' => e = .returned (.tuple #[.agg #[.int .i64 r1, .int .i64 r2, .string r3], .bool r4]) ∧ Below w.heap.size w w' := by
  have hu23 := Tryd.underlying23
  have HR0 := Aside0.mk hr0
  have HC0 := Aside0.mk hc0
  clear hr0 hc0
  have HB := Aside0.mk (Below.refl w.heap.size w)
  have H : (wherryref09_Get.l0 k l0 a1 0) = some (r1, r2, r3, r4) := h
  clear h
  have H' := Aside0.mk H
  clear H
  go_enter Tryd.func19, Tryd.ntmps19
  go_wp2_with (first | ((with_reducible refine gate_dst (N := 4) rfl ?_); refine box_event ?hg (N := 4) ?hd (cs := #[.int .i64 0, .int .i64 0, .string (⟨#[]⟩ : ByteArray)]) (t := 23) ?hr ?_; (case hd => rfl); (case hg => rfl); (case hr => first | (go_simp; done) | (go_simp; rfl)); intro gb164 hg w3 hbox hb; have n0_ := Aside0.mk (below_step (by repeat (first | (with_reducible first | exact HB.out | apply below_alloc | apply pw_below_drewN | apply below_drew1) | exact HB.out)) hb); have n1_ := Aside0.mk (hbox); have n2_ := Aside0.mk ((by rw [hg]; exact (below_size (by repeat (first | (with_reducible first | exact HB.out | apply below_alloc | apply pw_below_drewN | apply below_drew1) | exact HB.out))) : w.heap.size ≤ gb164)); have n3_ := Aside0.mk ((by rw [hg]; exact (below_size (by repeat (first | (with_reducible first | exact HB.out | apply below_alloc | apply pw_below_drewN | apply below_drew1) | exact HB.out))) : w.heap.size ≤ gb164)); clear HB; have HB := n0_; have BK164 := n1_; have GW164 := n2_; have GE164 := n3_; clear n0_ n1_ n2_ n3_; clear hb hbox hg))
  go_loopg [6] k (fun kq v6 w' => ∃ (x6_1 : Int) (x165000_1 : Int) (x165001_1 : Int) (x165002_1 : ByteArray), v6 = .int .i64 x6_1 ∧ Aside0 (wherryref09_Get.l0 kq l0 a1 x6_1 = some (r1, r2, r3, r4)) ∧ Aside0 (kq ≤ k) ∧ Aside0 (w'.heap[gb164]? = some (.cells #[.int .i64 x165000_1, .int .i64 x165001_1, .string x165002_1] 23 (0, 0))) ∧ Aside0 (Below w.heap.size w w'))
  case atStart => exact ⟨(0), (0), (0), ((⟨#[]⟩ : ByteArray)), (by first | rfl | (simp; done) | (simp [*]; done)), H', ⟨Nat.le_refl _⟩, ⟨by (with_reducible repeat (first | refine blk_drewN ?_ _ | refine blk_drew ?_ | refine blk_alloc ?_ _)); exact BK164.out⟩, ⟨by repeat (first | (with_reducible first | exact HB.out | apply below_alloc | apply pw_below_drewN | apply below_drew1 | refine below_set ?_ GE164.out) | exact HB.out)⟩⟩
  case round =>
    clear H'
    try clear c1
    try clear p2
    obtain ⟨x6_1, x165000_1, x165001_1, x165002_1, rfl, HA, HK1, BK164, HB⟩ := hrel
    cases gk with
    | zero => exact absurd HA.out (by simp [wherryref09_Get.l0])
    | succ k1 =>
      have H := HA.out
      clear HA
      simp only [wherryref09_Get.l0] at H
      by_cases c4 : x6_1 < (l0.length : Int)
      · rw [if_pos c4] at H
        have c4b0 : decide (x6_1 < (l0.length : Int)) = true := decide_eq_true c4
        clear c4
        by_cases c5 : 0 ≤ x6_1
        · rw [if_pos c5] at H
          have c5b0 : decide (0 ≤ x6_1) = true := decide_eq_true c5
          clear c5
          by_cases c6 : ((rd_T60 l0 x6_1).f0).toList = a1.toList
          · rw [if_pos c6] at H
            have c6b0 : (((rd_T60 l0 x6_1).f0).toList == a1.toList) = true := beq_iff_eq.mpr c6
            have c6b1 : (((rd_T60 l0 x6_1).f0).toList != a1.toList) = false := bne_eq_false_iff_eq.mpr c6
            clear c6
            simp only [Option.some.injEq, Prod.mk.injEq] at H
            obtain ⟨rfl, rfl, rfl, rfl⟩ := H
            have p165 : 0 ≤ (x6_1 : Int) := of_decide_eq_true (by first | (with_reducible assumption) | assumption)
            have q165 : x6_1 < (l0.length : Int) := of_decide_eq_true (by first | (with_reducible assumption) | assumption)
            obtain ⟨ad165, e165, hx165_0, hx165_1, hx165_2, hx165_3⟩ := at_T60 HR0.out x6_1 p165 q165
            cases e165
            replace hx165_0 := (HB.out.cell (World.block_lt_of_cell? w _ hx165_0)).trans hx165_0
            replace hx165_1 := (HB.out.cell (World.block_lt_of_cell? w _ hx165_1)).trans hx165_1
            replace hx165_2 := (HB.out.cell (World.block_lt_of_cell? w _ hx165_2)).trans hx165_2
            replace hx165_3 := (HB.out.cell (World.block_lt_of_cell? w _ hx165_3)).trans hx165_3
            replace p165 := eq_true p165
            replace q165 := eq_true q165
            have p166 : 0 ≤ (x6_1 : Int) := of_decide_eq_true (by first | (with_reducible assumption) | assumption)
            have q166 : x6_1 < (l0.length : Int) := of_decide_eq_true (by first | (with_reducible assumption) | assumption)
            obtain ⟨ad166, e166, hx166_0, hx166_1, hx166_2, hx166_3⟩ := at_T60 HR0.out x6_1 p166 q166
            obtain rfl : ad165 = ad166 := (by injection e166)
            replace hx166_0 := (HB.out.cell (World.block_lt_of_cell? w _ hx166_0)).trans hx166_0
            replace hx166_1 := (HB.out.cell (World.block_lt_of_cell? w _ hx166_1)).trans hx166_1
            replace hx166_2 := (HB.out.cell (World.block_lt_of_cell? w _ hx166_2)).trans hx166_2
            replace hx166_3 := (HB.out.cell (World.block_lt_of_cell? w _ hx166_3)).trans hx166_3
            replace p166 := eq_true p166
            replace q166 := eq_true q166
            have hcz7_0 : wr.cell? ⟨gb164, 0, none⟩ = some (.int .i64 x165000_1) := (blk_cell BK164.out 0).trans rfl
            have hcz7_1 : wr.cell? ⟨gb164, 1, none⟩ = some (.int .i64 x165001_1) := (blk_cell BK164.out 1).trans rfl
            have hcz7_2 : wr.cell? ⟨gb164, 2, none⟩ = some (.string x165002_1) := (blk_cell BK164.out 2).trans rfl
            have hfz7_0 := blk_frozen BK164.out 0
            have hfz7_1 := blk_frozen BK164.out 1
            have hfz7_2 := blk_frozen BK164.out 2
            go_wp2
            refine bodyPost_ret (results_ct rfl _ _ gb164 23 #[.int .i64 ((rd_T60 l0 x6_1).f1.f0), .int .i64 ((rd_T60 l0 x6_1).f1.f1), .string ((rd_T60 l0 x6_1).f1.f2)] (0, 0) _ rfl (by (with_reducible repeat (first | refine blk_drewN ?_ _ | refine blk_drew ?_ | refine blk_alloc ?_ _)); refine blk_put (cs := #[.int .i64 ((rd_T60 l0 x6_1).f1.f0), .int .i64 ((rd_T60 l0 x6_1).f1.f1), .string x165002_1]) ?_ 2 _ rfl; (with_reducible repeat (first | refine blk_drewN ?_ _ | refine blk_drew ?_ | refine blk_alloc ?_ _)); refine blk_put (cs := #[.int .i64 ((rd_T60 l0 x6_1).f1.f0), .int .i64 x165001_1, .string x165002_1]) ?_ 1 _ rfl; (with_reducible repeat (first | refine blk_drewN ?_ _ | refine blk_drew ?_ | refine blk_alloc ?_ _)); refine blk_put (cs := #[.int .i64 x165000_1, .int .i64 x165001_1, .string x165002_1]) ?_ 0 _ rfl; (with_reducible repeat (first | refine blk_drewN ?_ _ | refine blk_drew ?_ | refine blk_alloc ?_ _)); exact BK164.out) Tryd.underlying23 rfl (by kernel_rfl)) rfl ?_
            exact ⟨by first | rfl | (simp [errW_none, errW_some] <;> rfl) | (simp [*, errW_none, errW_some] <;> rfl), by repeat (first | (with_reducible first | exact HB.out | apply below_alloc | apply pw_below_drewN | apply below_drew1 | refine below_set ?_ GE164.out) | exact HB.out)⟩
          · rw [if_neg c6] at H
            have c6b0 : (((rd_T60 l0 x6_1).f0).toList == a1.toList) = false := beq_eq_false_iff_ne.mpr c6
            have c6b1 : (((rd_T60 l0 x6_1).f0).toList != a1.toList) = true := bne_iff_ne.mpr c6
            have H' := Aside0.mk H
            clear H
            have p165 : 0 ≤ (x6_1 : Int) := of_decide_eq_true (by first | (with_reducible assumption) | assumption)
            have q165 : x6_1 < (l0.length : Int) := of_decide_eq_true (by first | (with_reducible assumption) | assumption)
            obtain ⟨ad165, e165, hx165_0, hx165_1, hx165_2, hx165_3⟩ := at_T60 HR0.out x6_1 p165 q165
            cases e165
            replace hx165_0 := (HB.out.cell (World.block_lt_of_cell? w _ hx165_0)).trans hx165_0
            replace hx165_1 := (HB.out.cell (World.block_lt_of_cell? w _ hx165_1)).trans hx165_1
            replace hx165_2 := (HB.out.cell (World.block_lt_of_cell? w _ hx165_2)).trans hx165_2
            replace hx165_3 := (HB.out.cell (World.block_lt_of_cell? w _ hx165_3)).trans hx165_3
            replace p165 := eq_true p165
            replace q165 := eq_true q165
            go_wp2
            go_roundg k1
            case measure => have := HK1.out; omega
            case rel => exact ⟨(wrap64 (x6_1 + 1)), (x165000_1), (x165001_1), (x165002_1), (by first | rfl | (simp; done) | (simp [*]; done)), H', ⟨by have := HK1.out; omega⟩, ⟨by (with_reducible repeat (first | refine blk_drewN ?_ _ | refine blk_drew ?_ | refine blk_alloc ?_ _)); exact BK164.out⟩, ⟨by repeat (first | (with_reducible first | exact HB.out | apply below_alloc | apply pw_below_drewN | apply below_drew1 | refine below_set ?_ GE164.out) | exact HB.out)⟩⟩
        · rw [if_neg c5] at H
          exact absurd H (by simp)
      · rw [if_neg c4] at H
        have c4b0 : decide (x6_1 < (l0.length : Int)) = false := decide_eq_false c4
        clear c4
        simp only [Option.some.injEq, Prod.mk.injEq] at H
        obtain ⟨rfl, rfl, rfl, rfl⟩ := H
        have hcz8_0 : wr.cell? ⟨gb164, 0, none⟩ = some (.int .i64 x165000_1) := (blk_cell BK164.out 0).trans rfl
        have hcz8_1 : wr.cell? ⟨gb164, 1, none⟩ = some (.int .i64 x165001_1) := (blk_cell BK164.out 1).trans rfl
        have hcz8_2 : wr.cell? ⟨gb164, 2, none⟩ = some (.string x165002_1) := (blk_cell BK164.out 2).trans rfl
        have hfz8_0 := blk_frozen BK164.out 0
        have hfz8_1 := blk_frozen BK164.out 1
        have hfz8_2 := blk_frozen BK164.out 2
        go_wp2
        refine bodyPost_ret (results_ct rfl _ _ gb164 23 #[.int .i64 0, .int .i64 0, .string (⟨#[]⟩ : ByteArray)] (0, 0) _ rfl (by (with_reducible repeat (first | refine blk_drewN ?_ _ | refine blk_drew ?_ | refine blk_alloc ?_ _)); refine blk_put (cs := #[.int .i64 0, .int .i64 0, .string x165002_1]) ?_ 2 _ rfl; (with_reducible repeat (first | refine blk_drewN ?_ _ | refine blk_drew ?_ | refine blk_alloc ?_ _)); refine blk_put (cs := #[.int .i64 0, .int .i64 x165001_1, .string x165002_1]) ?_ 1 _ rfl; (with_reducible repeat (first | refine blk_drewN ?_ _ | refine blk_drew ?_ | refine blk_alloc ?_ _)); refine blk_put (cs := #[.int .i64 x165000_1, .int .i64 x165001_1, .string x165002_1]) ?_ 0 _ rfl; (with_reducible repeat (first | refine blk_drewN ?_ _ | refine blk_drew ?_ | refine blk_alloc ?_ _)); exact BK164.out) Tryd.underlying23 rfl (by kernel_rfl)) rfl ?_
        exact ⟨by first | rfl | (simp [errW_none, errW_some] <;> rfl) | (simp [*, errW_none, errW_some] <;> rfl), by repeat (first | (with_reducible first | exact HB.out | apply below_alloc | apply pw_below_drewN | apply below_drew1 | refine below_set ?_ GE164.out) | exact HB.out)⟩
end Go.Proofs.YthhgfdejadbigaaDoor.GA
/-
  Chapter 9: what the references print, as plain functions: right, same, get.
-/
set_option linter.unusedVariables false
set_option linter.unusedSimpArgs false
namespace Go.Proofs.YthhgfdejadbigaaDoor.GA
open Go.RowKit Go.Proofs.YthhgfdejadbigaaDoorW.PrintWords Go.Proofs.YthhgfdejadbigaaDoorW.PrintLast Go.Proofs.YthhgfdejadbigaaDoorW.PrintMore
theorem rdT {l : List (S60)} {i : Nat} (h : i < l.length) : rd_T60 l (i : Int) = l[i] := by
  unfold rd_T60
  rw [Int.toNat_natCast, List.getD_eq_getElem?_getD, List.getElem?_eq_getElem h]; rfl
def prevN (l : List (S60)) (i : Nat) : Option ByteArray := if i = 0 then none else (l[i - 1]?).map fun x => x.f0
theorem right_l0 (l : List (S60)) (hw : ∀ x ∈ l, x.f0.size ≤ 9223372036854775807) (hl : l.length ≤ 9223372036854775807) : ∀ (d k i : Nat), l.length - i = d → i ≤ l.length → 100 + 2 * d ≤ k → (∀ x, 0 < i → l[i - 1]? = some x → x.f0.size ≤ 32) →
    wherryref09_Right.l0 k l (i : Int) = some (Base.rightFrom (prevN l i) ((l.map toVar).drop i)) := by
  intro d
  induction d with
  | zero =>
    intro k i hd h1 hk _
    obtain ⟨k, rfl⟩ : ∃ m, k = m + 1 := ⟨k - 1, by omega⟩
    simp only [wherryref09_Right.l0]
    rw [if_neg (by omega), List.drop_eq_nil_of_le (by simp; omega)]
    unfold Base.rightFrom; rfl
  | succ d ih =>
    intro k i hd h1 hk hp
    obtain ⟨k, rfl⟩ : ∃ m, k = m + 1 + 1 := ⟨k - 2, by omega⟩
    have hi : i < l.length := by omega
    have hx := hw l[i] (List.getElem_mem hi)
    have hdr : (l.map toVar).drop i = toVar l[i] :: (l.map toVar).drop (i + 1) := by
      rw [List.drop_eq_getElem_cons (by simpa using hi)]; simp
    simp only [wherryref09_Right.l0]
    rw [if_pos (by omega), if_pos (by omega), rdT hi, named_k hx (by omega), may_f, hdr]
    simp only [Option.bind_some]
    have hm : Base.mayV l[i].f1.f0 l[i].f1.f1 l[i].f1.f2 = (toVar l[i]).v.may := rfl
    have hn : Base.named l[i].f0 = Base.named (toVar l[i]).name := rfl
    unfold Base.rightFrom
    rw [hm, hn]
    cases hN : Base.named (toVar l[i]).name with
    | false =>
      simp only [wherryref09_Right.j1, Bool.false_eq_true, if_false]
      rw [if_pos trivial]; rfl
    | true =>
      cases hM : (toVar l[i]).v.may with
      | false =>
        simp only [wherryref09_Right.j1, if_true, Bool.not_false]
        rfl
      | true =>
        have h32 : l[i].f0.size ≤ 32 := (Base.named_size hN).1
        have hgo := ih k (i + 1) (by omega) (by omega) (by omega) (fun x _ hx => by
          rw [Nat.add_sub_cancel, List.getElem?_eq_getElem hi] at hx
          rw [← Option.some.inj hx]; exact h32)
        have hpn : prevN l (i + 1) = some (toVar l[i]).name := by
          unfold prevN; rw [if_neg (by omega), Nat.add_sub_cancel, List.getElem?_eq_getElem hi]; rfl
        rw [hpn] at hgo
        simp only [wherryref09_Right.j1, if_true, Bool.not_true, Bool.false_eq_true, if_false]
        rw [wrap_nat hi hl, hgo]
        by_cases h0 : i = 0
        · rw [if_neg (by omega)]
          unfold prevN; rw [if_pos h0]; simp
        · have h1' : i - 1 < l.length := by omega
          have hw1 : wrap64 ((i : Int) - 1) = ((i - 1 : Nat) : Int) := by unfold wrap64; omega
          rw [if_pos (by omega), hw1, if_pos (by omega), if_pos (by omega), if_pos (by omega), if_pos (by omega), rdT h1', rdT hi]
          have hps := hp l[i - 1] (by omega) (List.getElem?_eq_getElem h1')
          rw [less_k hps (by omega)]
          unfold prevN
          rw [if_neg h0, List.getElem?_eq_getElem h1']
          simp only [Option.bind_some, Option.map_some]
          cases hL : Base.lessS l[i - 1].f0 l[i].f0 with
          | true =>
            have : Base.lessS l[i - 1].f0 (toVar l[i]).name = true := hL
            simp [this]
          | false =>
            have : Base.lessS l[i - 1].f0 (toVar l[i]).name = false := hL
            simp [this]
theorem right_k {l : List (S60)} (hw : ∀ x ∈ l, x.f0.size ≤ 9223372036854775807) {k : Nat} (hk : 200 ≤ k) : wherryref09_Right.f k l = some (Base.rightV (l.map toVar)) := by
  unfold wherryref09_Right.f Base.rightV
  by_cases h16 : l.length ≤ 16
  · rw [if_neg (by omega)]
    have h := right_l0 l hw (by omega) l.length k 0 (by omega) (by omega) (by omega) (fun x h => absurd h (by omega))
    have h' : wherryref09_Right.l0 k l 0 = some (Base.rightFrom none (l.map toVar)) := by simpa [prevN] using h
    rw [h']; simp [h16]
  · rw [if_pos (by omega)]; simp [h16]
noncomputable instance : DecidableEq Base.GVar := fun _ _ => Classical.propDecidable _
theorem same_l0 (a b : List (S60)) (hl : a.length = b.length) (hb : a.length ≤ 9223372036854775807) : ∀ (d k i : Nat), a.length - i = d → i ≤ a.length → d + 1 ≤ k → wherryref09_Same.l0 k a b (i : Int) = some (decide ((a.map toVar).drop i = (b.map toVar).drop i)) := by
  intro d
  induction d with
  | zero =>
    intro k i hd h1 hk
    obtain ⟨k, rfl⟩ : ∃ m, k = m + 1 := ⟨k - 1, by omega⟩
    simp only [wherryref09_Same.l0]
    rw [if_neg (by omega), List.drop_eq_nil_of_le (by simp; omega), List.drop_eq_nil_of_le (by simp; omega)]
    simp
  | succ d ih =>
    intro k i hd h1 hk
    obtain ⟨k, rfl⟩ : ∃ m, k = m + 1 := ⟨k - 1, by omega⟩
    have hi : i < a.length := by omega
    have hi' : i < b.length := by omega
    simp only [wherryref09_Same.l0]
    rw [if_pos (by omega), if_pos (by omega), if_pos (by omega), rdT hi, rdT hi', wrap_nat hi hb, ih k (i + 1) (by omega) (by omega) (by omega)]
    have e1 : (a.map toVar).drop i = toVar a[i] :: (a.map toVar).drop (i + 1) := by rw [List.drop_eq_getElem_cons (by simpa using hi)]; simp
    have e2 : (b.map toVar).drop i = toVar b[i] :: (b.map toVar).drop (i + 1) := by rw [List.drop_eq_getElem_cons (by simpa using hi')]; simp
    rw [e1, e2]
    generalize a[i] = x
    generalize b[i] = y
    have heq : (toVar x = toVar y) ↔ (x.f0.toList = y.f0.toList ∧ x.f1.f0 = y.f1.f0 ∧ x.f1.f1 = y.f1.f1 ∧ x.f1.f2.toList = y.f1.f2.toList) := by
      constructor
      · intro h
        have h1 := congrArg Base.GVar.name h
        have h2 := congrArg (fun z => z.v.k) h
        have h3 := congrArg (fun z => z.v.n) h
        have h4 := congrArg (fun z => z.v.s) h
        exact ⟨congrArg ByteArray.toList h1, h2, h3, congrArg ByteArray.toList h4⟩
      · rintro ⟨h1, h2, h3, h4⟩
        rw [Base.toList_toL, Base.toList_toL] at h1 h4
        exact Base.GVar.ext (Base.toL_inj h1) (Base.GVal.ext h2 h3 (Base.toL_inj h4))
    by_cases hh : toVar x = toVar y
    · obtain ⟨h1, h2, h3, h4⟩ := heq.1 hh
      rw [if_neg (by simp [h1, h2, h3, h4])]
      simp [hh]
    · have hn : ¬ (x.f0.toList = y.f0.toList ∧ x.f1.f0 = y.f1.f0 ∧ x.f1.f1 = y.f1.f1 ∧ x.f1.f2.toList = y.f1.f2.toList) := fun h => hh (heq.2 h)
      rw [if_pos (by
        by_cases h1 : x.f0.toList = y.f0.toList <;> by_cases h2 : x.f1.f0 = y.f1.f0 <;> by_cases h3 : x.f1.f1 = y.f1.f1 <;> by_cases h4 : x.f1.f2.toList = y.f1.f2.toList <;> simp_all)]
      simp [hh]
theorem same_k {a b : List (S60)} (hb : a.length ≤ 9223372036854775807) {k : Nat} (hk : a.length + 1 ≤ k) : wherryref09_Same.f k a b = some (decide (a.map toVar = b.map toVar)) := by
  unfold wherryref09_Same.f
  by_cases hl : a.length = b.length
  · rw [if_pos (by omega)]
    have h := same_l0 a b hl hb a.length k 0 (by omega) (by omega) (by omega)
    simpa using h
  · rw [if_neg (by omega)]
    have : ¬ a.map toVar = b.map toVar := fun h => hl (by have := congrArg List.length h; simpa using this)
    simp [this]
end Go.Proofs.YthhgfdejadbigaaDoor.GA
/-
  Chapter 9: what the references print, as plain functions: get.
-/
set_option linter.unusedVariables false
set_option linter.unusedSimpArgs false
namespace Go.Proofs.YthhgfdejadbigaaDoor.GA
open Go.RowKit Go.Proofs.YthhgfdejadbigaaDoorW.PrintWords Go.Proofs.YthhgfdejadbigaaDoorW.PrintLast Go.Proofs.YthhgfdejadbigaaDoorW.PrintMore
end Go.Proofs.YthhgfdejadbigaaDoor.GA
/-
  Chapter 9: what the reference's Put prints is the plain list.
-/
set_option linter.unusedVariables false
set_option linter.unusedSimpArgs false
namespace Go.Proofs.YthhgfdejadbigaaDoor.GA
open Go.RowKit Go.Proofs.YthhgfdejadbigaaDoorW.PrintWords Go.Proofs.YthhgfdejadbigaaDoorW.PrintLast Go.Proofs.YthhgfdejadbigaaDoorW.PrintMore
theorem posV_le (name : ByteArray) (l : List Base.GVar) : Base.posV name l ≤ l.length := by unfold Base.posV; exact (List.takeWhile_prefix _).length_le
theorem posV_lt (name : ByteArray) : ∀ (l : List Base.GVar) (j : Nat) (h : j < l.length), j < Base.posV name l → Base.lessS l[j].name name = true
  | [], j, h, _ => by simp at h
  | x :: r, j, h, hp => by
    unfold Base.posV at hp
    by_cases hx : Base.cmpS x.name name < 0
    · rw [List.takeWhile_cons_of_pos (by simpa using hx), List.length_cons] at hp
      cases j with
      | zero => exact (Base.lessS_cmp _ _).1 hx
      | succ j => exact posV_lt name r j (by simpa using h) (by unfold Base.posV; omega)
    · rw [List.takeWhile_cons_of_neg (by simpa using hx)] at hp
      simp at hp
theorem posV_at (name : ByteArray) : ∀ (l : List Base.GVar) (h : Base.posV name l < l.length), ¬ Base.cmpS l[Base.posV name l].name name < 0
  | [], h => by simp at h
  | x :: r, h => by
    by_cases hx : Base.cmpS x.name name < 0
    · have e : Base.posV name (x :: r) = Base.posV name r + 1 := by unfold Base.posV; rw [List.takeWhile_cons_of_pos (by simpa using hx), List.length_cons]
      have h' : Base.posV name r < r.length := by rw [e] at h; simpa using h
      have := posV_at name r h'
      simp only [e, List.getElem_cons_succ]; exact this
    · have e : Base.posV name (x :: r) = 0 := by unfold Base.posV; rw [List.takeWhile_cons_of_neg (by simpa using hx)]; rfl
      simp only [e, List.getElem_cons_zero]; exact hx
end Go.Proofs.YthhgfdejadbigaaDoor.GA
