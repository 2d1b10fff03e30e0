/-
  The walk of value.Right over variables at whatever address. Printed by genrightg.py.
-/
import Derived.Test.YthhgfdejadbigaaDoorVal
import Derived.Test.YthhgfdejadbigaaDoorGen
set_option linter.unusedVariables false
set_option linter.unusedSimpArgs false
namespace Go.Proofs.YthhgfdejadbigaaDoor
open Go Go.RowKit Go.Proofs.Base
open Go.Sort (grow)

set_option maxHeartbeats 1000000 in
theorem val_RightG (A : Option Addr) (n c : Nat) (l : List GVar) (w : World) (hl : l.length = n) (hnc : n ≤ c) (hc : n ≤ 9223372036854775807) (hr : ReadsV w A l) (hw : ∀ x ∈ l, x.wf) :
    Calls Tryd.prog 21 #[.slice A n c] w fun e w' => e = .returned (.bool (rightV l)) ∧ Below w.heap.size w w' := by
  by_cases h16 : n ≤ 16
  · have hm : rightV l = rightFrom none (l.drop 0) := by simp [rightV, hl, h16]
    have HM := Lib.hid hm
    have Hl := Lib.hid hl
    have Hr := Lib.hid hr
    have Hw := Lib.hid hw
    clear hm hl hr hw
    go_enter Tryd.func21, Tryd.ntmps21
    have hd : decide ((16 : Int) < n) = false := by simp; omega
    go_wp2_with fail
    go_loopw [3, 4, 10] (fun _ _ i wr => ∃ k : Nat, k ≤ n ∧ i = .int .i64 k ∧ Hid (rightV l = rightFrom (if k = 0 then none else (l[k - 1]?).map GVar.name) (l.drop k)) ∧ Below w.heap.size w wr) (fun _ _ i _ => n - (intOf i).toNat)
    case atStart => exact ⟨0, Nat.zero_le _, rfl, HM, Below.refl _ _⟩
    case round =>
      obtain ⟨k, hk, rfl, HK, HB⟩ := hrel
      by_cases hlt : k < n
      · have hkl : k < l.length := by rw [Hl.out]; exact hlt
        obtain ⟨ad, rfl, hbl, c0, c1, c2, c3⟩ := Hr.out.below HB k hkl
        have hwx := Hw.out _ (List.getElem_mem hkl)
        have hq := HK.out
        rw [List.drop_eq_getElem_cons hkl] at hq
        have hp1 : 0 < k → ∃ y, l[k - 1]? = some y ∧ wr.cell? (ad.add ((k - 1) * 4)) = some (.string y.name) := fun h => by
          have h1 : k - 1 < l.length := by omega
          obtain ⟨ad', e, _, d0, _⟩ := Hr.out.below HB (k - 1) h1
          injection e with e
          subst e
          exact ⟨l[k - 1], List.getElem?_eq_getElem h1, d0⟩
        have hx := List.getElem?_eq_getElem hkl
        generalize l[k] = x at *
        have HX := Lib.hid hx
        clear hx
        have HQ := Lib.hid hq
        have HP1 := Lib.hid hp1
        clear hq HK hp1 hkl
        by_cases hN : named x.name = true
        · by_cases hM : mayV x.v.k x.v.n x.v.s = true
          · rcases Nat.eq_zero_or_pos k with hk0 | hk0
            · have hd0 : decide ((0 : Int) < k) = false := by simp; omega
              have hd1 : decide (0 < k) = false := by simp; omega
              have HK0 := Lib.hid hk0
              have hq2 : rightV l = rightFrom (if k + 1 = 0 then none else (l[k + 1 - 1]?).map GVar.name) (l.drop (k + 1)) := by
                have h0 : l[k]? = some x := HX.out
                rw [HQ.out, if_pos hk0, if_neg (by omega), Nat.add_sub_cancel, h0]; simp [rightFrom, hN, GVal.may, hM]
              have HQ2 := Lib.hid hq2
              clear hq2 HQ HM HX HP1 hk0
              have cN := fun d os => Calls.regrown_of (val_Named x.name (grow (redrawn (wr.alloc (.cells #[.string x.name, .int .i64 x.v.k, .int .i64 x.v.n, .string x.v.s] 60)) d) os) (by have := hwx.1; unfold okS at this; omega))
              simp only [hN] at cN
              have cM := fun d os => Calls.regrown_of (val_May x.v.k x.v.n x.v.s (grow (redrawn (wr.alloc (.cells #[.string x.name, .int .i64 x.v.k, .int .i64 x.v.n, .string x.v.s] 60)) d) os))
              simp only [hM] at cM
              have kx0 := cell_regrown (w := (wr.alloc (.cells #[.string x.name, .int .i64 x.v.k, .int .i64 x.v.n, .string x.v.s] 60))) (a := ⟨wr.heap.size, 0, none⟩) (v := .string x.name) (by simp)
              have kx1 := cell_regrown (w := (wr.alloc (.cells #[.string x.name, .int .i64 x.v.k, .int .i64 x.v.n, .string x.v.s] 60))) (a := ⟨wr.heap.size, 1, none⟩) (v := .int .i64 x.v.k) (by simp)
              have kx2 := cell_regrown (w := (wr.alloc (.cells #[.string x.name, .int .i64 x.v.k, .int .i64 x.v.n, .string x.v.s] 60))) (a := ⟨wr.heap.size, 2, none⟩) (v := .int .i64 x.v.n) (by simp)
              have kx3 := cell_regrown (w := (wr.alloc (.cells #[.string x.name, .int .i64 x.v.k, .int .i64 x.v.n, .string x.v.s] 60))) (a := ⟨wr.heap.size, 3, none⟩) (v := .string x.v.s) (by simp)
              go_wp2_with fail
              refine wp_region_quiet_below (by kernel_rfl) (by kernel_rfl) ?_
              repeat (first | go_big_quiet_step ((first | exact cN _ _ | exact cM _ _)) | quiet_step ((first | exact cN _ _ | exact cM _ _)))
              refine wpQuiet_nil ?_
              intro _ hw'
              obtain ⟨⟨dq, osq⟩, hw''⟩ := hw'
              subst hw''
              have hbq := below_regrown (wr.alloc (.cells #[.string x.name, .int .i64 x.v.k, .int .i64 x.v.n, .string x.v.s] 60)) dq osq
              have HB2 : Below w.heap.size w (grow (redrawn (wr.alloc (.cells #[.string x.name, .int .i64 x.v.k, .int .i64 x.v.n, .string x.v.s] 60)) dq) osq) := below2 (below_alloc HB _) hbq
              go_wp2_with fail
              go_roundw
              case rel => exact ⟨k + 1, by omega, by go_num, HQ2, HB2⟩
              case measure => simp [intOf]; omega
            · obtain ⟨y, hy, cp⟩ := HP1.out hk0
              have hp9 : (if k = 0 then none else (l[k - 1]?).map GVar.name) = some y.name := by rw [if_neg (by omega), hy]; rfl
              have HP9 := Lib.hid hp9
              clear hp9 hy
              by_cases hL : lessS y.name x.name = true
              · have hq2 : rightV l = rightFrom (if k + 1 = 0 then none else (l[k + 1 - 1]?).map GVar.name) (l.drop (k + 1)) := by
                  have h0 : l[k]? = some x := HX.out
                  rw [HQ.out, HP9.out]; simp [rightFrom, hN, GVal.may, hM, h0, hL]
                have HQ2 := Lib.hid hq2
                unfold lessS at hL
                clear hq2 HQ HM HX HP1 HP9
                have cN := fun d os => Calls.regrown_of (val_Named x.name (grow (redrawn (wr.alloc (.cells #[.string x.name, .int .i64 x.v.k, .int .i64 x.v.n, .string x.v.s] 60)) d) os) (by have := hwx.1; unfold okS at this; omega))
                simp only [hN] at cN
                have cM := fun d os => Calls.regrown_of (val_May x.v.k x.v.n x.v.s (grow (redrawn (wr.alloc (.cells #[.string x.name, .int .i64 x.v.k, .int .i64 x.v.n, .string x.v.s] 60)) d) os))
                simp only [hM] at cM
                have kx0 := cell_regrown (w := (wr.alloc (.cells #[.string x.name, .int .i64 x.v.k, .int .i64 x.v.n, .string x.v.s] 60))) (a := ⟨wr.heap.size, 0, none⟩) (v := .string x.name) (by simp)
                have kx1 := cell_regrown (w := (wr.alloc (.cells #[.string x.name, .int .i64 x.v.k, .int .i64 x.v.n, .string x.v.s] 60))) (a := ⟨wr.heap.size, 1, none⟩) (v := .int .i64 x.v.k) (by simp)
                have kx2 := cell_regrown (w := (wr.alloc (.cells #[.string x.name, .int .i64 x.v.k, .int .i64 x.v.n, .string x.v.s] 60))) (a := ⟨wr.heap.size, 2, none⟩) (v := .int .i64 x.v.n) (by simp)
                have kx3 := cell_regrown (w := (wr.alloc (.cells #[.string x.name, .int .i64 x.v.k, .int .i64 x.v.n, .string x.v.s] 60))) (a := ⟨wr.heap.size, 3, none⟩) (v := .string x.v.s) (by simp)
                have kp := cell_regrown (w := (wr.alloc (.cells #[.string x.name, .int .i64 x.v.k, .int .i64 x.v.n, .string x.v.s] 60))) (a := ad.add ((k - 1) * 4)) (v := .string y.name) (cell_below ((Below.refl _ _).alloc (Nat.le_refl _) _) cp)
                go_wp2_with fail
                refine wp_region_quiet_below (by kernel_rfl) (by kernel_rfl) ?_
                repeat (first | go_big_quiet_step ((first | exact cN _ _ | exact cM _ _)) | quiet_step ((first | exact cN _ _ | exact cM _ _)))
                refine wpQuiet_nil ?_
                intro _ hw'
                obtain ⟨⟨dq, osq⟩, hw''⟩ := hw'
                subst hw''
                have hbq := below_regrown (wr.alloc (.cells #[.string x.name, .int .i64 x.v.k, .int .i64 x.v.n, .string x.v.s] 60)) dq osq
                have HB2 : Below w.heap.size w (grow (redrawn (wr.alloc (.cells #[.string x.name, .int .i64 x.v.k, .int .i64 x.v.n, .string x.v.s] 60)) dq) osq) := below2 (below_alloc HB _) hbq
                go_wp2_with fail
                go_roundw
                case rel => exact ⟨k + 1, by omega, by go_num, HQ2, HB2⟩
                case measure => simp [intOf]; omega
              · have hL : lessS y.name x.name = false := by simpa using hL
                have hm : rightV l = false := by rw [HQ.out, HP9.out]; simp [rightFrom, hL]
                have HM2 := Lib.hid hm
                unfold lessS at hL
                clear hm HQ HM HX HP1 HP9
                have cN := fun d os => Calls.regrown_of (val_Named x.name (grow (redrawn (wr.alloc (.cells #[.string x.name, .int .i64 x.v.k, .int .i64 x.v.n, .string x.v.s] 60)) d) os) (by have := hwx.1; unfold okS at this; omega))
                simp only [hN] at cN
                have cM := fun d os => Calls.regrown_of (val_May x.v.k x.v.n x.v.s (grow (redrawn (wr.alloc (.cells #[.string x.name, .int .i64 x.v.k, .int .i64 x.v.n, .string x.v.s] 60)) d) os))
                simp only [hM] at cM
                have kx0 := cell_regrown (w := (wr.alloc (.cells #[.string x.name, .int .i64 x.v.k, .int .i64 x.v.n, .string x.v.s] 60))) (a := ⟨wr.heap.size, 0, none⟩) (v := .string x.name) (by simp)
                have kx1 := cell_regrown (w := (wr.alloc (.cells #[.string x.name, .int .i64 x.v.k, .int .i64 x.v.n, .string x.v.s] 60))) (a := ⟨wr.heap.size, 1, none⟩) (v := .int .i64 x.v.k) (by simp)
                have kx2 := cell_regrown (w := (wr.alloc (.cells #[.string x.name, .int .i64 x.v.k, .int .i64 x.v.n, .string x.v.s] 60))) (a := ⟨wr.heap.size, 2, none⟩) (v := .int .i64 x.v.n) (by simp)
                have kx3 := cell_regrown (w := (wr.alloc (.cells #[.string x.name, .int .i64 x.v.k, .int .i64 x.v.n, .string x.v.s] 60))) (a := ⟨wr.heap.size, 3, none⟩) (v := .string x.v.s) (by simp)
                have kp := cell_regrown (w := (wr.alloc (.cells #[.string x.name, .int .i64 x.v.k, .int .i64 x.v.n, .string x.v.s] 60))) (a := ad.add ((k - 1) * 4)) (v := .string y.name) (cell_below ((Below.refl _ _).alloc (Nat.le_refl _) _) cp)
                go_wp2_with fail
                refine wp_region_quiet_below (by kernel_rfl) (by kernel_rfl) ?_
                repeat (first | go_big_quiet_step ((first | exact cN _ _ | exact cM _ _)) | quiet_step ((first | exact cN _ _ | exact cM _ _)))
                refine wpQuiet_nil ?_
                intro _ hw'
                obtain ⟨⟨dq, osq⟩, hw''⟩ := hw'
                subst hw''
                have hbq := below_regrown (wr.alloc (.cells #[.string x.name, .int .i64 x.v.k, .int .i64 x.v.n, .string x.v.s] 60)) dq osq
                have HB2 : Below w.heap.size w (grow (redrawn (wr.alloc (.cells #[.string x.name, .int .i64 x.v.k, .int .i64 x.v.n, .string x.v.s] 60)) dq) osq) := below2 (below_alloc HB _) hbq
                go_wp2_with fail
                go_ret
                exact ⟨by rw [HM2.out]; rfl, HB2⟩
          · have hM : mayV x.v.k x.v.n x.v.s = false := by simpa using hM
            have hm : rightV l = false := by rw [HQ.out]; simp [rightFrom, GVal.may, hM]
            have HM2 := Lib.hid hm
            clear hm HQ HM
            have cN := fun d os => Calls.regrown_of (val_Named x.name (grow (redrawn (wr.alloc (.cells #[.string x.name, .int .i64 x.v.k, .int .i64 x.v.n, .string x.v.s] 60)) d) os) (by have := hwx.1; unfold okS at this; omega))
            simp only [hN] at cN
            have cM := fun d os => Calls.regrown_of (val_May x.v.k x.v.n x.v.s (grow (redrawn (wr.alloc (.cells #[.string x.name, .int .i64 x.v.k, .int .i64 x.v.n, .string x.v.s] 60)) d) os))
            simp only [hM] at cM
            have kx0 := cell_regrown (w := (wr.alloc (.cells #[.string x.name, .int .i64 x.v.k, .int .i64 x.v.n, .string x.v.s] 60))) (a := ⟨wr.heap.size, 0, none⟩) (v := .string x.name) (by simp)
            have kx1 := cell_regrown (w := (wr.alloc (.cells #[.string x.name, .int .i64 x.v.k, .int .i64 x.v.n, .string x.v.s] 60))) (a := ⟨wr.heap.size, 1, none⟩) (v := .int .i64 x.v.k) (by simp)
            have kx2 := cell_regrown (w := (wr.alloc (.cells #[.string x.name, .int .i64 x.v.k, .int .i64 x.v.n, .string x.v.s] 60))) (a := ⟨wr.heap.size, 2, none⟩) (v := .int .i64 x.v.n) (by simp)
            have kx3 := cell_regrown (w := (wr.alloc (.cells #[.string x.name, .int .i64 x.v.k, .int .i64 x.v.n, .string x.v.s] 60))) (a := ⟨wr.heap.size, 3, none⟩) (v := .string x.v.s) (by simp)
            go_wp2_with fail
            refine wp_region_quiet_below (by kernel_rfl) (by kernel_rfl) ?_
            repeat (first | go_big_quiet_step ((first | exact cN _ _ | exact cM _ _)) | quiet_step ((first | exact cN _ _ | exact cM _ _)))
            refine wpQuiet_nil ?_
            intro _ hw'
            obtain ⟨⟨dq, osq⟩, hw''⟩ := hw'
            subst hw''
            have hbq := below_regrown (wr.alloc (.cells #[.string x.name, .int .i64 x.v.k, .int .i64 x.v.n, .string x.v.s] 60)) dq osq
            have HB2 : Below w.heap.size w (grow (redrawn (wr.alloc (.cells #[.string x.name, .int .i64 x.v.k, .int .i64 x.v.n, .string x.v.s] 60)) dq) osq) := below2 (below_alloc HB _) hbq
            go_wp2_with fail
            go_ret
            exact ⟨by rw [HM2.out]; rfl, HB2⟩
        · have hN : named x.name = false := by simpa using hN
          have hm : rightV l = false := by rw [HQ.out]; simp [rightFrom, hN]
          have HM2 := Lib.hid hm
          clear hm HQ HM
          have cN := fun d os => Calls.regrown_of (val_Named x.name (grow (redrawn (wr.alloc (.cells #[.string x.name, .int .i64 x.v.k, .int .i64 x.v.n, .string x.v.s] 60)) d) os) (by have := hwx.1; unfold okS at this; omega))
          simp only [hN] at cN
          have kx0 := cell_regrown (w := (wr.alloc (.cells #[.string x.name, .int .i64 x.v.k, .int .i64 x.v.n, .string x.v.s] 60))) (a := ⟨wr.heap.size, 0, none⟩) (v := .string x.name) (by simp)
          have kx1 := cell_regrown (w := (wr.alloc (.cells #[.string x.name, .int .i64 x.v.k, .int .i64 x.v.n, .string x.v.s] 60))) (a := ⟨wr.heap.size, 1, none⟩) (v := .int .i64 x.v.k) (by simp)
          have kx2 := cell_regrown (w := (wr.alloc (.cells #[.string x.name, .int .i64 x.v.k, .int .i64 x.v.n, .string x.v.s] 60))) (a := ⟨wr.heap.size, 2, none⟩) (v := .int .i64 x.v.n) (by simp)
          have kx3 := cell_regrown (w := (wr.alloc (.cells #[.string x.name, .int .i64 x.v.k, .int .i64 x.v.n, .string x.v.s] 60))) (a := ⟨wr.heap.size, 3, none⟩) (v := .string x.v.s) (by simp)
          go_wp2_with fail
          refine wp_region_quiet_below (by kernel_rfl) (by kernel_rfl) ?_
          repeat (first | go_big_quiet_step (exact cN _ _) | quiet_step (exact cN _ _))
          refine wpQuiet_nil ?_
          intro _ hw'
          obtain ⟨⟨dq, osq⟩, hw''⟩ := hw'
          subst hw''
          have hbq := below_regrown (wr.alloc (.cells #[.string x.name, .int .i64 x.v.k, .int .i64 x.v.n, .string x.v.s] 60)) dq osq
          have HB2 : Below w.heap.size w (grow (redrawn (wr.alloc (.cells #[.string x.name, .int .i64 x.v.k, .int .i64 x.v.n, .string x.v.s] 60)) dq) osq) := below2 (below_alloc HB _) hbq
          go_wp2_with fail
          go_ret
          exact ⟨by rw [HM2.out]; rfl, HB2⟩
      · go_wp2_with fail
        go_ret
        have h9 := HK.out
        rw [List.drop_eq_nil_of_le (by rw [Hl.out]; omega)] at h9
        exact ⟨by rw [h9]; rfl, HB⟩
  · have hm : rightV l = false := by simp [rightV, hl, h16]
    have HM := Lib.hid hm
    clear hm hl hr hw
    go_enter Tryd.func21, Tryd.ntmps21
    go_wp2_with fail
    go_ret
    exact ⟨by rw [HM.out]; rfl, Below.refl _ _⟩
end Go.Proofs.YthhgfdejadbigaaDoor
