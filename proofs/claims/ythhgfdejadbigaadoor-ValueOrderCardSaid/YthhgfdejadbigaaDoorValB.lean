/-
  The walks of value: Bytes, Right.
-/
import Derived.Test.YthhgfdejadbigaaDoorVal
set_option linter.unusedVariables false
set_option linter.unusedSimpArgs false
namespace Go.Proofs.YthhgfdejadbigaaDoor
open Go Go.RowKit Go.Proofs.Base
open Go.Sort (grow)

set_option maxRecDepth 100000 in
set_option maxHeartbeats 1000000 in
theorem val_Bytes (k n : Int) (s : ByteArray) (w : World) (hk : i64 k) (hn : i64 n) (hs : okS s) :
    Calls Tryd.prog 12 #[.agg #[.int .i64 k, .int .i64 n, .string s]] w fun e w' => e = .returned (.string (valB k n s)) ∧ Below w.heap.size w w' := by
  have hcv : ∀ W : World, (convert 62 9 (.slice (some ⟨W.heap.size, 0, none⟩) 1 1)).run Tryd.prog (W.alloc (.cells #[.int .u8 (k % 256)] 5)) = .ok (.string (ofN [(k % 256).toNat])) (W.alloc (.cells #[.int .u8 (k % 256)] 5)) := fun W => by
    have h := lit_string (P := Tryd.prog) Tryd.underlying62 Tryd.underlying5 Tryd.underlying9 W [(k % 256).toNat] 1 rfl (by omega)
    have e : nums8 [(k % 256).toNat] = [.int .u8 (k % 256)] := by simp [nums8]; omega
    rw [e] at h
    exact h
  have hcv := hcv (w.alloc (.cells #[.int .i64 k, .int .i64 n, .string s] 23))
  rw [World.size_alloc] at hcv
  have hM := fun W => val_May k n s W
  have hbb : Below w.heap.size w ((w.alloc (.cells #[.int .i64 k, .int .i64 n, .string s] 23)).alloc (.cells #[.int .u8 (k % 256)] 5)) := ((Below.refl _ _).alloc (Nat.le_refl _) _).alloc (by simp) _
  have HB := Lib.hid hbb
  clear hbb
  by_cases hm : mayV k n s = true
  · obtain ⟨hk3, hs1⟩ := mayV_k hm
    have hv : valB k n s = ofN [k.toNat] ++ (if k = 3 then textB s else intB n) := by rw [valB, if_pos hm]
    have ek : (k % 256).toNat = k.toNat := by omega
    rw [ek] at hcv
    simp only [hm] at hM
    have HM := Lib.hid hM
    clear hM hm ek
    by_cases h3 : k = 3
    · rw [if_pos h3] at hv
      have h3b := beq_t h3
      have HV := Lib.hid hv
      have hsz : ¬ 9223372036854775807 < (ofN [k.toNat]).size + (textB s).size := by
        have := uintB_size (v := s.size) (by omega)
        rw [ofN_size, textB, ByteArray.size_append]
        simp
        omega
      clear hv hk3 h3
      go_enter Tryd.func12, Tryd.ntmps12
      go_wp2_with (first | (go_at_call 22; refine (HM.out _).mono ?_; rintro e w1 ⟨rfl, hb1⟩; have hc1 := (bcell hb1).1; have hz1 := hb1.size; simp only [World.size_alloc] at hc1 hz1) | (go_at_call 35; refine (wire_Text _ _ (by omega)).mono ?_; rintro e w2 ⟨rfl, hb2⟩))
      go_ret
      exact ⟨by rw [HV.out]; rfl, below2 (below2 HB.out hb1) hb2⟩
    · rw [if_neg h3] at hv
      have h3b := beq_f h3
      have HV := Lib.hid hv
      have hsz : ¬ 9223372036854775807 < (ofN [k.toNat]).size + (intB n).size := by
        have := intB_size hn.1 hn.2
        rw [ofN_size]
        simp
        omega
      clear hv hk3 h3
      go_enter Tryd.func12, Tryd.ntmps12
      go_wp2_with (first | (go_at_call 22; refine (HM.out _).mono ?_; rintro e w1 ⟨rfl, hb1⟩; have hc1 := (bcell hb1).1; have hz1 := hb1.size; simp only [World.size_alloc] at hc1 hz1) | (go_at_call 36; refine (wire_Int _ _ hn.1 hn.2).mono ?_; rintro e w2 ⟨rfl, hb2⟩))
      go_ret
      exact ⟨by rw [HV.out]; rfl, below2 (below2 HB.out hb1) hb2⟩
  · have hm : mayV k n s = false := by simpa using hm
    have hv : valB k n s = ByteArray.empty := by rw [valB, hm]; rfl
    simp only [hm] at hM
    have HM := Lib.hid hM
    have HV := Lib.hid hv
    clear hM hm hv
    go_enter Tryd.func12, Tryd.ntmps12
    go_wp2_with (go_at_call 22; refine (HM.out _).mono ?_; rintro e w1 ⟨rfl, hb1⟩)
    go_ret
    exact ⟨by rw [HV.out]; rfl, below2 HB.out hb1⟩

set_option maxHeartbeats 1000000 in
theorem val_Right (S : Nat → Prop) (l : List GVar) (n : Nat) (v : Value) (w : World) (hl : l.length = n) (hr : Row w S 4 n v (varCells l)) (hw : ∀ x ∈ l, x.wf) :
    Calls Tryd.prog 21 #[v] w fun e w' => e = .returned (.bool (rightV l)) ∧ Below w.heap.size w w' := by
  obtain ⟨A, c, rfl, hnc, hc⟩ := hr.open_
  by_cases h16 : n ≤ 16
  · have hm : rightV l = rightFrom none (l.drop 0) := by simp [rightV, hl, h16]
    have HM := Lib.hid hm
    have Hl := Lib.hid hl
    have Hr := Lib.hid hr
    have Hw := Lib.hid hw
    clear hm hl hr hw
    go_enter Tryd.func21, Tryd.ntmps21
    have hd : decide ((16 : Int) < n) = false := by simp; omega
    go_wp2_with fail
    go_loopw [3, 4, 10] (fun _ _ i wr => ∃ k : Nat, k ≤ n ∧ i = .int .i64 k ∧ Hid (rightV l = rightFrom (if k = 0 then none else (l[k - 1]?).map GVar.name) (l.drop k)) ∧ Below w.heap.size w wr) (fun _ _ i _ => n - (intOf i).toNat)
    case atStart => exact ⟨0, Nat.zero_le _, rfl, HM, Below.refl _ _⟩
    case round =>
      obtain ⟨k, hk, rfl, HK, HB⟩ := hrel
      by_cases hlt : k < n
      · have hkl : k < l.length := by rw [Hl.out]; exact hlt
        obtain ⟨b, o, rfl, hSb, hbl, hcell⟩ := Hr.out.at_ (by omega)
        obtain ⟨e0, e1, e2, e3⟩ := varCells_at hkl
        have c0 := (HB.cell (p := ⟨b, o + k * 4 + 0, none⟩) hbl).trans (hcell k 0 _ e0)
        have c1 := (HB.cell (p := ⟨b, o + k * 4 + 1, none⟩) hbl).trans (hcell k 1 _ e1)
        have c2 := (HB.cell (p := ⟨b, o + k * 4 + 2, none⟩) hbl).trans (hcell k 2 _ e2)
        have c3 := (HB.cell (p := ⟨b, o + k * 4 + 3, none⟩) hbl).trans (hcell k 3 _ e3)
        rw [Nat.add_zero] at c0
        have hwx := Hw.out _ (List.getElem_mem hkl)
        have hq := HK.out
        rw [List.drop_eq_getElem_cons hkl] at hq
        have hp1 : 0 < k → ∃ y, l[k - 1]? = some y ∧ w.cell? ⟨b, o + (k - 1) * 4, none⟩ = some (.string y.name) := fun h => by
          have h1 : k - 1 < l.length := by omega
          exact ⟨l[k - 1], List.getElem?_eq_getElem h1, by have := hcell (k - 1) 0 _ (varCells_at h1).1; simpa using this⟩
        have hx := List.getElem?_eq_getElem hkl
        generalize l[k] = x at *
        have HX := Lib.hid hx
        clear hx
        have HQ := Lib.hid hq
        have HCell := Lib.hid hcell
        have HP1 := Lib.hid hp1
        clear hq HK hcell hp1 e0 e1 e2 e3 hkl
        by_cases hN : named x.name = true
        · by_cases hM : mayV x.v.k x.v.n x.v.s = true
          · rcases Nat.eq_zero_or_pos k with hk0 | hk0
            · have hd0 : decide ((0 : Int) < k) = false := by simp; omega
              have hd1 : decide (0 < k) = false := by simp; omega
              have HK0 := Lib.hid hk0
              have hq2 : rightV l = rightFrom (if k + 1 = 0 then none else (l[k + 1 - 1]?).map GVar.name) (l.drop (k + 1)) := by
                have h0 : l[k]? = some x := HX.out
                rw [HQ.out, if_pos hk0, if_neg (by omega), Nat.add_sub_cancel, h0]; simp [rightFrom, hN, GVal.may, hM]
              have HQ2 := Lib.hid hq2
              clear hq2 HQ HM HX HP1 hk0
              have cN := fun d os => Calls.regrown_of (val_Named x.name (grow (redrawn (wr.alloc (.cells #[.string x.name, .int .i64 x.v.k, .int .i64 x.v.n, .string x.v.s] 60)) d) os) (by have := hwx.1; unfold okS at this; omega))
              simp only [hN] at cN
              have cM := fun d os => Calls.regrown_of (val_May x.v.k x.v.n x.v.s (grow (redrawn (wr.alloc (.cells #[.string x.name, .int .i64 x.v.k, .int .i64 x.v.n, .string x.v.s] 60)) d) os))
              simp only [hM] at cM
              have kx0 := cell_regrown (w := (wr.alloc (.cells #[.string x.name, .int .i64 x.v.k, .int .i64 x.v.n, .string x.v.s] 60))) (a := ⟨wr.heap.size, 0, none⟩) (v := .string x.name) (by simp)
              have kx1 := cell_regrown (w := (wr.alloc (.cells #[.string x.name, .int .i64 x.v.k, .int .i64 x.v.n, .string x.v.s] 60))) (a := ⟨wr.heap.size, 1, none⟩) (v := .int .i64 x.v.k) (by simp)
              have kx2 := cell_regrown (w := (wr.alloc (.cells #[.string x.name, .int .i64 x.v.k, .int .i64 x.v.n, .string x.v.s] 60))) (a := ⟨wr.heap.size, 2, none⟩) (v := .int .i64 x.v.n) (by simp)
              have kx3 := cell_regrown (w := (wr.alloc (.cells #[.string x.name, .int .i64 x.v.k, .int .i64 x.v.n, .string x.v.s] 60))) (a := ⟨wr.heap.size, 3, none⟩) (v := .string x.v.s) (by simp)
              go_wp2_with fail
              refine wp_region_quiet_below (by kernel_rfl) (by kernel_rfl) ?_
              repeat (first | go_big_quiet_step ((first | exact cN _ _ | exact cM _ _)) | quiet_step ((first | exact cN _ _ | exact cM _ _)))
              refine wpQuiet_nil ?_
              intro _ hw'
              obtain ⟨⟨dq, osq⟩, hw''⟩ := hw'
              subst hw''
              have hbq := below_regrown (wr.alloc (.cells #[.string x.name, .int .i64 x.v.k, .int .i64 x.v.n, .string x.v.s] 60)) dq osq
              have HB2 : Below w.heap.size w (grow (redrawn (wr.alloc (.cells #[.string x.name, .int .i64 x.v.k, .int .i64 x.v.n, .string x.v.s] 60)) dq) osq) := below2 (below_alloc HB _) hbq
              go_wp2_with fail
              go_roundw
              case rel => exact ⟨k + 1, by omega, by go_num, HQ2, HB2⟩
              case measure => simp [intOf]; omega
            · obtain ⟨y, hy, cp⟩ := HP1.out hk0
              have cp := (HB.cell (p := ⟨b, o + (k - 1) * 4, none⟩) hbl).trans cp
              have hp9 : (if k = 0 then none else (l[k - 1]?).map GVar.name) = some y.name := by rw [if_neg (by omega), hy]; rfl
              have HP9 := Lib.hid hp9
              clear hp9 hy
              by_cases hL : lessS y.name x.name = true
              · have hq2 : rightV l = rightFrom (if k + 1 = 0 then none else (l[k + 1 - 1]?).map GVar.name) (l.drop (k + 1)) := by
                  have h0 : l[k]? = some x := HX.out
                  rw [HQ.out, HP9.out]; simp [rightFrom, hN, GVal.may, hM, h0, hL]
                have HQ2 := Lib.hid hq2
                unfold lessS at hL
                clear hq2 HQ HM HX HP1 HP9
                have cN := fun d os => Calls.regrown_of (val_Named x.name (grow (redrawn (wr.alloc (.cells #[.string x.name, .int .i64 x.v.k, .int .i64 x.v.n, .string x.v.s] 60)) d) os) (by have := hwx.1; unfold okS at this; omega))
                simp only [hN] at cN
                have cM := fun d os => Calls.regrown_of (val_May x.v.k x.v.n x.v.s (grow (redrawn (wr.alloc (.cells #[.string x.name, .int .i64 x.v.k, .int .i64 x.v.n, .string x.v.s] 60)) d) os))
                simp only [hM] at cM
                have kx0 := cell_regrown (w := (wr.alloc (.cells #[.string x.name, .int .i64 x.v.k, .int .i64 x.v.n, .string x.v.s] 60))) (a := ⟨wr.heap.size, 0, none⟩) (v := .string x.name) (by simp)
                have kx1 := cell_regrown (w := (wr.alloc (.cells #[.string x.name, .int .i64 x.v.k, .int .i64 x.v.n, .string x.v.s] 60))) (a := ⟨wr.heap.size, 1, none⟩) (v := .int .i64 x.v.k) (by simp)
                have kx2 := cell_regrown (w := (wr.alloc (.cells #[.string x.name, .int .i64 x.v.k, .int .i64 x.v.n, .string x.v.s] 60))) (a := ⟨wr.heap.size, 2, none⟩) (v := .int .i64 x.v.n) (by simp)
                have kx3 := cell_regrown (w := (wr.alloc (.cells #[.string x.name, .int .i64 x.v.k, .int .i64 x.v.n, .string x.v.s] 60))) (a := ⟨wr.heap.size, 3, none⟩) (v := .string x.v.s) (by simp)
                have kp := cell_regrown (w := (wr.alloc (.cells #[.string x.name, .int .i64 x.v.k, .int .i64 x.v.n, .string x.v.s] 60))) (a := ⟨b, o + (k - 1) * 4, none⟩) (v := .string y.name) (by rw [World.cell?_alloc_lt _ _ _ (by have := HB.size; show b < _; omega)]; exact cp)
                go_wp2_with fail
                refine wp_region_quiet_below (by kernel_rfl) (by kernel_rfl) ?_
                repeat (first | go_big_quiet_step ((first | exact cN _ _ | exact cM _ _)) | quiet_step ((first | exact cN _ _ | exact cM _ _)))
                refine wpQuiet_nil ?_
                intro _ hw'
                obtain ⟨⟨dq, osq⟩, hw''⟩ := hw'
                subst hw''
                have hbq := below_regrown (wr.alloc (.cells #[.string x.name, .int .i64 x.v.k, .int .i64 x.v.n, .string x.v.s] 60)) dq osq
                have HB2 : Below w.heap.size w (grow (redrawn (wr.alloc (.cells #[.string x.name, .int .i64 x.v.k, .int .i64 x.v.n, .string x.v.s] 60)) dq) osq) := below2 (below_alloc HB _) hbq
                go_wp2_with fail
                go_roundw
                case rel => exact ⟨k + 1, by omega, by go_num, HQ2, HB2⟩
                case measure => simp [intOf]; omega
              · have hL : lessS y.name x.name = false := by simpa using hL
                have hm : rightV l = false := by rw [HQ.out, HP9.out]; simp [rightFrom, hL]
                have HM2 := Lib.hid hm
                unfold lessS at hL
                clear hm HQ HM HX HP1 HP9
                have cN := fun d os => Calls.regrown_of (val_Named x.name (grow (redrawn (wr.alloc (.cells #[.string x.name, .int .i64 x.v.k, .int .i64 x.v.n, .string x.v.s] 60)) d) os) (by have := hwx.1; unfold okS at this; omega))
                simp only [hN] at cN
                have cM := fun d os => Calls.regrown_of (val_May x.v.k x.v.n x.v.s (grow (redrawn (wr.alloc (.cells #[.string x.name, .int .i64 x.v.k, .int .i64 x.v.n, .string x.v.s] 60)) d) os))
                simp only [hM] at cM
                have kx0 := cell_regrown (w := (wr.alloc (.cells #[.string x.name, .int .i64 x.v.k, .int .i64 x.v.n, .string x.v.s] 60))) (a := ⟨wr.heap.size, 0, none⟩) (v := .string x.name) (by simp)
                have kx1 := cell_regrown (w := (wr.alloc (.cells #[.string x.name, .int .i64 x.v.k, .int .i64 x.v.n, .string x.v.s] 60))) (a := ⟨wr.heap.size, 1, none⟩) (v := .int .i64 x.v.k) (by simp)
                have kx2 := cell_regrown (w := (wr.alloc (.cells #[.string x.name, .int .i64 x.v.k, .int .i64 x.v.n, .string x.v.s] 60))) (a := ⟨wr.heap.size, 2, none⟩) (v := .int .i64 x.v.n) (by simp)
                have kx3 := cell_regrown (w := (wr.alloc (.cells #[.string x.name, .int .i64 x.v.k, .int .i64 x.v.n, .string x.v.s] 60))) (a := ⟨wr.heap.size, 3, none⟩) (v := .string x.v.s) (by simp)
                have kp := cell_regrown (w := (wr.alloc (.cells #[.string x.name, .int .i64 x.v.k, .int .i64 x.v.n, .string x.v.s] 60))) (a := ⟨b, o + (k - 1) * 4, none⟩) (v := .string y.name) (by rw [World.cell?_alloc_lt _ _ _ (by have := HB.size; show b < _; omega)]; exact cp)
                go_wp2_with fail
                refine wp_region_quiet_below (by kernel_rfl) (by kernel_rfl) ?_
                repeat (first | go_big_quiet_step ((first | exact cN _ _ | exact cM _ _)) | quiet_step ((first | exact cN _ _ | exact cM _ _)))
                refine wpQuiet_nil ?_
                intro _ hw'
                obtain ⟨⟨dq, osq⟩, hw''⟩ := hw'
                subst hw''
                have hbq := below_regrown (wr.alloc (.cells #[.string x.name, .int .i64 x.v.k, .int .i64 x.v.n, .string x.v.s] 60)) dq osq
                have HB2 : Below w.heap.size w (grow (redrawn (wr.alloc (.cells #[.string x.name, .int .i64 x.v.k, .int .i64 x.v.n, .string x.v.s] 60)) dq) osq) := below2 (below_alloc HB _) hbq
                go_wp2_with fail
                go_ret
                exact ⟨by rw [HM2.out]; rfl, HB2⟩
          · have hM : mayV x.v.k x.v.n x.v.s = false := by simpa using hM
            have hm : rightV l = false := by rw [HQ.out]; simp [rightFrom, GVal.may, hM]
            have HM2 := Lib.hid hm
            clear hm HQ HM
            have cN := fun d os => Calls.regrown_of (val_Named x.name (grow (redrawn (wr.alloc (.cells #[.string x.name, .int .i64 x.v.k, .int .i64 x.v.n, .string x.v.s] 60)) d) os) (by have := hwx.1; unfold okS at this; omega))
            simp only [hN] at cN
            have cM := fun d os => Calls.regrown_of (val_May x.v.k x.v.n x.v.s (grow (redrawn (wr.alloc (.cells #[.string x.name, .int .i64 x.v.k, .int .i64 x.v.n, .string x.v.s] 60)) d) os))
            simp only [hM] at cM
            have kx0 := cell_regrown (w := (wr.alloc (.cells #[.string x.name, .int .i64 x.v.k, .int .i64 x.v.n, .string x.v.s] 60))) (a := ⟨wr.heap.size, 0, none⟩) (v := .string x.name) (by simp)
            have kx1 := cell_regrown (w := (wr.alloc (.cells #[.string x.name, .int .i64 x.v.k, .int .i64 x.v.n, .string x.v.s] 60))) (a := ⟨wr.heap.size, 1, none⟩) (v := .int .i64 x.v.k) (by simp)
            have kx2 := cell_regrown (w := (wr.alloc (.cells #[.string x.name, .int .i64 x.v.k, .int .i64 x.v.n, .string x.v.s] 60))) (a := ⟨wr.heap.size, 2, none⟩) (v := .int .i64 x.v.n) (by simp)
            have kx3 := cell_regrown (w := (wr.alloc (.cells #[.string x.name, .int .i64 x.v.k, .int .i64 x.v.n, .string x.v.s] 60))) (a := ⟨wr.heap.size, 3, none⟩) (v := .string x.v.s) (by simp)
            go_wp2_with fail
            refine wp_region_quiet_below (by kernel_rfl) (by kernel_rfl) ?_
            repeat (first | go_big_quiet_step ((first | exact cN _ _ | exact cM _ _)) | quiet_step ((first | exact cN _ _ | exact cM _ _)))
            refine wpQuiet_nil ?_
            intro _ hw'
            obtain ⟨⟨dq, osq⟩, hw''⟩ := hw'
            subst hw''
            have hbq := below_regrown (wr.alloc (.cells #[.string x.name, .int .i64 x.v.k, .int .i64 x.v.n, .string x.v.s] 60)) dq osq
            have HB2 : Below w.heap.size w (grow (redrawn (wr.alloc (.cells #[.string x.name, .int .i64 x.v.k, .int .i64 x.v.n, .string x.v.s] 60)) dq) osq) := below2 (below_alloc HB _) hbq
            go_wp2_with fail
            go_ret
            exact ⟨by rw [HM2.out]; rfl, HB2⟩
        · have hN : named x.name = false := by simpa using hN
          have hm : rightV l = false := by rw [HQ.out]; simp [rightFrom, hN]
          have HM2 := Lib.hid hm
          clear hm HQ HM
          have cN := fun d os => Calls.regrown_of (val_Named x.name (grow (redrawn (wr.alloc (.cells #[.string x.name, .int .i64 x.v.k, .int .i64 x.v.n, .string x.v.s] 60)) d) os) (by have := hwx.1; unfold okS at this; omega))
          simp only [hN] at cN
          have kx0 := cell_regrown (w := (wr.alloc (.cells #[.string x.name, .int .i64 x.v.k, .int .i64 x.v.n, .string x.v.s] 60))) (a := ⟨wr.heap.size, 0, none⟩) (v := .string x.name) (by simp)
          have kx1 := cell_regrown (w := (wr.alloc (.cells #[.string x.name, .int .i64 x.v.k, .int .i64 x.v.n, .string x.v.s] 60))) (a := ⟨wr.heap.size, 1, none⟩) (v := .int .i64 x.v.k) (by simp)
          have kx2 := cell_regrown (w := (wr.alloc (.cells #[.string x.name, .int .i64 x.v.k, .int .i64 x.v.n, .string x.v.s] 60))) (a := ⟨wr.heap.size, 2, none⟩) (v := .int .i64 x.v.n) (by simp)
          have kx3 := cell_regrown (w := (wr.alloc (.cells #[.string x.name, .int .i64 x.v.k, .int .i64 x.v.n, .string x.v.s] 60))) (a := ⟨wr.heap.size, 3, none⟩) (v := .string x.v.s) (by simp)
          go_wp2_with fail
          refine wp_region_quiet_below (by kernel_rfl) (by kernel_rfl) ?_
          repeat (first | go_big_quiet_step (exact cN _ _) | quiet_step (exact cN _ _))
          refine wpQuiet_nil ?_
          intro _ hw'
          obtain ⟨⟨dq, osq⟩, hw''⟩ := hw'
          subst hw''
          have hbq := below_regrown (wr.alloc (.cells #[.string x.name, .int .i64 x.v.k, .int .i64 x.v.n, .string x.v.s] 60)) dq osq
          have HB2 : Below w.heap.size w (grow (redrawn (wr.alloc (.cells #[.string x.name, .int .i64 x.v.k, .int .i64 x.v.n, .string x.v.s] 60)) dq) osq) := below2 (below_alloc HB _) hbq
          go_wp2_with fail
          go_ret
          exact ⟨by rw [HM2.out]; rfl, HB2⟩
      · go_wp2_with fail
        go_ret
        have h9 := HK.out
        rw [List.drop_eq_nil_of_le (by rw [Hl.out]; omega)] at h9
        exact ⟨by rw [h9]; rfl, HB⟩
  · have hm : rightV l = false := by simp [rightV, hl, h16]
    have HM := Lib.hid hm
    clear hm hl hr hw
    go_enter Tryd.func21, Tryd.ntmps21
    go_wp2_with fail
    go_ret
    exact ⟨by rw [HM.out]; rfl, Below.refl _ _⟩
end Go.Proofs.YthhgfdejadbigaaDoor
