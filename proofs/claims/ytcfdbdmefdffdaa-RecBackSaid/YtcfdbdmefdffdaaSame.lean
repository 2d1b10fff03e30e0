/-
  The walks of slices.Equal of variables, and of the reference's Same. Printed by gensame.py.
-/
import Derived.Test.YtcfdbdmefdffdaaRecC
import Derived.Test.YtcfdbdmefdffdaaEq
set_option linter.unusedVariables false
set_option linter.unusedSimpArgs false
namespace Go.Proofs.Ytcfdbdmefdffdaa
open Go Go.RowKit Go.Proofs.Base
open Go.Sort (grow)

theorem same_false {l1 l2 : List GVar} {t : Bool} (ht : t = true ↔ l1 = l2) (h : l1 ≠ l2) : t = false := by
  cases t
  · rfl
  · exact absurd (ht.1 rfl) h

set_option maxRecDepth 100000 in
set_option maxHeartbeats 1000000 in
theorem sl_Equal_Var (S : Nat → Prop) (l1 l2 : List GVar) (n m : Nat) (v1 v2 : Value) (t : Bool) (w : World) (hn : l1.length = n) (hm : l2.length = m) (h1 : Row w S 4 n v1 (varCells l1)) (h2 : Row w S 4 m v2 (varCells l2)) (ht : t = true ↔ l1 = l2) :
    Calls Try.prog 23 #[v1, v2] w fun e w' => e = .returned (.bool t) ∧ Below w.heap.size w w' := by
  obtain ⟨A1, c1, rfl, _, _⟩ := h1.open_
  obtain ⟨A2, c2, rfl, _, _⟩ := h2.open_
  by_cases hnm : n = m
  · subst hnm
    have hb := bne_f (a := (n : Int)) (b := (n : Int)) rfl
    have HT := Lib.hid ht
    have H1 := Lib.hid h1
    have H2 := Lib.hid h2
    have Hn := Lib.hid hn
    have Hm := Lib.hid hm
    clear ht h1 h2 hn hm
    go_enter Try.func23, Try.ntmps23
    go_wp2_with fail
    go_loopw [5, 13] (fun _ i wr => ∃ k : Nat, k ≤ n ∧ i = .int .i64 k ∧ Hid (l1.take k = l2.take k) ∧ Below w.heap.size w wr) (fun _ i _ => n - (intOf i).toNat)
    case atStart => exact ⟨0, by omega, rfl, Lib.hid rfl, Below.refl _ _⟩
    case round =>
      obtain ⟨k, hk, rfl, HK, hbl⟩ := hrel
      by_cases hkn : k < n
      · have hk1 : k < l1.length := by rw [Hn.out]; exact hkn
        have hk2 : k < l2.length := by rw [Hm.out]; exact hkn
        obtain ⟨b, o, rfl, _, hlt, hc⟩ := H1.out.at_ (by omega)
        obtain ⟨b', o', rfl, _, hlt', hc'⟩ := H2.out.at_ (by omega)
        obtain ⟨x0, x1, x2, x3⟩ := varCells_at hk1
        obtain ⟨y0, y1, y2, y3⟩ := varCells_at hk2
        have kx0 := (hbl.cell (p := ⟨b, o + k * 4 + 0, none⟩) hlt).trans (hc k 0 _ x0)
        have kx1 := (hbl.cell (p := ⟨b, o + k * 4 + 1, none⟩) hlt).trans (hc k 1 _ x1)
        have kx2 := (hbl.cell (p := ⟨b, o + k * 4 + 2, none⟩) hlt).trans (hc k 2 _ x2)
        have kx3 := (hbl.cell (p := ⟨b, o + k * 4 + 3, none⟩) hlt).trans (hc k 3 _ x3)
        have ky0 := (hbl.cell (p := ⟨b', o' + k * 4 + 0, none⟩) hlt').trans (hc' k 0 _ y0)
        have ky1 := (hbl.cell (p := ⟨b', o' + k * 4 + 1, none⟩) hlt').trans (hc' k 1 _ y1)
        have ky2 := (hbl.cell (p := ⟨b', o' + k * 4 + 2, none⟩) hlt').trans (hc' k 2 _ y2)
        have ky3 := (hbl.cell (p := ⟨b', o' + k * 4 + 3, none⟩) hlt').trans (hc' k 3 _ y3)
        rw [Nat.add_zero] at kx0 ky0
        clear x0 x1 x2 x3 y0 y1 y2 y3 hc hc'
        have Hx : Hid (l1[k]? = some l1[k] ∧ l2[k]? = some l2[k]) := Lib.hid ⟨List.getElem?_eq_getElem hk1, List.getElem?_eq_getElem hk2⟩
        generalize l1[k] = x at *
        generalize l2[k] = y at *
        have qx0 := cell_regrown kx0
        have qx1 := cell_regrown kx1
        have qx2 := cell_regrown kx2
        have qx3 := cell_regrown kx3
        have qy0 := cell_regrown ky0
        have qy1 := cell_regrown ky1
        have qy2 := cell_regrown ky2
        have qy3 := cell_regrown ky3
        clear kx0 kx1 kx2 kx3 ky0 ky1 ky2 ky3 hk1 hk2
        have hg := guard_var
        by_cases hxy : x = y
        · subst hxy
          have hcmp := neq_var_f x
          go_wp2_with fail
          refine wp_region_quiet_below (by kernel_rfl) (by kernel_rfl) ?_
          repeat (first | go_big_quiet_step (fail) | quiet_step (fail))
          refine wpQuiet_nil ?_
          intro _ hw'
          obtain ⟨⟨dq, osq⟩, hw''⟩ := hw'
          subst hw''
          have hbq := below_regrown wr dq osq
          have HB2 := Lib.hid (below2 hbl hbq)
          have HK2 : Hid (l1.take (k + 1) = l2.take (k + 1)) := Lib.hid (by rw [List.take_add_one, List.take_add_one, HK.out, Hx.out.1, Hx.out.2])
          clear hbq hcmp
          go_wp2_with fail
          go_roundw
          case rel => exact ⟨k + 1, by omega, by go_num, HK2, HB2.out⟩
          case measure => simp [intOf]; omega
        · have hcmp := neq_var_t hxy
          have htf : t = false := same_false HT.out (fun hl => hxy (by have h := Hx.out; rw [hl] at h; exact Option.some.inj (h.1.symm.trans h.2)))
          have HTF := Lib.hid htf
          clear hxy htf
          go_wp2_with fail
          refine wp_region_quiet_below (by kernel_rfl) (by kernel_rfl) ?_
          repeat (first | go_big_quiet_step (fail) | quiet_step (fail))
          refine wpQuiet_nil ?_
          intro _ hw'
          obtain ⟨⟨dq, osq⟩, hw''⟩ := hw'
          subst hw''
          have hbq := below_regrown wr dq osq
          have HB2 := Lib.hid (below2 hbl hbq)
          clear hbq hcmp
          go_wp2_with fail
          go_ret
          exact ⟨by rw [HTF.out]; rfl, HB2.out⟩
      · have hkn2 : k = n := by omega
        have htt : t = true := HT.out.2 (by have h := HK.out; rwa [List.take_of_length_le (by rw [Hn.out]; omega), List.take_of_length_le (by rw [Hm.out]; omega)] at h)
        have HTT := Lib.hid htt
        clear htt hkn2
        go_wp2_with fail
        go_ret
        exact ⟨by rw [HTT.out]; rfl, hbl⟩
  · have htf : t = false := same_false ht (fun hl => hnm (by rw [← hn, ← hm, hl]))
    have hb := bne_t (a := (n : Int)) (b := (m : Int)) (by omega)
    have HTF := Lib.hid htf
    clear htf hnm ht h1 h2 hn hm
    go_enter Try.func23, Try.ntmps23
    go_wp2_with fail
    go_ret
    exact ⟨by rw [HTF.out]; rfl, Below.refl _ _⟩

set_option maxRecDepth 100000 in
set_option maxHeartbeats 1000000 in
theorem ref9_Same (S : Nat → Prop) (l1 l2 : List GVar) (n m : Nat) (v1 v2 : Value) (t : Bool) (w : World) (hn : l1.length = n) (hm : l2.length = m) (h1 : Row w S 4 n v1 (varCells l1)) (h2 : Row w S 4 m v2 (varCells l2)) (ht : t = true ↔ l1 = l2) :
    Calls Try.prog 24 #[v1, v2] w fun e w' => e = .returned (.bool t) ∧ Below w.heap.size w w' := by
  obtain ⟨A1, c1, rfl, _, _⟩ := h1.open_
  obtain ⟨A2, c2, rfl, _, _⟩ := h2.open_
  by_cases hnm : n = m
  · subst hnm
    have hb := bne_f (a := (n : Int)) (b := (n : Int)) rfl
    have HT := Lib.hid ht
    have H1 := Lib.hid h1
    have H2 := Lib.hid h2
    have Hn := Lib.hid hn
    have Hm := Lib.hid hm
    clear ht h1 h2 hn hm
    go_enter Try.func24, Try.ntmps24
    go_wp2_with fail
    go_loopw [5] (fun i wr => ∃ k : Nat, k ≤ n ∧ i = .int .i64 k ∧ Hid (l1.take k = l2.take k) ∧ Below w.heap.size w wr) (fun i _ => n - (intOf i).toNat)
    case atStart => exact ⟨0, by omega, rfl, Lib.hid rfl, Below.refl _ _⟩
    case round =>
      obtain ⟨k, hk, rfl, HK, hbl⟩ := hrel
      by_cases hkn : k < n
      · have hk1 : k < l1.length := by rw [Hn.out]; exact hkn
        have hk2 : k < l2.length := by rw [Hm.out]; exact hkn
        obtain ⟨b, o, rfl, _, hlt, hc⟩ := H1.out.at_ (by omega)
        obtain ⟨b', o', rfl, _, hlt', hc'⟩ := H2.out.at_ (by omega)
        obtain ⟨x0, x1, x2, x3⟩ := varCells_at hk1
        obtain ⟨y0, y1, y2, y3⟩ := varCells_at hk2
        have kx0 := (hbl.cell (p := ⟨b, o + k * 4 + 0, none⟩) hlt).trans (hc k 0 _ x0)
        have kx1 := (hbl.cell (p := ⟨b, o + k * 4 + 1, none⟩) hlt).trans (hc k 1 _ x1)
        have kx2 := (hbl.cell (p := ⟨b, o + k * 4 + 2, none⟩) hlt).trans (hc k 2 _ x2)
        have kx3 := (hbl.cell (p := ⟨b, o + k * 4 + 3, none⟩) hlt).trans (hc k 3 _ x3)
        have ky0 := (hbl.cell (p := ⟨b', o' + k * 4 + 0, none⟩) hlt').trans (hc' k 0 _ y0)
        have ky1 := (hbl.cell (p := ⟨b', o' + k * 4 + 1, none⟩) hlt').trans (hc' k 1 _ y1)
        have ky2 := (hbl.cell (p := ⟨b', o' + k * 4 + 2, none⟩) hlt').trans (hc' k 2 _ y2)
        have ky3 := (hbl.cell (p := ⟨b', o' + k * 4 + 3, none⟩) hlt').trans (hc' k 3 _ y3)
        rw [Nat.add_zero] at kx0 ky0
        clear x0 x1 x2 x3 y0 y1 y2 y3 hc hc'
        have Hx : Hid (l1[k]? = some l1[k] ∧ l2[k]? = some l2[k]) := Lib.hid ⟨List.getElem?_eq_getElem hk1, List.getElem?_eq_getElem hk2⟩
        generalize l1[k] = x at *
        generalize l2[k] = y at *
        have qx0 := cell_regrown kx0
        have qx1 := cell_regrown kx1
        have qx2 := cell_regrown kx2
        have qx3 := cell_regrown kx3
        have qy0 := cell_regrown ky0
        have qy1 := cell_regrown ky1
        have qy2 := cell_regrown ky2
        have qy3 := cell_regrown ky3
        clear kx0 kx1 kx2 kx3 ky0 ky1 ky2 ky3 hk1 hk2
        have hg := guard_var
        by_cases hxy : x = y
        · subst hxy
          have hcmp := neq_var_f x
          go_wp2_with fail
          refine wp_region_quiet_below (by kernel_rfl) (by kernel_rfl) ?_
          repeat (first | go_big_quiet_step (fail) | quiet_step (fail))
          refine wpQuiet_nil ?_
          intro _ hw'
          obtain ⟨⟨dq, osq⟩, hw''⟩ := hw'
          subst hw''
          have hbq := below_regrown wr dq osq
          have HB2 := Lib.hid (below2 hbl hbq)
          have HK2 : Hid (l1.take (k + 1) = l2.take (k + 1)) := Lib.hid (by rw [List.take_add_one, List.take_add_one, HK.out, Hx.out.1, Hx.out.2])
          clear hbq hcmp
          go_wp2_with fail
          go_roundw
          case rel => exact ⟨k + 1, by omega, by go_num, HK2, HB2.out⟩
          case measure => simp [intOf]; omega
        · have hcmp := neq_var_t hxy
          have htf : t = false := same_false HT.out (fun hl => hxy (by have h := Hx.out; rw [hl] at h; exact Option.some.inj (h.1.symm.trans h.2)))
          have HTF := Lib.hid htf
          clear hxy htf
          go_wp2_with fail
          refine wp_region_quiet_below (by kernel_rfl) (by kernel_rfl) ?_
          repeat (first | go_big_quiet_step (fail) | quiet_step (fail))
          refine wpQuiet_nil ?_
          intro _ hw'
          obtain ⟨⟨dq, osq⟩, hw''⟩ := hw'
          subst hw''
          have hbq := below_regrown wr dq osq
          have HB2 := Lib.hid (below2 hbl hbq)
          clear hbq hcmp
          go_wp2_with fail
          go_ret
          exact ⟨by rw [HTF.out]; rfl, HB2.out⟩
      · have hkn2 : k = n := by omega
        have htt : t = true := HT.out.2 (by have h := HK.out; rwa [List.take_of_length_le (by rw [Hn.out]; omega), List.take_of_length_le (by rw [Hm.out]; omega)] at h)
        have HTT := Lib.hid htt
        clear htt hkn2
        go_wp2_with fail
        go_ret
        exact ⟨by rw [HTT.out]; rfl, hbl⟩
  · have htf : t = false := same_false ht (fun hl => hnm (by rw [← hn, ← hm, hl]))
    have hb := bne_t (a := (n : Int)) (b := (m : Int)) (by omega)
    have HTF := Lib.hid htf
    clear htf hnm ht h1 h2 hn hm
    go_enter Try.func24, Try.ntmps24
    go_wp2_with fail
    go_ret
    exact ⟨by rw [HTF.out]; rfl, Below.refl _ _⟩
end Go.Proofs.Ytcfdbdmefdffdaa
