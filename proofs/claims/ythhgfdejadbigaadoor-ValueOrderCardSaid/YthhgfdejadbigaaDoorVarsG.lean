/-
  The walk of value.VarsBytes over variables at whatever address. Turned out of XValC by program (see wip/tools/genvarsg.py).
-/
import Derived.Test.YthhgfdejadbigaaDoorValB
import Derived.Test.YthhgfdejadbigaaDoorGen
import Derived.Test.YthhgfdejadbigaaDoorTail
import Derived.Test.YthhgfdejadbigaaDoorBuild
set_option linter.unusedVariables false
set_option linter.unusedSimpArgs false
namespace Go.Proofs.YthhgfdejadbigaaDoor
open Go Go.RowKit Go.Proofs.Base
open Go.Sort (grow)

set_option maxRecDepth 100000 in
set_option maxHeartbeats 2000000 in
theorem val_VarsBytesG (A : Option Addr) (n c : Nat) (l : List GVar) (w : World) (hl : l.length = n) (hnc : n ≤ c) (hr : ReadsV w A l) (hw : ∀ x ∈ l, x.wf)
    (hR0 : ∀ W, Below w.heap.size w W → Calls Tryd.prog 21 #[.slice A n c] W fun e w' => e = .returned (.bool (rightV l)) ∧ Below W.heap.size W w') :
    Calls Tryd.prog 27 #[.slice A n c] w fun e w' => e = .returned (.string (varsB l)) ∧ Below w.heap.size w w' := by
  have hR := hR0 w (Below.refl _ _)
  clear hR0
  by_cases hm : rightV l = true
  · obtain ⟨h16, hall⟩ := rightV_all hm
    rw [hl] at h16
    have hv : varsB l = uintB n ++ varsCat (l.drop 0) := by unfold varsB; rw [if_pos hm, hl]; rfl
    simp only [hm] at hR
    have HV := Lib.hid hv
    have HR := Lib.hid hR
    have Hl := Lib.hid hl
    have Hr := Lib.hid hr
    have Hw := Lib.hid hw
    have Hall := Lib.hid hall
    have hu := uintB_size (v := n) (by omega)
    clear hv hR hl hr hw hall hm
    go_enter Tryd.func27, Tryd.ntmps27
    go_wp2_with (first | (go_at_call 21; refine HR.out.mono ?_; rintro e w1 ⟨rfl, hb1⟩) | (go_at_call 55; refine (wire_Uint _ _ (by omega) (by omega)).mono ?_; rintro e w2 ⟨rfl, hb2⟩))
    refine (bld_WriteString w1.heap.size w1.heap.size ByteArray.empty (uintB n) w2 ((Bld.new w1).kept hb2) (by rw [show ByteArray.empty.size = 0 from rfl]; omega) (by have := hb2.size; simp at this; omega)).mono ?_
    rintro e w3 ⟨rfl, hB3, hb3, hm3⟩
    have hbl3 : Below w.heap.size w w3 := by
      have h1 := below2 (below_alloc hb1 (.cells #[.pointer none, .slice none 0 0] 69)) hb2
      exact h1.trans (hb3.mono hb1.size)
    rw [empty_app] at hB3
    have hbs := hb1.size
    generalize w1.heap.size = b0 at *
    clear hm3 hb3 hb2 hb1
    go_wp2_with fail
    go_loopw [5, 16] (fun _ i wr => ∃ (k : Nat) (acc : ByteArray), k ≤ n ∧ i = .int .i64 k ∧ Bld wr b0 b0 acc ∧ acc.size ≤ 10 + k * 2000 ∧ Hid (varsB l = acc ++ varsCat (l.drop k)) ∧ Below w.heap.size w wr) (fun _ i _ => n - (intOf i).toNat)
    case atStart => exact ⟨0, uintB n, Nat.zero_le _, rfl, hB3, by omega, HV, hbl3⟩
    case round =>
      clear hB3 hbl3
      obtain ⟨k, acc, hk, rfl, hA, hacc, HK, HB⟩ := hrel
      by_cases hlt : k < n
      · have hkl : k < l.length := by rw [Hl.out]; exact hlt
        obtain ⟨ad, rfl, _, c0, c1, c2, c3⟩ := Hr.out.below HB k hkl
        have hwx := Hw.out _ (List.getElem_mem hkl)
        have hax := Hall.out _ (List.getElem_mem hkl)
        have hq := HK.out
        rw [List.drop_eq_getElem_cons hkl] at hq
        generalize l[k] = x at *
        obtain ⟨hwn, hwk, hwi, hws⟩ := hwx
        obtain ⟨hxn, hxm⟩ := hax
        have hn32 := (named_size hxn).1
        have ht1 := textB_size (s := x.name) (by omega)
        have ht2 : (valB x.v.k x.v.n x.v.s).size ≤ 1100 := valB_size hwi hxm
        have hsz : ¬ 9223372036854775807 < (textB x.name).size + (valB x.v.k x.v.n x.v.s).size := by omega
        have hq2 : varsB l = (acc ++ (textB x.name ++ valB x.v.k x.v.n x.v.s)) ++ varsCat (l.drop (k + 1)) := by rw [hq, app_assoc]; rfl
        have HQ := Lib.hid hq2
        have HWn := Lib.hid hwn
        have HWk := Lib.hid hwk
        have HWi := Lib.hid hwi
        have HWs := Lib.hid hws
        have HA := Lib.hid hA
        clear hq hq2 HK hkl hxn hxm hwn hwk hwi hws hA
        have cT := fun d os => Calls.regrown_of (wire_Text x.name (grow (redrawn (wr.alloc (.cells #[.string x.name, .int .i64 x.v.k, .int .i64 x.v.n, .string x.v.s] 60)) d) os) (by omega))
        have cB := fun d os => Calls.regrown_of (val_Bytes x.v.k x.v.n x.v.s (grow (redrawn (wr.alloc (.cells #[.string x.name, .int .i64 x.v.k, .int .i64 x.v.n, .string x.v.s] 60)) d) os) HWk.out HWi.out HWs.out)
        have kx0 := cell_regrown (w := (wr.alloc (.cells #[.string x.name, .int .i64 x.v.k, .int .i64 x.v.n, .string x.v.s] 60))) (a := ⟨wr.heap.size, 0, none⟩) (v := .string x.name) (by simp)
        have kx1 := cell_regrown (w := (wr.alloc (.cells #[.string x.name, .int .i64 x.v.k, .int .i64 x.v.n, .string x.v.s] 60))) (a := ⟨wr.heap.size, 1, none⟩) (v := .int .i64 x.v.k) (by simp)
        have kx2 := cell_regrown (w := (wr.alloc (.cells #[.string x.name, .int .i64 x.v.k, .int .i64 x.v.n, .string x.v.s] 60))) (a := ⟨wr.heap.size, 2, none⟩) (v := .int .i64 x.v.n) (by simp)
        have kx3 := cell_regrown (w := (wr.alloc (.cells #[.string x.name, .int .i64 x.v.k, .int .i64 x.v.n, .string x.v.s] 60))) (a := ⟨wr.heap.size, 3, none⟩) (v := .string x.v.s) (by simp)
        go_wp2_with fail
        refine wp_region_quiet_tail [_, _, _, _, _, _, _] _ (by kernel_rfl) (by kernel_rfl) (by kernel_rfl) (by kernel_rfl) (by kernel_rfl) (by kernel_rfl) ?_
        repeat (first | go_big_quiet_step (first | exact cT _ _ | exact cB _ _) | quiet_step (first | exact cT _ _ | exact cB _ _))
        refine wpQuiet_nil ?_
        intro _ hw'
        obtain ⟨⟨dq, osq⟩, hw''⟩ := hw'
        subst hw''
        have hbq := below_regrown (wr.alloc (.cells #[.string x.name, .int .i64 x.v.k, .int .i64 x.v.n, .string x.v.s] 60)) dq osq
        have HB2 : Below w.heap.size w (grow (redrawn (wr.alloc (.cells #[.string x.name, .int .i64 x.v.k, .int .i64 x.v.n, .string x.v.s] 60)) dq) osq) := below2 (below_alloc HB _) hbq
        have hA2 : Bld (grow (redrawn (wr.alloc (.cells #[.string x.name, .int .i64 x.v.k, .int .i64 x.v.n, .string x.v.s] 60)) dq) osq) b0 b0 acc := (HA.out.kept ((Below.refl _ _).alloc (Nat.le_refl _) _)).kept hbq
        have hszW := hA2.lt
        go_wp2_with (go_at_call 40; refine (bld_WriteString b0 b0 acc _ _ hA2 (by rw [app_size]; omega) (by omega)).mono ?_; rintro e w4 ⟨rfl, hB4, hb4, hm4⟩)
        go_roundw
        case rel => exact ⟨k + 1, _, by omega, by go_num, hB4, by rw [app_size, app_size]; omega, HQ, HB2.trans (hb4.mono hbs)⟩
        case measure => simp [intOf]; omega
      · have hA' := hA.lt
        have hf := HK.out
        rw [List.drop_eq_nil_of_le (by rw [Hl.out]; omega)] at hf
        have HF := Lib.hid hf
        clear hf HK
        go_wp2_with (go_at_call 41; refine (bld_String b0 b0 acc _ hA (by omega)).mono ?_; rintro e w4 ⟨rfl, hb4⟩)
        go_ret
        exact ⟨by rw [HF.out]; exact ret1 (vstr (app_empty _).symm), HB.trans (hb4.mono hbs)⟩
  · have hm : rightV l = false := by simpa using hm
    have hv : varsB l = ByteArray.empty := by unfold varsB; rw [hm]; rfl
    simp only [hm] at hR
    have HV := Lib.hid hv
    have HR := Lib.hid hR
    clear hv hR hl hr hw hm
    go_enter Tryd.func27, Tryd.ntmps27
    go_wp2_with (go_at_call 21; refine HR.out.mono ?_; rintro e w1 ⟨rfl, hb1⟩)
    go_ret
    exact ⟨by rw [HV.out]; rfl, hb1⟩
end Go.Proofs.YthhgfdejadbigaaDoor
