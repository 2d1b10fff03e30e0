/-
  The walk of SortedPlays.
-/
import Derived.Test.YtncgcjfpoableaaSrtS
import Derived.Lib.QuietBelow
set_option linter.unusedVariables false
set_option linter.unusedSimpArgs false
namespace Go.Proofs.Ytncgcjfpoableaa
open Go Go.RowKit Go.Proofs.Base
open Go.Proofs.Ytncgcjfpoableaa.srtI (MapP PutTo DelTo Holds PRow RangedTo)
open Go.Proofs.Ytncgcjfpoableaa.refM (RMapP)
open Go.Sort (grow)
theorem len_below (p : Option Addr) (A : Option Addr) (n c : Nat) (w : World) (h : Holds w p (.slice A n c)) :
    Calls Try.prog 18 #[.pointer p] w fun e w' => e = .returned (.int .i64 (n : Nat)) ∧ Below w.heap.size w w' := (srtI.len_any p A n c w h).mono (fun e w' h => ⟨h.1, h.2 ▸ Below.refl _ _⟩)
theorem most_neg {α : Type} (l : List α) : mostK (-1) l = l := by unfold mostK; rw [if_pos (by omega)]
theorem rangeK_4 {V : Type} (k : ByteArray) (l : List (KV V)) : rangeK 4 k l = l := by unfold rangeK; simp
set_option maxRecDepth 100000 in
set_option maxHeartbeats 4000000 in
theorem law_Plays (v : Value) (xs : List GAct) (w : World) (hx : Acts w v xs) :
    Calls Try.prog 4 #[v] w fun e w' => e = .returned (.bool true) ∧ Below w.heap.size w w' := by
  obtain ⟨A, c, rfl, hnc, hcm⟩ := hx.open_
  have HX := Lib.hid hx
  have hlen := hx.2.2
  clear hx
  go_enter Try.func4, Try.ntmps4
  go_wp2_with (first
    | (go_at_call 10; refine (shown_true _).mono ?_; rintro e w1 ⟨rfl, hb1⟩; have HB1 := Lib.hid hb1; clear hb1)
    | (go_at_call 16; refine (srtI.new_any _).mono ?_; rintro e w2 ⟨rfl, rfl⟩))
  have hS0 := start_st w1
  have hB0 := below2 HB1.out (start_below w1)
  rw [show (w1.alloc (.cells #[.slice none 0 0] 70)).alloc (.cells #[.slice none 0 0, .slice none 0 0] 40) = startW w1 from rfl]
  generalize startW w1 = W at hS0 hB0 ⊢
  have HS0 := Lib.hid hS0
  have HB0 := Lib.hid hB0
  have HXW := Lib.hid (HX.out.below hB0)
  have hbW : w.heap.size ≤ w1.heap.size := HB1.out.size
  clear hS0 hB0
  go_loopw [6, 7] (fun i _ wr => ∃ j : Nat, j ≤ xs.length ∧ i = .int .i64 j ∧ Hid (St (fun x => x = w1.heap.size ∨ x = w1.heap.size + 1) w1.heap.size (w1.heap.size + 1) (runK [] (xs.take j)) wr ∧ Below w.heap.size w wr)) (fun i _ _ => xs.length - (intOf i).toNat)
  case atStart => exact ⟨0, Nat.zero_le _, rfl, Lib.hid ⟨HS0.out, HB0.out⟩⟩
  case round =>
    obtain ⟨j, hj, rfl, HI⟩ := hrel
    by_cases hlt : j < xs.length
    · obtain ⟨b, o, rfl, _, k0, k1, k2⟩ := (HX.out.below HI.out.2).at_ hlt
      have hkk := HX.out.2.1 _ (List.getElem_mem hlt)
      have hll := runK_take_len [] xs j
      have HR := Lib.hid (runK_take [] xs hlt)
      generalize xs[j] = a at *
      have hd := does_any _ _ _ a.kind a.k a.v _ wr HI.out.1 (by unfold okA at hkk; omega) (by simp at hll; omega)
      rw [← HR.out] at hd
      have HD := Lib.hid hd
      clear hd hkk hll
      go_wp2_with (go_at_call 17; refine HD.out.mono ?_; rintro e w2 ⟨rfl, hS2, hm2⟩; have HB2 := Lib.hid (srtI.below_of_mut HI.out.2 hm2 (fun b h => by omega)); have HS2 := Lib.hid hS2; clear hm2 hS2)
      obtain ⟨A1, c1, hH, _, _⟩ := HS2.out.holds
      obtain ⟨_, _, _, _, _, A2, c2, A3, c3, hr, _⟩ := id HS2.out
      have y0 := cell_regrown (cell_of_blk hr 0)
      have e0 := fun d os => Calls.regrown_of (len_below _ A1 _ c1 (grow (redrawn w2 d) os) (hH.below (below_regrown w2 d os)))
      have hq : (((runK [] (xs.take (j + 1))).length : Int) != ((runK [] (xs.take (j + 1))).length : Int)) = false := bne_f rfl
      clear hr hH
      generalize (runK [] (xs.take (j + 1))).length = n at *
      refine wp_region_quiet_below (by kernel_rfl) (by kernel_rfl) ?_
      repeat (first | go_big_quiet_step (with_reducible exact e0 _ _) | quiet_step (with_reducible exact e0 _ _))
      refine wpQuiet_nil ?_
      intro _ hw'
      obtain ⟨⟨dq, osq⟩, hw''⟩ := hw'
      subst hw''
      clear y0 e0
      go_wp2
      go_roundw
      case rel => exact ⟨j + 1, by omega, by go_num, Lib.hid ⟨HS2.out.below (below_regrown w2 dq osq), below2 HB2.out (below_regrown w2 dq osq)⟩⟩
      case measure => simp [intOf]; omega
    · obtain rfl : j = xs.length := by omega
      have hll := runK_take_len [] xs xs.length
      generalize hL : runK [] (xs.take xs.length) = L at *
      obtain ⟨A1, c1, hH, hP, hs⟩ := HI.out.1.holds
      have hR := ranged_any _ _ A1 _ c1 4 (-1) ⟨#[]⟩ L wr hH hP hs (by simp at hll; omega)
      rw [rangeK_4, most_neg] at hR
      have HR := Lib.hid hR
      have HLL := Lib.hid hll
      clear hH hP hs hR hll hL
      go_wp2_with (go_at_call 19; refine HR.out.mono ?_; rintro e w1' ⟨kv, vv, rfl, ok1, oi1, hb1⟩; obtain ⟨A4, c4, rfl, R4⟩ := rows_of ok1; obtain ⟨A5, c5, rfl, R5⟩ := rows_of oi1; have HB2 := Lib.hid hb1; have HR4 := Lib.hid R4; have HR5 := Lib.hid R5; clear hb1 ok1 oi1 R4 R5)
      obtain ⟨_, _, _, _, _, A2, c2, A3, c3, hr, hk, hv⟩ := id HI.out.1
      have hr2 := block_below HB2.out hr
      have y0 := cell_regrown (cell_of_blk hr2 0)
      have y1 := cell_regrown (cell_of_blk hr2 1)
      have HK := Lib.hid ((hk.below HB2.out).weaken (S' := fun _ => True) (fun _ _ _ => trivial))
      have HV := Lib.hid ((hv.below HB2.out).weaken (S' := fun _ => True) (fun _ _ _ => trivial))
      have e0 := fun d os => Calls.regrown_of (alike_true A4 A5 A2 A3 c4 c5 c2 c3 _ _ (-1) L L (grow (redrawn w1' d) os) (most_neg L).symm (by have := HLL.out; simp at this; omega) rfl rfl (HR4.out.below (below_regrown w1' d os)) (HR5.out.below (below_regrown w1' d os)) (HK.out.below (below_regrown w1' d os)) (HV.out.below (below_regrown w1' d os)))
      clear hr hk hv hr2
      refine wp_region_quiet_below (by kernel_rfl) (by kernel_rfl) ?_
      repeat (first | go_big_quiet_step (with_reducible exact e0 _ _) | quiet_step (with_reducible exact e0 _ _))
      refine wpQuiet_nil ?_
      intro _ hw'
      obtain ⟨⟨dq, osq⟩, hw''⟩ := hw'
      subst hw''
      go_wp2
      go_ret
      exact ⟨rfl, below2 (below2 HI.out.2 HB2.out) (below_regrown w1' dq osq)⟩
end Go.Proofs.Ytncgcjfpoableaa
