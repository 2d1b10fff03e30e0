/-
  The walk of SortedForgets.
-/
import Derived.Test.YtncgcjfpoableaaSrtPl
set_option linter.unusedVariables false
set_option linter.unusedSimpArgs false
namespace Go.Proofs.Ytncgcjfpoableaa
open Go Go.RowKit Go.Proofs.Base
open Go.Proofs.Ytncgcjfpoableaa.srtI (MapP PutTo DelTo Holds PRow RangedTo)
open Go.Proofs.Ytncgcjfpoableaa.refM (RMapP)
open Go.Sort (grow)
theorem has_put {k : ByteArray} {l : List (KV Int)} (v : Int) (hr : Rises l) : hasK k (putK k v l) = true := by unfold hasK; rw [at_put v hr]; rfl
theorem get_put {k : ByteArray} {l : List (KV Int)} (d v : Int) (hr : Rises l) : getK d k (putK k v l) = v := by unfold getK; rw [at_put v hr]; rfl
theorem MapP.holds {w : World} {B : Nat → Prop} {b : Nat} {l : List (KV Int)} (h : MapP w B b l) : ∃ A c, Holds w (some ⟨b, 0, none⟩) (.slice A l.length c) ∧ PRow w (fun g => ¬ B g) A l.length c l ∧ Rises l := by
  obtain ⟨_, _, A, c, hb, hr, hs⟩ := h
  exact ⟨A, c, .inr ⟨b, rfl, cell_of_blk hb 0⟩, hr, hs⟩
/-- all of a map, collected -/
theorem all_of {w : World} {B : Nat → Prop} {b : Nat} {l : List (KV Int)} (h : MapP w B b l) (hm : l.length ≤ 8796093022208) :
    Calls Try.prog 19 #[.pointer (some ⟨b, 0, none⟩), .int .i64 4, .string ⟨#[]⟩, .int .i64 (-1)] w (RangedTo l w) := by
  obtain ⟨A, c, hH, hr, hs⟩ := MapP.holds h
  have := ranged_any _ _ A _ c 4 (-1) ⟨#[]⟩ l w hH hr hs hm
  rwa [rangeK_4, most_neg] at this
theorem rows_from {w : World} {base e n : Nat} {v : Value} {xs : List Value} (h : w.ownsRow base e 1 v n xs) : ∃ A c, v = .slice A n c ∧ Row w (fun g => base ≤ g) 1 n (.slice A n c) xs := by
  have hr := (Row.of_own h).weaken (S' := fun g => base ≤ g) (fun _ _ h => h.1)
  obtain ⟨A, c, hv, _⟩ := id hr.open_
  subst hv
  exact ⟨A, c, rfl, hr⟩
theorem Row.all {w : World} {S : Nat → Prop} {sz n : Nat} {v : Value} {cs : List Value} (h : Row w S sz n v cs) : Row w (fun _ => True) sz n v cs := h.weaken (fun _ _ _ => trivial)
set_option maxRecDepth 100000 in
set_option maxHeartbeats 4000000 in
theorem law_Forgets (va : Value) (xs : List GAct) (k : ByteArray) (v : Int) (w : World) (hx : Acts w va xs) :
    Calls Try.prog 7 #[va, .string k, .int .i64 v] w fun e w' => e = .returned (.bool true) ∧ Below w.heap.size w w' := by
  obtain ⟨A, c, rfl, hnc, hcm⟩ := hx.open_
  have HX := Lib.hid hx
  have hlen := hx.2.2
  clear hx
  go_enter Try.func7, Try.ntmps7
  go_wp2_with (first
    | (go_at_call 10; refine (shown_true _).mono ?_; rintro e w1 ⟨rfl, hb1⟩; have HB1 := Lib.hid hb1; clear hb1)
    | (go_at_call 16; refine (srtI.new_any _).mono ?_; rintro e w2 ⟨rfl, rfl⟩))
  have hS0 := start_st w1
  have hB0 := below2 HB1.out (start_below w1)
  rw [show (w1.alloc (.cells #[.slice none 0 0] 70)).alloc (.cells #[.slice none 0 0, .slice none 0 0] 40) = startW w1 from rfl]
  generalize startW w1 = W at hS0 hB0 ⊢
  have HS0 := Lib.hid hS0
  have HB0 := Lib.hid hB0
  have hbW : w.heap.size ≤ w1.heap.size := HB1.out.size
  clear hS0 hB0
  go_loopw [10] (fun i wr => ∃ j : Nat, j ≤ xs.length ∧ i = .int .i64 j ∧ Hid (St (fun x => x = w1.heap.size ∨ x = w1.heap.size + 1) w1.heap.size (w1.heap.size + 1) (runK [] (xs.take j)) wr ∧ Below w.heap.size w wr)) (fun i _ => xs.length - (intOf i).toNat)
  case atStart => exact ⟨0, Nat.zero_le _, rfl, Lib.hid ⟨HS0.out, HB0.out⟩⟩
  case round =>
    obtain ⟨j, hj, rfl, HI⟩ := hrel
    by_cases hlt : j < xs.length
    · obtain ⟨b, o, rfl, _, k0, k1, k2⟩ := (HX.out.below HI.out.2).at_ hlt
      have hkk := HX.out.2.1 _ (List.getElem_mem hlt)
      have hll := runK_take_len [] xs j
      have HR := Lib.hid (runK_take [] xs hlt)
      generalize xs[j] = a at *
      have hd := does_any _ _ _ a.kind a.k a.v _ wr HI.out.1 (by unfold okA at hkk; omega) (by simp at hll; omega)
      rw [← HR.out] at hd
      have HD := Lib.hid hd
      clear hd hkk hll
      go_wp2_with (go_at_call 17; refine HD.out.mono ?_; rintro e w2 ⟨rfl, hS2, hm2⟩; have HB2 := Lib.hid (srtI.below_of_mut HI.out.2 hm2 (fun b h => by omega)); have HS2 := Lib.hid hS2; clear hm2 hS2)
      go_roundw
      case rel => exact ⟨j + 1, by omega, by go_num, Lib.hid ⟨HS2.out, HB2.out⟩⟩
      case measure => simp [intOf]; omega
    · obtain rfl : j = xs.length := by omega
      have hll := runK_take_len [] xs xs.length
      generalize hL : runK [] (xs.take xs.length) = L at *
      have HLL : Hid (L.length ≤ xs.length) := Lib.hid (by simpa using hll)
      have hs := HI.out.1.rises
      have hM := HI.out.1.2.2.1
      have HM := Lib.hid hM
      have HBW := Lib.hid HI.out.2
      have hbr : w1.heap.size < wr.heap.size := hM.2.1 _ (.inl rfl)
      clear hll hL
      have hA1 := all_of hM (by have := HLL.out; omega)
      have hP1 := fun W h => srtI.put_any (fun x => x = w1.heap.size ∨ x = w1.heap.size + 1) w1.heap.size k v L W h (by have := HLL.out; omega)
      have hD1 := fun W h => srtI.del_any (fun x => x = w1.heap.size ∨ x = w1.heap.size + 1) w1.heap.size k (putK k v L) W h (by have := HLL.out; have := putK_len (k := k) (l := L) v; omega)
      have e1 := get_put (k := k) 0 v hs
      have e2 := has_put (k := k) v hs
      have e3 := del_put (k := k) v hs
      have e4 := has_del (k := k) hs
      have e5 := fun hh => put_back (k := k) 0 v hs hh
      have e6 := delK_len (k := k) (l := L)
      rw [e3] at e5
      have hG1 : ∀ W, MapP W (fun x => x = w1.heap.size ∨ x = w1.heap.size + 1) w1.heap.size (delK k L) → Calls Try.prog 26 #[.pointer (some ⟨w1.heap.size, 0, none⟩), .string k] W fun e w' => e = .returned (.tuple #[.int .i64 (getK 0 k (delK k L)), .bool false]) ∧ Below W.heap.size W w' := by
        intro W h
        obtain ⟨A2, c2, hH, hr, hs2⟩ := MapP.holds h
        have := srtI.get_any _ _ A2 _ c2 k (delK k L) W hH (by have := HLL.out; omega) hr hs2
        rwa [e4] at this
      have hP2 := fun W h => srtI.put_any (fun x => x = w1.heap.size ∨ x = w1.heap.size + 1) w1.heap.size k (getK 0 k L) (delK k L) W h (by have := HLL.out; omega)
      have HA1 := Lib.hid hA1
      have HP1 := Lib.hid hP1
      have HD1 := Lib.hid hD1
      have HG1 := Lib.hid hG1
      have HP2 := Lib.hid hP2
      have E1 := Lib.hid e1
      have E2 := Lib.hid e2
      have E3 := Lib.hid e3
      have E5 := Lib.hid e5
      have hq : (v != v) = false := bne_f rfl
      have hdn := fun h => delK_no (k := k) (l := L) h
      have HDN := Lib.hid hdn
      clear hA1 hP1 hD1 hG1 hP2 e1 e2 e3 e4 e5 e6 hs hM hdn
      have HA2 : Hid (∀ W, MapP W (fun x => x = w1.heap.size ∨ x = w1.heap.size + 1) w1.heap.size L → Calls Try.prog 19 #[.pointer (some ⟨w1.heap.size, 0, none⟩), .int .i64 4, .string ⟨#[]⟩, .int .i64 (-1)] W (RangedTo L W)) := Lib.hid (fun W h => all_of h (by have := HLL.out; omega))
      cases hh : hasK k L
      all_goals
        have HH := Lib.hid hh
        clear hh
        go_wp2_with fail
        go_at_call 19
        refine HA1.out.mono ?_
        rintro e x1 ⟨kv, vv, rfl, ok1, oi1, hb1⟩
        obtain ⟨A1, c1, rfl, R1⟩ := rows_from ok1
        obtain ⟨A2, c2, rfl, R2⟩ := rows_from oi1
        have HR1 := Lib.hid R1
        have HR2 := Lib.hid R2
        have HBx1 := Lib.hid (below2 HBW.out hb1)
        have HMx1 := Lib.hid (HM.out.below hb1)
        clear hb1 ok1 oi1 R1 R2
        go_wp2_with fail
        go_at_call 24
        refine (HP1.out _ HMx1.out).mono ?_
        rintro e x2 ⟨rfl, hM2, hm2⟩
        rw [HH.out]
        have HMx2 := Lib.hid hM2
        have Hm2 := Lib.hid hm2
        clear hM2 hm2
        go_wp2_with fail
        go_at_call 25
        refine (HD1.out _ HMx2.out).mono ?_
        rintro e x3 ⟨rfl, hM3, hm3⟩
        rw [E1.out, E2.out]
        rw [E3.out] at hM3
        have HMx3 := Lib.hid hM3
        have Hm3 := Lib.hid (Hm2.out.trans hm3 (fun _ _ h => h))
        clear hM3 hm3
        go_wp2_with fail
        go_at_call 26
        refine (HG1.out _ HMx3.out).mono ?_
        rintro e x4 ⟨rfl, hb4⟩
        have HMx4 := Lib.hid (HMx3.out.below hb4)
        have Hm4 := Lib.hid (mut_below Hm3.out hb4)
        clear hb4
      · have HMy : Hid (MapP x4 (fun x => x = w1.heap.size ∨ x = w1.heap.size + 1) w1.heap.size L) := Lib.hid (by have := HMx4.out; rwa [HDN.out HH.out] at this)
        go_wp2_with fail
        go_at_call 19
        refine (HA2.out _ HMy.out).mono ?_
        rintro e x6 ⟨kv, vv, rfl, ok6, oi6, hb6⟩
        obtain ⟨A6, c6, rfl, R6⟩ := rows_of ok6
        obtain ⟨A7, c7, rfl, R7⟩ := rows_of oi6
        have hM6 := mut_below Hm4.out hb6
        have hal := alike_true A6 A7 A1 A2 c6 c7 c1 c2 _ _ (-1) L L x6 (most_neg L).symm (by have := HLL.out; omega) rfl rfl R6 R7 (Row.all (HR1.out.mut hM6 (fun b hb h e => by omega))) (Row.all (HR2.out.mut hM6 (fun b hb h e => by omega)))
        have HBe := Lib.hid (srtI.below_of_mut HBx1.out hM6 (fun b h => by omega))
        clear hb6 ok6 oi6 R6 R7 hM6
        go_wp2_with (go_at_call 20; refine hal.mono ?_; rintro e x7 ⟨rfl, hb7⟩; have HBf := Lib.hid (below2 HBe.out hb7); clear hb7)
        go_ret
        exact ⟨rfl, HBf.out⟩
      · go_wp2_with fail
        go_at_call 24
        refine (HP2.out _ HMx4.out).mono ?_
        rintro e x5 ⟨rfl, hM5, hm5⟩
        rw [E5.out HH.out] at hM5
        have HMy := Lib.hid hM5
        have Hm5 := Lib.hid (Hm4.out.trans hm5 (fun _ _ h => h))
        clear hM5 hm5
        go_wp2_with fail
        go_at_call 19
        refine (HA2.out _ HMy.out).mono ?_
        rintro e x6 ⟨kv, vv, rfl, ok6, oi6, hb6⟩
        obtain ⟨A6, c6, rfl, R6⟩ := rows_of ok6
        obtain ⟨A7, c7, rfl, R7⟩ := rows_of oi6
        have hM6 := mut_below Hm5.out hb6
        have hal := alike_true A6 A7 A1 A2 c6 c7 c1 c2 _ _ (-1) L L x6 (most_neg L).symm (by have := HLL.out; omega) rfl rfl R6 R7 (Row.all (HR1.out.mut hM6 (fun b hb h e => by omega))) (Row.all (HR2.out.mut hM6 (fun b hb h e => by omega)))
        have HBe := Lib.hid (srtI.below_of_mut HBx1.out hM6 (fun b h => by omega))
        clear hb6 ok6 oi6 R6 R7 hM6
        go_wp2_with (go_at_call 20; refine hal.mono ?_; rintro e x7 ⟨rfl, hb7⟩; have HBf := Lib.hid (below2 HBe.out hb7); clear hb7)
        go_ret
        exact ⟨rfl, HBf.out⟩
end Go.Proofs.Ytncgcjfpoableaa
