/-
  The walk of SortedClones.
-/
import Derived.Test.YtncgcjfpoableaaSrtFo
set_option linter.unusedVariables false
set_option linter.unusedSimpArgs false
namespace Go.Proofs.Ytncgcjfpoableaa
open Go Go.RowKit Go.Proofs.Base
open Go.Proofs.Ytncgcjfpoableaa.srtI (MapP PutTo DelTo Holds PRow RangedTo)
open Go.Proofs.Ytncgcjfpoableaa.refM (RMapP)
open Go.Sort (grow)
theorem RMapP.more {w w' : World} {B B' : Nat → Prop} {r : Nat} {l : List (KV Int)} (h : RMapP w B r l) (hb : Below w.heap.size w w') (hB : B' r) (hlt : ∀ x, B' x → x < w'.heap.size) (hm : ∀ x, B' x → B x ∨ w.heap.size ≤ x) : RMapP w' B' r l := by
  obtain ⟨_, _, A, c, A', c', h1, h2, h3⟩ := h
  have key : ∀ {S : World} {v : Value} {n : Nat} {cs : List Value}, Row w (fun g => ¬ B g) 1 n v cs → Row w' (fun g => ¬ B' g) 1 n v cs := fun h2 =>
    ((h2.weaken (S' := fun g => ¬ B g ∧ g < w.heap.size) (fun b hb h => ⟨h, hb⟩)).below hb).weaken (fun b _ h hx => (hm b hx).elim h.1 (fun h4 => by have := h.2; omega))
  exact ⟨hB, hlt, A, c, A', c', block_below hb h1, key (S := w) h2, key (S := w) h3⟩
theorem all_ref {w : World} {B : Nat → Prop} {r : Nat} {l : List (KV Int)} (h : RMapP w B r l) (ho : KeysOk l) (hm : l.length ≤ 8796093022208) :
    Calls Try.prog 21 #[.pointer (some ⟨r, 0, none⟩), .int .i64 1, .string ⟨#[]⟩] w (RangedTo l w) := refM.range_1 B r 1 (by decide) (by decide) (by decide) ⟨#[]⟩ l w h (by decide) ho hm
theorem St.mut {B T : Nat → Prop} {b r : Nat} {l : List (KV Int)} {w w' : World} (h : St B b r l w) (hm : Mut T w w') (hT : ∀ g, T g → B g ∧ g ≠ b ∧ g ≠ r) : St B b r l w' :=
  ⟨h.1, h.2.1, h.2.2.1.mut hm (fun g hg => ⟨(hT g hg).1, (hT g hg).2.1⟩), h.2.2.2.mut hm (fun g hg => ⟨(hT g hg).1, (hT g hg).2.2⟩)⟩
set_option maxRecDepth 100000 in
set_option maxHeartbeats 8000000 in
theorem law_Clones (va vb : Value) (xs ys : List GAct) (w : World) (hx : Acts w va xs) (hy : Acts w vb ys) :
    Calls Try.prog 8 #[va, vb] w fun e w' => e = .returned (.bool true) ∧ Below w.heap.size w w' := by
  obtain ⟨Ay, cy, rfl, hncy, hcmy⟩ := hy.open_
  have HY := Lib.hid hy
  have hleny := hy.2.2
  clear hy
  obtain ⟨A, c, rfl, hnc, hcm⟩ := hx.open_
  have HX := Lib.hid hx
  have hlen := hx.2.2
  clear hx
  go_enter Try.func8, Try.ntmps8
  go_wp2_with (first
    | (go_at_call 10; refine (shown_true _).mono ?_; rintro e w1 ⟨rfl, hb1⟩; have HB1 := Lib.hid hb1; clear hb1)
    | (go_at_call 16; refine (srtI.new_any _).mono ?_; rintro e w2 ⟨rfl, rfl⟩))
  have hS0 := start_st w1
  have hB0 := below2 HB1.out (start_below w1)
  rw [show (w1.alloc (.cells #[.slice none 0 0] 70)).alloc (.cells #[.slice none 0 0, .slice none 0 0] 40) = startW w1 from rfl]
  generalize startW w1 = W at hS0 hB0 ⊢
  have HS0 := Lib.hid hS0
  have HB0 := Lib.hid hB0
  have hbW : w.heap.size ≤ w1.heap.size := HB1.out.size
  clear hS0 hB0
  go_loopw [8] (fun i wr => ∃ j : Nat, j ≤ xs.length ∧ i = .int .i64 j ∧ Hid (St (fun x => x = w1.heap.size ∨ x = w1.heap.size + 1) w1.heap.size (w1.heap.size + 1) (runK [] (xs.take j)) wr ∧ Below w.heap.size w wr)) (fun i _ => xs.length - (intOf i).toNat)
  case atStart => exact ⟨0, Nat.zero_le _, rfl, Lib.hid ⟨HS0.out, HB0.out⟩⟩
  case round =>
    obtain ⟨j, hj, rfl, HI⟩ := hrel
    by_cases hlt : j < xs.length
    · obtain ⟨b, o, rfl, _, k0, k1, k2⟩ := (HX.out.below HI.out.2).at_ hlt
      have hkk := HX.out.2.1 _ (List.getElem_mem hlt)
      have hll := runK_take_len [] xs j
      have HR := Lib.hid (runK_take [] xs hlt)
      generalize xs[j] = a at *
      have hd := does_any _ _ _ a.kind a.k a.v _ wr HI.out.1 (by unfold okA at hkk; omega) (by simp at hll; omega)
      rw [← HR.out] at hd
      have HD := Lib.hid hd
      clear hd hkk hll
      go_wp2_with (go_at_call 17; refine HD.out.mono ?_; rintro e w2 ⟨rfl, hS2, hm2⟩; have HB2 := Lib.hid (srtI.below_of_mut HI.out.2 hm2 (fun b h => by omega)); have HS2 := Lib.hid hS2; clear hm2 hS2)
      go_roundw
      case rel => exact ⟨j + 1, by omega, by go_num, Lib.hid ⟨HS2.out, HB2.out⟩⟩
      case measure => simp [intOf]; omega
    · obtain rfl : j = xs.length := by omega
      have hll := runK_take_len [] xs xs.length
      generalize hL : runK [] (xs.take xs.length) = L at *
      have HLL : Hid (L.length ≤ xs.length) := Lib.hid (by simpa using hll)
      have hs := HI.out.1.rises
      have hM := HI.out.1.2.2.1
      have HM := Lib.hid hM
      have HBW := Lib.hid HI.out.2
      have hbr : w1.heap.size < wr.heap.size := hM.2.1 _ (.inl rfl)
      clear hll hL
      have hRM := HI.out.1.2.2.2
      have hko := HI.out.1.2.1
      have HKO := Lib.hid hko
      have HRM := Lib.hid hRM
      have hbr2 : w1.heap.size + 1 < wr.heap.size := hRM.2.1 _ (.inr rfl)
      have hR1 := all_ref hRM hko (by have := HLL.out; omega)
      have HR1 := Lib.hid hR1
      clear hR1 hs hRM hko
      go_wp2_with fail
      go_at_call 21
      refine HR1.out.mono ?_
      rintro e x1 ⟨kv, vv, rfl, ok1, oi1, hb1⟩
      obtain ⟨A1, c1, rfl, R1⟩ := rows_from ok1
      obtain ⟨A2, c2, rfl, R2⟩ := rows_from oi1
      have HRa := Lib.hid R1
      have HRb := Lib.hid R2
      have HB1r := Lib.hid hb1
      have hM1 := hM.below hb1
      have HRM1 := Lib.hid (HRM.out.below hb1)
      obtain ⟨_, _, A3, c3, hb3, hp3, hs3⟩ := id hM1
      have hC := srtI.clone_any (some ⟨w1.heap.size, 0, none⟩) A3 _ c3 x1 (.inr ⟨_, rfl, cell_of_blk hb3 0⟩)
      have hx1s := hb1.size
      -- the clone
      have hcl : Below x1.heap.size x1 (x1.alloc (.cells #[.slice A3 L.length c3] 70)) := below_alloc (Below.refl _ _) _
      have hcs : (x1.alloc (.cells #[.slice A3 L.length c3] 70)).heap.size = x1.heap.size + 1 := by simp
      have hB3 : ∀ x, (x = w1.heap.size ∨ x = w1.heap.size + 1 ∨ x = x1.heap.size) → x < x1.heap.size + 1 := fun x h => by have := HRM1.out.2.1 (w1.heap.size + 1) (.inr rfl); omega
      have hm3 : ∀ x, (x = w1.heap.size ∨ x = w1.heap.size + 1 ∨ x = x1.heap.size) → (x = w1.heap.size ∨ x = w1.heap.size + 1) ∨ x1.heap.size ≤ x := fun x h => by omega
      have hMc : MapP (x1.alloc (.cells #[.slice A3 L.length c3] 70)) (fun x => x = w1.heap.size ∨ x = w1.heap.size + 1 ∨ x = x1.heap.size) w1.heap.size L := srtI.MapP.more hM1 hcl (.inl rfl) (fun x h => by rw [hcs]; exact hB3 x h) hm3
      have hRc : RMapP (x1.alloc (.cells #[.slice A3 L.length c3] 70)) (fun x => x = w1.heap.size ∨ x = w1.heap.size + 1 ∨ x = x1.heap.size) (w1.heap.size + 1) L := RMapP.more HRM1.out hcl (.inr (.inl rfl)) (fun x h => by rw [hcs]; exact hB3 x h) hm3
      have hNc : MapP (x1.alloc (.cells #[.slice A3 L.length c3] 70)) (fun x => x = w1.heap.size ∨ x = w1.heap.size + 1 ∨ x = x1.heap.size) x1.heap.size L := by
        obtain ⟨_, q1, A4, c4, q2, q3, q4⟩ := hMc
        have : A4 = A3 ∧ c4 = c3 := by
          rw [block_below hcl hb3] at q2
          injection q2 with q2
          injection q2 with q2
          simp at q2
          exact ⟨q2.1.symm, q2.2.symm⟩
        obtain ⟨rfl, rfl⟩ := this
        exact ⟨.inr (.inr rfl), q1, A4, c4, heap_alloc_new x1 _, q3, q4⟩
      have hSt : St (fun x => x = w1.heap.size ∨ x = w1.heap.size + 1 ∨ x = x1.heap.size) w1.heap.size (w1.heap.size + 1) L (x1.alloc (.cells #[.slice A3 L.length c3] 70)) := ⟨by omega, HKO.out, hMc, hRc⟩
      have hrs := HRM1.out.2.1 (w1.heap.size + 1) (.inr rfl)
      have HSt := Lib.hid hSt
      have HNc := Lib.hid hNc
      have HRa1 := Lib.hid (HRa.out.below hcl)
      have HRb1 := Lib.hid (HRb.out.below hcl)
      have HBc := Lib.hid (below2 HBW.out (below2 hb1 hcl))
      have HCS := Lib.hid hcs
      have HAL := Lib.hid (fun V (h : MapP V (fun x => x = w1.heap.size ∨ x = w1.heap.size + 1 ∨ x = x1.heap.size) x1.heap.size L) => all_of h (by have := HLL.out; omega))
      clear hb1 ok1 oi1 R1 R2 hM1 hb3 hp3 hs3 hcl hcs hB3 hm3 hMc hRc hNc hSt hM
      go_wp2_with fail
      go_at_call 27
      refine hC.mono ?_
      rintro e x2 ⟨rfl, hx2⟩
      rw [← hx2] at HSt HNc HRa1 HRb1 HBc HCS
      clear hx2 hC
      go_wp2_with fail
      go_at_call 19
      refine (HAL.out _ HNc.out).mono ?_
      rintro e x3 ⟨kv, vv, rfl, ok3, oi3, hb3⟩
      obtain ⟨A5, c5, rfl, R5⟩ := rows_of ok3
      obtain ⟨A6, c6, rfl, R6⟩ := rows_of oi3
      have HSt3 := Lib.hid (HSt.out.below hb3)
      have HNc3 := Lib.hid (HNc.out.below hb3)
      have HRa3 := Lib.hid (HRa1.out.below hb3)
      have HRb3 := Lib.hid (HRb1.out.below hb3)
      have HBc3 := Lib.hid (below2 HBc.out hb3)
      have hal := alike_true A5 A6 A1 A2 c5 c6 c1 c2 _ _ (-1) L L x3 (most_neg L).symm (by have := HLL.out; omega) rfl rfl R5 R6 (Row.all HRa3.out) (Row.all HRb3.out)
      have hs3 : x1.heap.size < x3.heap.size := by have := hb3.size; have := HCS.out; omega
      clear hb3 ok3 oi3 R5 R6
      go_wp2_with fail
      go_at_call 20
      refine hal.mono ?_
      rintro e x4 ⟨rfl, hb4⟩
      have HSt4 := Lib.hid (HSt3.out.below hb4)
      have HNc4 := Lib.hid (HNc3.out.below hb4)
      have HRa4 := Lib.hid (HRa3.out.below hb4)
      have HRb4 := Lib.hid (HRb3.out.below hb4)
      have HBc4 := Lib.hid (below2 HBc3.out hb4)
      have hs4 : x1.heap.size < x4.heap.size := by have := hb4.size; omega
      clear hb4 hal
      have hwx : w.heap.size ≤ x1.heap.size := by have := HBW.out.size; omega
      go_wp2_with fail
      go_loopw [15] (fun i wr => ∃ j : Nat, j ≤ ys.length ∧ i = .int .i64 j ∧ Hid (St (fun x => x = w1.heap.size ∨ x = w1.heap.size + 1 ∨ x = x1.heap.size) w1.heap.size (w1.heap.size + 1) (runK L (ys.take j)) wr ∧ MapP wr (fun x => x = w1.heap.size ∨ x = w1.heap.size + 1 ∨ x = x1.heap.size) x1.heap.size L ∧ Mut (fun x => x = w1.heap.size ∨ x = w1.heap.size + 1) x4 wr)) (fun i _ => ys.length - (intOf i).toNat)
      case atStart => exact ⟨0, Nat.zero_le _, rfl, Lib.hid ⟨HSt4.out, HNc4.out, Mut.refl _ _⟩⟩
      case round =>
        obtain ⟨j, hj, rfl, HI2⟩ := hrel
        by_cases hlt : j < ys.length
        · obtain ⟨b, o, rfl, _, k0, k1, k2⟩ := (HY.out.below (srtI.below_of_mut HBc4.out HI2.out.2.2 (fun b h => by omega))).at_ hlt
          have hkk := HY.out.2.1 _ (List.getElem_mem hlt)
          have hll := runK_take_len L ys j
          have HR := Lib.hid (runK_take L ys hlt)
          generalize ys[j] = a at *
          have hd := does_any _ _ _ a.kind a.k a.v _ wr HI2.out.1 (by unfold okA at hkk; omega) (by have := HLL.out; omega)
          rw [← HR.out] at hd
          have HD := Lib.hid hd
          clear hd hkk hll
          go_wp2_with (go_at_call 17; refine HD.out.mono ?_; rintro e w2 ⟨rfl, hS2, hm2⟩; have HM2 := Lib.hid (HI2.out.2.1.mut hm2 (fun g e => ⟨by show g = w1.heap.size ∨ g = w1.heap.size + 1 ∨ g = x1.heap.size; omega, by omega⟩)); have Hm2 := Lib.hid (HI2.out.2.2.trans hm2 (fun _ _ h => h)); have HS2 := Lib.hid hS2; clear hm2 hS2)
          go_roundw
          case rel => exact ⟨j + 1, by omega, by go_num, Lib.hid ⟨HS2.out, HM2.out, Hm2.out⟩⟩
          case measure => simp [intOf]; omega
        · obtain rfl : j = ys.length := by omega
          have hll2 := runK_take_len L ys ys.length
          generalize hL2 : runK L (ys.take ys.length) = L2 at *
          have HLL2 : Hid (L2.length ≤ 8796093022000) := Lib.hid (by have := HLL.out; omega)
          have HRa5 := Lib.hid (HRa4.out.mut HI2.out.2.2 (fun b hb h e => by omega))
          have HRb5 := Lib.hid (HRb4.out.mut HI2.out.2.2 (fun b hb h e => by omega))
          have HBc5 := Lib.hid (srtI.below_of_mut HBc4.out HI2.out.2.2 (fun b h => by omega))
          have HAL2 := Lib.hid (fun V (h : MapP V (fun x => x = w1.heap.size ∨ x = w1.heap.size + 1 ∨ x = x1.heap.size) w1.heap.size L2) => all_of h (by have := HLL2.out; omega))
          have HRF := Lib.hid (fun V (h : RMapP V (fun x => x = w1.heap.size ∨ x = w1.heap.size + 1 ∨ x = x1.heap.size) (w1.heap.size + 1) L2) (ho : KeysOk L2) => all_ref h ho (by have := HLL2.out; omega))
          have HPN := Lib.hid (fun V (h : MapP V (fun x => x = w1.heap.size ∨ x = w1.heap.size + 1 ∨ x = x1.heap.size) x1.heap.size L) => srtI.put_any _ _ ⟨#[]⟩ 77 L V h (by have := HLL.out; omega))
          have HDN := Lib.hid (fun V (h : MapP V (fun x => x = w1.heap.size ∨ x = w1.heap.size + 1 ∨ x = x1.heap.size) x1.heap.size (putK ⟨#[]⟩ 77 L)) => srtI.del_any _ _ sa _ V h (by have := HLL.out; have := putK_len (k := ⟨#[]⟩) (l := L) (77 : Int); omega))
          clear hll2 hL2
          go_wp2_with fail
          go_at_call 19
          refine (HAL.out _ HI2.out.2.1).mono ?_
          rintro e x5 ⟨kv, vv, rfl, ok5, oi5, hb5⟩
          obtain ⟨A7, c7, rfl, R7⟩ := rows_of ok5
          obtain ⟨A8, c8, rfl, R8⟩ := rows_of oi5
          have HSt5 := Lib.hid (HI2.out.1.below hb5)
          have HNc5 := Lib.hid (HI2.out.2.1.below hb5)
          have HBc6 := Lib.hid (below2 HBc5.out hb5)
          have hal := alike_true A7 A8 A1 A2 c7 c8 c1 c2 _ _ (-1) L L x5 (most_neg L).symm (by have := HLL.out; omega) rfl rfl R7 R8 (Row.all (HRa5.out.below hb5)) (Row.all (HRb5.out.below hb5))
          clear hb5 ok5 oi5 R7 R8
          go_wp2_with fail
          go_at_call 20
          refine hal.mono ?_
          rintro e x6 ⟨rfl, hb6⟩
          have HSt6 := Lib.hid (HSt5.out.below hb6)
          have HNc6 := Lib.hid (HNc5.out.below hb6)
          have HBc7 := Lib.hid (below2 HBc6.out hb6)
          clear hb6 hal
          go_wp2_with fail
          go_at_call 24
          refine (HPN.out _ HNc6.out).mono ?_
          rintro e x7 ⟨rfl, hM7, hm7⟩
          have HNc7 := Lib.hid hM7
          have HSt7 := Lib.hid (HSt6.out.mut hm7 (fun g e => by rw [e]; exact ⟨.inr (.inr rfl), by omega, by omega⟩))
          have HBc8 := Lib.hid (srtI.below_of_mut HBc7.out hm7 (fun b h => by omega))
          clear hM7 hm7
          go_wp2_with fail
          go_at_call 25
          refine (HDN.out _ HNc7.out).mono ?_
          rintro e x8 ⟨rfl, hM8, hm8⟩
          have HSt8 := Lib.hid (HSt7.out.mut hm8 (fun g e => by rw [e]; exact ⟨.inr (.inr rfl), by omega, by omega⟩))
          have HBc9 := Lib.hid (srtI.below_of_mut HBc8.out hm8 (fun b h => by omega))
          clear hM8 hm8
          go_wp2_with fail
          go_at_call 21
          refine (HRF.out _ HSt8.out.2.2.2 HSt8.out.2.1).mono ?_
          rintro e x9 ⟨kv, vv, rfl, ok9, oi9, hb9⟩
          obtain ⟨A9, c9, rfl, R9⟩ := rows_of ok9
          obtain ⟨Aa, ca, rfl, Ra⟩ := rows_of oi9
          have HSt9 := Lib.hid (HSt8.out.below hb9)
          have HR9 := Lib.hid R9
          have HRaa := Lib.hid Ra
          have HBca := Lib.hid (below2 HBc9.out hb9)
          clear hb9 ok9 oi9 R9 Ra
          go_wp2_with fail
          go_at_call 19
          refine (HAL2.out _ HSt9.out.2.2.1).mono ?_
          rintro e xa ⟨kv, vv, rfl, oka, oia, hba⟩
          obtain ⟨Ab, cb, rfl, Rb⟩ := rows_of oka
          obtain ⟨Ac, cc, rfl, Rc⟩ := rows_of oia
          have hal := alike_true Ab Ac A9 Aa cb cc c9 ca _ _ (-1) L2 L2 xa (most_neg L2).symm (by have := HLL2.out; omega) rfl rfl Rb Rc (HR9.out.below hba) (HRaa.out.below hba)
          have HBcb := Lib.hid (below2 HBca.out hba)
          clear hba oka oia Rb Rc
          go_wp2_with (go_at_call 20; refine hal.mono ?_; rintro e xb ⟨rfl, hbb⟩; have HBcc := Lib.hid (below2 HBcb.out hbb); clear hbb)
          go_ret
          exact ⟨rfl, HBcc.out⟩
end Go.Proofs.Ytncgcjfpoableaa
