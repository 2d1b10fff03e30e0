/-
  The walks of value: Take, TakeVars.
-/
import Derived.Test.YtcfdbdmefdffdaaValC
set_option linter.unusedVariables false
set_option linter.unusedSimpArgs false
namespace Go.Proofs.Ytcfdbdmefdffdaa
open Go Go.RowKit Go.Proofs.Base
open Go.Sort (grow)

theorem Rdr.setOther {w : World} {g : Nat} {s : ByteArray} {e : Nat} (h : Rdr w g s e) {b o : Nat} (hne : g ≠ b) (v : Value) : Rdr (w.setCell ⟨b, o, none⟩ v) g s e := (Below.heap_setCell _ _ _ _ hne).trans h

set_option maxRecDepth 100000 in
set_option maxHeartbeats 2000000 in
theorem val_Take (g : Nat) (s : ByteArray) (e0 : Nat) (w : World) (hr : Rdr w g s e0) (hs : s.size ≤ 9223372036854775807) :
    Calls Try.prog 64 #[.pointer (some ⟨g, 0, none⟩)] w fun e w' => e = .returned (.tuple #[.agg #[.int .i64 (takeV s e0).k, .int .i64 (takeV s e0).n, .string (takeV s e0).s], .bool (takeOk s e0)]) ∧ Rdr w' g (takeRaw s e0).2.1 (takeRaw s e0).2.2 ∧ Mut (fun b => b = g) w w' := by
  have hg := hr.facts.2.2.2.2
  have hr1 := hr.alloc (.cells #[.int .i64 0, .int .i64 0, .string ByteArray.empty] 50)
  have HR := Lib.hid hr
  clear hr
  have hb := rdByte_lt s e0
  by_cases h3 : (rdByte s e0).1 = 3
  · have hraw : takeRaw s e0 = (⟨3, 0, (rdText 1024 (rdByte s e0).2.1 (rdByte s e0).2.2).1⟩, (rdText 1024 (rdByte s e0).2.1 (rdByte s e0).2.2).2) := by unfold takeRaw; rw [if_pos h3]
    have HRaw := Lib.hid hraw
    clear hraw
    have h3b : ((rdByte s e0).1 : Int) = 3 := by omega
    go_enter Try.func64, Try.ntmps64
    go_wp2_with fail
    refine (rd_Byte g s e0 _ hr1 hs).mono ?_
    rintro e w1 ⟨rfl, hq1, hm1⟩
    have ho1 := hm1.blk (heap_alloc_new w _) (show ¬ w.heap.size = g by omega)
    have hz1 := hm1.size
    rw [World.size_alloc] at hz1
    have HO1 := Lib.hid ho1
    have HM1 := Lib.hid hm1
    clear ho1 hm1 hr1
    have hr2 := hq1.alloc (.cells #[.int .i64 3, .int .i64 0, .string ByteArray.empty] 50)
    go_wp2_with fail
    refine (rd_Text g (rdByte s e0).2.1 (rdByte s e0).2.2 1024 _ hr2 (by have := rdByte_size s e0; omega) (by omega) (by omega)).mono ?_
    rintro e w2 ⟨rfl, hq2, hm2⟩
    have ho2 := hm2.blk (block_below ((Below.refl _ _).alloc (Nat.le_refl _) _) HO1.out) (show ¬ w.heap.size = g by omega)
    have hv2 := hm2.blk (heap_alloc_new w1 _) (show ¬ w1.heap.size = g by omega)
    have hz2 := hm2.size
    rw [World.size_alloc] at hz2
    have vc0 := cell_of_blk hv2 0
    have vc1 := cell_of_blk hv2 1
    have vc2 := cell_of_blk hv2 2
    have vf0 := frozen_of_blk hv2 0
    have vf1 := frozen_of_blk hv2 1
    have vf2 := frozen_of_blk hv2 2
    have hM02 : Mut (fun b => b = g) w w2 := ((((Mut.refl _ w).alloc _).trans HM1.out (fun _ _ h => h)).alloc _).trans hm2 (fun _ _ h => h)
    have HV2 := Lib.hid (set_blk (o := 2) hv2 (.string (rdText 1024 (rdByte s e0).2.1 (rdByte s e0).2.2).1))
    have HO2 := Lib.hid ho2
    have HQ2 := Lib.hid hq2
    have HM02 := Lib.hid hM02
    clear ho2 hv2 hq2 hM02 hm2 hq1 hr2
    go_wp2_with fail
    have hq3 : Rdr (w2.setCell ⟨w1.heap.size, 2, none⟩ (.string (rdText 1024 (rdByte s e0).2.1 (rdByte s e0).2.2).1)) g (rdText 1024 (rdByte s e0).2.1 (rdByte s e0).2.2).2.1 (rdText 1024 (rdByte s e0).2.1 (rdByte s e0).2.2).2.2 := by
      unfold Rdr
      rw [Below.heap_setCell _ _ _ _ (show g ≠ w1.heap.size by omega)]
      exact HQ2.out
    have ho3 : (w2.setCell ⟨w1.heap.size, 2, none⟩ (.string (rdText 1024 (rdByte s e0).2.1 (rdByte s e0).2.2).1)).heap[w.heap.size]? = _ := (Below.heap_setCell _ _ _ _ (show w.heap.size ≠ w1.heap.size by omega)).trans HO2.out
    have hm3 : Mut (fun b => b = g) w (w2.setCell ⟨w1.heap.size, 2, none⟩ (.string (rdText 1024 (rdByte s e0).2.1 (rdByte s e0).2.2).1)) := HM02.out.setCell (p := ⟨w1.heap.size, 2, none⟩) (fun h => absurd h (show ¬ w1.heap.size < w.heap.size by omega)) _
    have hv3 := HV2.out
    have hz3 : w1.heap.size < (w2.setCell ⟨w1.heap.size, 2, none⟩ (.string (rdText 1024 (rdByte s e0).2.1 (rdByte s e0).2.2).1)).heap.size := lt_of_blk hv3
    generalize w2.setCell ⟨w1.heap.size, 2, none⟩ (.string (rdText 1024 (rdByte s e0).2.1 (rdByte s e0).2.2).1) = W3 at *
    generalize hgen : rdText 1024 (rdByte s e0).2.1 (rdByte s e0).2.2 = q at *
    obtain ⟨q1, s2, e2⟩ := q
    clear vc0 vc1 vc2 vf0 vf1 vf2 HV2 HQ2 HO2 HM02 HO1 HM1 hz2 hgen
    have hv4 : W3.heap[w1.heap.size]? = some (.cells #[.int .i64 3, .int .i64 0, .string q1] 50 (0, 0)) := hv3
    have HR3 := Lib.hid hq3
    have HO3 := Lib.hid ho3
    have HM3 := Lib.hid hm3
    have HV4 := Lib.hid hv4
    have fv0 := cell_of_blk hv4 0
    have fv1 := cell_of_blk hv4 1
    have fv2 := cell_of_blk hv4 2
    have fo0 := cell_of_blk ho3 0
    have fo1 := cell_of_blk ho3 1
    have fo2 := cell_of_blk ho3 2
    have ff0 := frozen_of_blk ho3 0
    have ff1 := frozen_of_blk ho3 1
    have ff2 := frozen_of_blk ho3 2
    clear hv3 hv4 hq3 ho3 hm3
    have hmm9 : True := trivial
    by_cases h2 : e2 = 0
    · have h2b := bne_f (a := (e2 : Int)) (b := 0) (by omega)
      by_cases hmm : mayV 3 0 q1 = true
      · have hmay := hmm
        have htk : takeOk s e0 = true := by unfold takeOk GVal.may; rw [HRaw.out]; simp [h2, hmm]
        have hv : takeV s e0 = ⟨3, 0, q1⟩ := by unfold takeV; rw [htk, HRaw.out]; rfl
        have HTK := Lib.hid htk
        have HV := Lib.hid hv
        have hM := fun W => val_May 3 0 q1 W
        simp only [hmm] at hM
        have HMay := Lib.hid hM
        clear htk hv hM hmm hmay
        go_wp2_with (go_at_call 65; refine (rd_Err g s2 e2 _ HR3.out).mono ?_; rintro e w' ⟨rfl, rfl⟩)
        refine (HMay.out _).mono ?_
        rintro e w4 ⟨rfl, hb4⟩
        have hv5 := block_below hb4 HV4.out
        have ho5 := block_below hb4 HO3.out
        have HO5 := Lib.hid ho5
        have HM4 := Lib.hid (HM3.out.trans (Mut.of_below hb4 (fun _ => False)) (fun _ _ h => h.elim))
        have HQ4 := Lib.hid (show Rdr w4 g s2 e2 from block_below hb4 HR3.out)
        have gv0 := cell_of_blk hv5 0
        have gv1 := cell_of_blk hv5 1
        have gv2 := cell_of_blk hv5 2
        have go0 := cell_of_blk ho5 0
        have go1 := cell_of_blk ho5 1
        have go2 := cell_of_blk ho5 2
        have gf0 := frozen_of_blk ho5 0
        have gf1 := frozen_of_blk ho5 1
        have gf2 := frozen_of_blk ho5 2
        clear hv5 ho5 fv0 fv1 fv2 fo0 fo1 fo2 ff0 ff1 ff2 hb4
        go_wp2_with fail
        have hb6 := set_blk3 HO5.out (.int .i64 3) (.int .i64 0) (.string q1)
        have r0 := cell_of_blk hb6 0
        have r1 := cell_of_blk hb6 1
        have r2 := cell_of_blk hb6 2
        refine bodyPost_ret (v := .tuple #[.agg #[.int .i64 3, .int .i64 0, .string q1], .bool true]) (by simp [results, Try.results64, go_sem, r0, r1, r2]) rfl ⟨?_, ?_, ?_⟩
        · first | (rw [HV.out, HTK.out]; done) | (rw [HV.out, HTK.out]; rfl)
        · rw [HRaw.out]; exact ((HQ4.out.setOther (by omega) _).setOther (by omega) _).setOther (by omega) _
        · exact ((HM4.out.setCell (p := ⟨w.heap.size, 0, none⟩) (fun h => absurd h (Nat.lt_irrefl _)) _).setCell (p := ⟨w.heap.size, 1, none⟩) (fun h => absurd h (Nat.lt_irrefl _)) _).setCell (p := ⟨w.heap.size, 2, none⟩) (fun h => absurd h (Nat.lt_irrefl _)) _
      · have hmm : mayV 3 0 q1 = false := by simpa using hmm
        have htk : takeOk s e0 = false := by unfold takeOk GVal.may; rw [HRaw.out]; simp [hmm]
        have hv : takeV s e0 = zeroV := by unfold takeV; rw [htk]; rfl
        have HTK := Lib.hid htk
        have HV := Lib.hid hv
        have hM := fun W => val_May 3 0 q1 W
        simp only [hmm] at hM
        have HMay := Lib.hid hM
        clear htk hv hM hmm
        go_wp2_with (go_at_call 65; refine (rd_Err g s2 e2 _ HR3.out).mono ?_; rintro e w' ⟨rfl, rfl⟩)
        refine (HMay.out _).mono ?_
        rintro e w4 ⟨rfl, hb4⟩
        have ho5 := block_below hb4 HO3.out
        have HO5 := Lib.hid ho5
        have HM4 := Lib.hid (HM3.out.trans (Mut.of_below hb4 (fun _ => False)) (fun _ _ h => h.elim))
        have HQ4 := Lib.hid (show Rdr w4 g s2 e2 from block_below hb4 HR3.out)
        have go0 := cell_of_blk ho5 0
        have go1 := cell_of_blk ho5 1
        have go2 := cell_of_blk ho5 2
        have gf0 := frozen_of_blk ho5 0
        have gf1 := frozen_of_blk ho5 1
        have gf2 := frozen_of_blk ho5 2
        clear ho5 fv0 fv1 fv2 fo0 fo1 fo2 ff0 ff1 ff2 hb4
        go_wp2_with fail
        have hb6 := set_blk3 HO5.out (.int .i64 0) (.int .i64 0) (.string ⟨#[]⟩)
        have r0 := cell_of_blk hb6 0
        have r1 := cell_of_blk hb6 1
        have r2 := cell_of_blk hb6 2
        refine bodyPost_ret (v := .tuple #[.agg #[.int .i64 0, .int .i64 0, .string ⟨#[]⟩], .bool false]) (by simp [results, Try.results64, go_sem, r0, r1, r2]) rfl ⟨?_, ?_, ?_⟩
        · first | (rw [HV.out, HTK.out]; done) | (rw [HV.out, HTK.out]; rfl)
        · rw [HRaw.out]; exact ((HQ4.out.setOther (by omega) _).setOther (by omega) _).setOther (by omega) _
        · exact ((HM4.out.setCell (p := ⟨w.heap.size, 0, none⟩) (fun h => absurd h (Nat.lt_irrefl _)) _).setCell (p := ⟨w.heap.size, 1, none⟩) (fun h => absurd h (Nat.lt_irrefl _)) _).setCell (p := ⟨w.heap.size, 2, none⟩) (fun h => absurd h (Nat.lt_irrefl _)) _
    · have h2b := bne_t (a := (e2 : Int)) (b := 0) (by omega)
      have htk : takeOk s e0 = false := by unfold takeOk; rw [HRaw.out]; simp [h2]
      have hv : takeV s e0 = zeroV := by unfold takeV; rw [htk]; rfl
      have HTK := Lib.hid htk
      have HV := Lib.hid hv
      clear htk hv
      go_wp2_with (go_at_call 65; refine (rd_Err g s2 e2 _ HR3.out).mono ?_; rintro e w' ⟨rfl, rfl⟩)
      have hb6 := set_blk3 HO3.out (.int .i64 0) (.int .i64 0) (.string ⟨#[]⟩)
      have r0 := cell_of_blk hb6 0
      have r1 := cell_of_blk hb6 1
      have r2 := cell_of_blk hb6 2
      refine bodyPost_ret (v := .tuple #[.agg #[.int .i64 0, .int .i64 0, .string ⟨#[]⟩], .bool false]) (by simp [results, Try.results64, go_sem, r0, r1, r2]) rfl ⟨?_, ?_, ?_⟩
      · first | (rw [HV.out, HTK.out]; done) | (rw [HV.out, HTK.out]; rfl)
      · rw [HRaw.out]; exact ((HR3.out.setOther (by omega) _).setOther (by omega) _).setOther (by omega) _
      · exact ((HM3.out.setCell (p := ⟨w.heap.size, 0, none⟩) (fun h => absurd h (Nat.lt_irrefl _)) _).setCell (p := ⟨w.heap.size, 1, none⟩) (fun h => absurd h (Nat.lt_irrefl _)) _).setCell (p := ⟨w.heap.size, 2, none⟩) (fun h => absurd h (Nat.lt_irrefl _)) _
  · have hraw : takeRaw s e0 = (⟨(rdByte s e0).1, (rdInt (rdByte s e0).2.1 (rdByte s e0).2.2).1, ByteArray.empty⟩, (rdInt (rdByte s e0).2.1 (rdByte s e0).2.2).2) := by unfold takeRaw; rw [if_neg h3]
    have HRaw := Lib.hid hraw
    clear hraw
    have h3b := beq_f (a := ((rdByte s e0).1 : Int)) (b := 3) (by omega)
    have HH3 := Lib.hid h3
    clear h3
    go_enter Try.func64, Try.ntmps64
    go_wp2_with fail
    refine (rd_Byte g s e0 _ hr1 hs).mono ?_
    rintro e w1 ⟨rfl, hq1, hm1⟩
    have ho1 := hm1.blk (heap_alloc_new w _) (show ¬ w.heap.size = g by omega)
    have hz1 := hm1.size
    rw [World.size_alloc] at hz1
    have HO1 := Lib.hid ho1
    have HM1 := Lib.hid hm1
    clear ho1 hm1 hr1
    have hr2 := hq1.alloc (.cells #[.int .i64 ((rdByte s e0).1 : Int), .int .i64 0, .string ByteArray.empty] 50)
    go_wp2_with fail
    refine (rd_Int g (rdByte s e0).2.1 (rdByte s e0).2.2 _ hr2 (by have := rdByte_size s e0; omega)).mono ?_
    rintro e w2 ⟨rfl, hq2, hm2⟩
    have ho2 := hm2.blk (block_below ((Below.refl _ _).alloc (Nat.le_refl _) _) HO1.out) (show ¬ w.heap.size = g by omega)
    have hv2 := hm2.blk (heap_alloc_new w1 _) (show ¬ w1.heap.size = g by omega)
    have hz2 := hm2.size
    rw [World.size_alloc] at hz2
    have vc0 := cell_of_blk hv2 0
    have vc1 := cell_of_blk hv2 1
    have vc2 := cell_of_blk hv2 2
    have vf0 := frozen_of_blk hv2 0
    have vf1 := frozen_of_blk hv2 1
    have vf2 := frozen_of_blk hv2 2
    have hM02 : Mut (fun b => b = g) w w2 := ((((Mut.refl _ w).alloc _).trans HM1.out (fun _ _ h => h)).alloc _).trans hm2 (fun _ _ h => h)
    have HV2 := Lib.hid (set_blk (o := 1) hv2 (.int .i64 (rdInt (rdByte s e0).2.1 (rdByte s e0).2.2).1))
    have HO2 := Lib.hid ho2
    have HQ2 := Lib.hid hq2
    have HM02 := Lib.hid hM02
    clear ho2 hv2 hq2 hM02 hm2 hq1 hr2
    go_wp2_with fail
    have hq3 : Rdr (w2.setCell ⟨w1.heap.size, 1, none⟩ (.int .i64 (rdInt (rdByte s e0).2.1 (rdByte s e0).2.2).1)) g (rdInt (rdByte s e0).2.1 (rdByte s e0).2.2).2.1 (rdInt (rdByte s e0).2.1 (rdByte s e0).2.2).2.2 := by
      unfold Rdr
      rw [Below.heap_setCell _ _ _ _ (show g ≠ w1.heap.size by omega)]
      exact HQ2.out
    have ho3 : (w2.setCell ⟨w1.heap.size, 1, none⟩ (.int .i64 (rdInt (rdByte s e0).2.1 (rdByte s e0).2.2).1)).heap[w.heap.size]? = _ := (Below.heap_setCell _ _ _ _ (show w.heap.size ≠ w1.heap.size by omega)).trans HO2.out
    have hm3 : Mut (fun b => b = g) w (w2.setCell ⟨w1.heap.size, 1, none⟩ (.int .i64 (rdInt (rdByte s e0).2.1 (rdByte s e0).2.2).1)) := HM02.out.setCell (p := ⟨w1.heap.size, 1, none⟩) (fun h => absurd h (show ¬ w1.heap.size < w.heap.size by omega)) _
    have hv3 := HV2.out
    have hz3 : w1.heap.size < (w2.setCell ⟨w1.heap.size, 1, none⟩ (.int .i64 (rdInt (rdByte s e0).2.1 (rdByte s e0).2.2).1)).heap.size := lt_of_blk hv3
    generalize w2.setCell ⟨w1.heap.size, 1, none⟩ (.int .i64 (rdInt (rdByte s e0).2.1 (rdByte s e0).2.2).1) = W3 at *
    generalize hgen : rdInt (rdByte s e0).2.1 (rdByte s e0).2.2 = q at *
    obtain ⟨q1, s2, e2⟩ := q
    clear vc0 vc1 vc2 vf0 vf1 vf2 HV2 HQ2 HO2 HM02 HO1 HM1 hz2 hgen
    have hv4 : W3.heap[w1.heap.size]? = some (.cells #[.int .i64 ((rdByte s e0).1 : Int), .int .i64 q1, .string ByteArray.empty] 50 (0, 0)) := hv3
    have HR3 := Lib.hid hq3
    have HO3 := Lib.hid ho3
    have HM3 := Lib.hid hm3
    have HV4 := Lib.hid hv4
    have fv0 := cell_of_blk hv4 0
    have fv1 := cell_of_blk hv4 1
    have fv2 := cell_of_blk hv4 2
    have fo0 := cell_of_blk ho3 0
    have fo1 := cell_of_blk ho3 1
    have fo2 := cell_of_blk ho3 2
    have ff0 := frozen_of_blk ho3 0
    have ff1 := frozen_of_blk ho3 1
    have ff2 := frozen_of_blk ho3 2
    clear hv3 hv4 hq3 ho3 hm3
    have hmm9 : True := trivial
    by_cases h2 : e2 = 0
    · have h2b := bne_f (a := (e2 : Int)) (b := 0) (by omega)
      by_cases hmm : mayV ((rdByte s e0).1 : Int) q1 ByteArray.empty = true
      · have hmay := hmm
        have htk : takeOk s e0 = true := by unfold takeOk GVal.may; rw [HRaw.out]; simp [h2, hmm]
        have hv : takeV s e0 = ⟨((rdByte s e0).1 : Int), q1, ByteArray.empty⟩ := by unfold takeV; rw [htk, HRaw.out]; rfl
        have HTK := Lib.hid htk
        have HV := Lib.hid hv
        have hM := fun W => val_May ((rdByte s e0).1 : Int) q1 ByteArray.empty W
        simp only [hmm] at hM
        have HMay := Lib.hid hM
        clear htk hv hM hmm hmay
        go_wp2_with (go_at_call 65; refine (rd_Err g s2 e2 _ HR3.out).mono ?_; rintro e w' ⟨rfl, rfl⟩)
        refine (HMay.out _).mono ?_
        rintro e w4 ⟨rfl, hb4⟩
        have hv5 := block_below hb4 HV4.out
        have ho5 := block_below hb4 HO3.out
        have HO5 := Lib.hid ho5
        have HM4 := Lib.hid (HM3.out.trans (Mut.of_below hb4 (fun _ => False)) (fun _ _ h => h.elim))
        have HQ4 := Lib.hid (show Rdr w4 g s2 e2 from block_below hb4 HR3.out)
        have gv0 := cell_of_blk hv5 0
        have gv1 := cell_of_blk hv5 1
        have gv2 := cell_of_blk hv5 2
        have go0 := cell_of_blk ho5 0
        have go1 := cell_of_blk ho5 1
        have go2 := cell_of_blk ho5 2
        have gf0 := frozen_of_blk ho5 0
        have gf1 := frozen_of_blk ho5 1
        have gf2 := frozen_of_blk ho5 2
        clear hv5 ho5 fv0 fv1 fv2 fo0 fo1 fo2 ff0 ff1 ff2 hb4
        go_wp2_with fail
        have hb6 := set_blk3 HO5.out (.int .i64 ((rdByte s e0).1 : Int)) (.int .i64 q1) (.string ByteArray.empty)
        have r0 := cell_of_blk hb6 0
        have r1 := cell_of_blk hb6 1
        have r2 := cell_of_blk hb6 2
        refine bodyPost_ret (v := .tuple #[.agg #[.int .i64 ((rdByte s e0).1 : Int), .int .i64 q1, .string ByteArray.empty], .bool true]) (by simp [results, Try.results64, go_sem, r0, r1, r2]) rfl ⟨?_, ?_, ?_⟩
        · first | (rw [HV.out, HTK.out]; done) | (rw [HV.out, HTK.out]; rfl)
        · rw [HRaw.out]; exact ((HQ4.out.setOther (by omega) _).setOther (by omega) _).setOther (by omega) _
        · exact ((HM4.out.setCell (p := ⟨w.heap.size, 0, none⟩) (fun h => absurd h (Nat.lt_irrefl _)) _).setCell (p := ⟨w.heap.size, 1, none⟩) (fun h => absurd h (Nat.lt_irrefl _)) _).setCell (p := ⟨w.heap.size, 2, none⟩) (fun h => absurd h (Nat.lt_irrefl _)) _
      · have hmm : mayV ((rdByte s e0).1 : Int) q1 ByteArray.empty = false := by simpa using hmm
        have htk : takeOk s e0 = false := by unfold takeOk GVal.may; rw [HRaw.out]; simp [hmm]
        have hv : takeV s e0 = zeroV := by unfold takeV; rw [htk]; rfl
        have HTK := Lib.hid htk
        have HV := Lib.hid hv
        have hM := fun W => val_May ((rdByte s e0).1 : Int) q1 ByteArray.empty W
        simp only [hmm] at hM
        have HMay := Lib.hid hM
        clear htk hv hM hmm
        go_wp2_with (go_at_call 65; refine (rd_Err g s2 e2 _ HR3.out).mono ?_; rintro e w' ⟨rfl, rfl⟩)
        refine (HMay.out _).mono ?_
        rintro e w4 ⟨rfl, hb4⟩
        have ho5 := block_below hb4 HO3.out
        have HO5 := Lib.hid ho5
        have HM4 := Lib.hid (HM3.out.trans (Mut.of_below hb4 (fun _ => False)) (fun _ _ h => h.elim))
        have HQ4 := Lib.hid (show Rdr w4 g s2 e2 from block_below hb4 HR3.out)
        have go0 := cell_of_blk ho5 0
        have go1 := cell_of_blk ho5 1
        have go2 := cell_of_blk ho5 2
        have gf0 := frozen_of_blk ho5 0
        have gf1 := frozen_of_blk ho5 1
        have gf2 := frozen_of_blk ho5 2
        clear ho5 fv0 fv1 fv2 fo0 fo1 fo2 ff0 ff1 ff2 hb4
        go_wp2_with fail
        have hb6 := set_blk3 HO5.out (.int .i64 0) (.int .i64 0) (.string ⟨#[]⟩)
        have r0 := cell_of_blk hb6 0
        have r1 := cell_of_blk hb6 1
        have r2 := cell_of_blk hb6 2
        refine bodyPost_ret (v := .tuple #[.agg #[.int .i64 0, .int .i64 0, .string ⟨#[]⟩], .bool false]) (by simp [results, Try.results64, go_sem, r0, r1, r2]) rfl ⟨?_, ?_, ?_⟩
        · first | (rw [HV.out, HTK.out]; done) | (rw [HV.out, HTK.out]; rfl)
        · rw [HRaw.out]; exact ((HQ4.out.setOther (by omega) _).setOther (by omega) _).setOther (by omega) _
        · exact ((HM4.out.setCell (p := ⟨w.heap.size, 0, none⟩) (fun h => absurd h (Nat.lt_irrefl _)) _).setCell (p := ⟨w.heap.size, 1, none⟩) (fun h => absurd h (Nat.lt_irrefl _)) _).setCell (p := ⟨w.heap.size, 2, none⟩) (fun h => absurd h (Nat.lt_irrefl _)) _
    · have h2b := bne_t (a := (e2 : Int)) (b := 0) (by omega)
      have htk : takeOk s e0 = false := by unfold takeOk; rw [HRaw.out]; simp [h2]
      have hv : takeV s e0 = zeroV := by unfold takeV; rw [htk]; rfl
      have HTK := Lib.hid htk
      have HV := Lib.hid hv
      clear htk hv
      go_wp2_with (go_at_call 65; refine (rd_Err g s2 e2 _ HR3.out).mono ?_; rintro e w' ⟨rfl, rfl⟩)
      have hb6 := set_blk3 HO3.out (.int .i64 0) (.int .i64 0) (.string ⟨#[]⟩)
      have r0 := cell_of_blk hb6 0
      have r1 := cell_of_blk hb6 1
      have r2 := cell_of_blk hb6 2
      refine bodyPost_ret (v := .tuple #[.agg #[.int .i64 0, .int .i64 0, .string ⟨#[]⟩], .bool false]) (by simp [results, Try.results64, go_sem, r0, r1, r2]) rfl ⟨?_, ?_, ?_⟩
      · first | (rw [HV.out, HTK.out]; done) | (rw [HV.out, HTK.out]; rfl)
      · rw [HRaw.out]; exact ((HR3.out.setOther (by omega) _).setOther (by omega) _).setOther (by omega) _
      · exact ((HM3.out.setCell (p := ⟨w.heap.size, 0, none⟩) (fun h => absurd h (Nat.lt_irrefl _)) _).setCell (p := ⟨w.heap.size, 1, none⟩) (fun h => absurd h (Nat.lt_irrefl _)) _).setCell (p := ⟨w.heap.size, 2, none⟩) (fun h => absurd h (Nat.lt_irrefl _)) _
end Go.Proofs.Ytcfdbdmefdffdaa
