/-
  Merged from FoA, FoC, FoProc, FiProc, FpProc, FoInst, FiInst, FpInst, FoTok, FiTok, FpTok.
-/
import Derived.Test.YtgpkmellpllmgaaGreatQb62ecbabc510
import Derived.Deep.LoopGhost
import Derived.Deep.RegionLaw
/-
  fold.Apply. Printed by gfold2.py.
-/
set_option linter.unusedVariables false
set_option linter.unusedSimpArgs false
namespace Go.Proofs.YtgpkmellpllmgaaGreat
open Go Go.RowKit Go.Proofs.Base
open Go.Sort (grow)
theorem fn_look {w : World} {b : Nat} (h : Kinds w b (kindsL.foldl putFn (.map [])) 22) {q : Int} (hq : i64 q) :
    (Instr.lookup 58 (.map (some b)) (.int .i64 q) true).run Tryz.prog w = .ok (.tuple #[fnV (fnAt kindsL q), .bool (fnAt kindsL q).isSome]) w := by
  have hz : ∀ w, (zeroValue 56).run Tryz.prog w = .ok .nilFunc w := Tryz.zeroValue56
  obtain ⟨v, ps, hrun, hv⟩ := h.look_ok law_int Tryz.underlying58 (hz w) (zd := .lit (.int .i64 (-1))) (zp := []) rfl (key_int q hq)
  obtain ⟨h1, h2⟩ := putFn_at q kindsL (.map []) Go.Maps.isMap_empty
  rw [hrun, h2]
  have e : fnElem v = some (fnD (fnAt kindsL q), ps) := by
    rw [hv, h1]
    cases fnAt kindsL q with
    | some f => rfl
    | none => rfl
  rw [fnElem_inv e]
  simp [Go.Maps.has]
set_option maxRecDepth 100000 in
set_option maxHeartbeats 4000000 in
theorem ap_other (pos : Int) (Pp Dd Mm : Int) (A3 : Option Addr) (n3 c3 : Nat) (A4 : Option Addr) (n4 c4 : Nat) (A5 : Option Addr) (n5 c5 : Nat) (A6 : Option Addr) (n6 c6 : Nat) (A7 : Option Addr) (n7 c7 : Nat) (A8 : Option Addr) (n8 c8 : Nat) (A9 : Option Addr) (n9 c9 : Nat) (A10 : Option Addr) (n10 c10 : Nat) (A11 : Option Addr) (n11 c11 : Nat) (r : GRec) (vA : Option Addr) (vN vC : Nat) (w : World) (hc2 : r.cls ≠ 2) (hc3 : r.cls ≠ 3) :
    Calls Tryz.prog 10 #[.agg #[.int .u64 Pp, .int .u64 Dd, .int .u64 Mm, .slice A3 n3 c3, .slice A4 n4 c4, .slice A5 n5 c5, .slice A6 n6 c6, .slice A7 n7 c7, .slice A8 n8 c8, .slice A9 n9 c9, .slice A10 n10 c10, .slice A11 n11 c11], .int .u64 pos, .agg #[.int .i64 r.cls, .int .i64 r.kind, .int .u64 r.frm, .int .i64 r.time, .int .u64 r.key, .int .u64 r.key2, .int .u64 r.key3, .int .i64 r.n, .int .i64 r.m, .string r.a, .string r.b, .string r.c, .slice vA vN vC]] w fun e w' => e = .returned (.agg #[.int .u64 pos, .int .u64 Dd, .int .u64 Mm, .slice A3 n3 c3, .slice A4 n4 c4, .slice A5 n5 c5, .slice A6 n6 c6, .slice A7 n7 c7, .slice A8 n8 c8, .slice A9 n9 c9, .slice A10 n10 c10, .slice A11 n11 c11]) ∧ Below w.heap.size w w' := by
  have q2 := bne_t hc2
  have q3 := bne_t hc3
  go_enter Tryz.func10, Tryz.ntmps10
  go_wp2_with fail
  refine bodyPost_ret (v := .agg #[.int .u64 pos, .int .u64 Dd, .int .u64 Mm, .slice A3 n3 c3, .slice A4 n4 c4, .slice A5 n5 c5, .slice A6 n6 c6, .slice A7 n7 c7, .slice A8 n8 c8, .slice A9 n9 c9, .slice A10 n10 c10, .slice A11 n11 c11]) (by simp [results, Tryz.results10, go_sem]) rfl ⟨rfl, below_alloc (below_alloc (below_alloc (Below.refl _ _) _) _) _⟩
set_option maxRecDepth 100000 in
set_option maxHeartbeats 4000000 in
theorem ap_ref (pos : Int) (Pp Dd Mm : Int) (A3 : Option Addr) (n3 c3 : Nat) (A4 : Option Addr) (n4 c4 : Nat) (A5 : Option Addr) (n5 c5 : Nat) (A6 : Option Addr) (n6 c6 : Nat) (A7 : Option Addr) (n7 c7 : Nat) (A8 : Option Addr) (n8 c8 : Nat) (A9 : Option Addr) (n9 c9 : Nat) (A10 : Option Addr) (n10 c10 : Nat) (A11 : Option Addr) (n11 c11 : Nat) (r : GRec) (vA : Option Addr) (vN vC : Nat) (w : World) (hki : i64 r.kind) (hc : r.cls = 3) (fo : Nat) (hf : fnAt kindsL r.kind = some fo) :
    Calls Tryz.prog 10 #[.agg #[.int .u64 Pp, .int .u64 Dd, .int .u64 Mm, .slice A3 n3 c3, .slice A4 n4 c4, .slice A5 n5 c5, .slice A6 n6 c6, .slice A7 n7 c7, .slice A8 n8 c8, .slice A9 n9 c9, .slice A10 n10 c10, .slice A11 n11 c11], .int .u64 pos, .agg #[.int .i64 r.cls, .int .i64 r.kind, .int .u64 r.frm, .int .i64 r.time, .int .u64 r.key, .int .u64 r.key2, .int .u64 r.key3, .int .i64 r.n, .int .i64 r.m, .string r.a, .string r.b, .string r.c, .slice vA vN vC]] w fun e w' => e = .returned (.agg #[.int .u64 pos, .int .u64 (max Dd r.frm), .int .u64 Mm, .slice A3 n3 c3, .slice A4 n4 c4, .slice A5 n5 c5, .slice A6 n6 c6, .slice A7 n7 c7, .slice A8 n8 c8, .slice A9 n9 c9, .slice A10 n10 c10, .slice A11 n11 c11]) ∧ Below w.heap.size w w' := by
  obtain ⟨N, hN⟩ : ∃ N, N = ((w.alloc (.cells #[.int .u64 pos, .int .u64 (max Dd r.frm), .int .u64 Mm, .slice A3 n3 c3, .slice A4 n4 c4, .slice A5 n5 c5, .slice A6 n6 c6, .slice A7 n7 c7, .slice A8 n8 c8, .slice A9 n9 c9, .slice A10 n10 c10, .slice A11 n11 c11] 35)).alloc (.cells #[.int .i64 r.cls, .int .i64 r.kind, .int .u64 r.frm, .int .i64 r.time, .int .u64 r.key, .int .u64 r.key2, .int .u64 r.key3, .int .i64 r.n, .int .i64 r.m, .string r.a, .string r.b, .string r.c, .slice vA vN vC] 39)).alloc (.cells #[.int .u64 0, .int .u64 0, .int .u64 0, .slice none 0 0, .slice none 0 0, .slice none 0 0, .slice none 0 0, .slice none 0 0, .slice none 0 0, .slice none 0 0, .slice none 0 0, .slice none 0 0] 35) := ⟨_, rfl⟩
  have b0 : N.heap[w.heap.size]? = some (.cells #[.int .u64 pos, .int .u64 (max Dd r.frm), .int .u64 Mm, .slice A3 n3 c3, .slice A4 n4 c4, .slice A5 n5 c5, .slice A6 n6 c6, .slice A7 n7 c7, .slice A8 n8 c8, .slice A9 n9 c9, .slice A10 n10 c10, .slice A11 n11 c11] 35 (0, 0)) := by rw [hN]; exact blk_alloc (blk_alloc (blk_new _) _) _
  have b1 : recB N (w.heap.size + 1) r vA vN vC := by rw [hN]; exact blk_alloc (blk_new_of _ (by simp)) _
  have b2 : N.heap[w.heap.size + 1 + 1]? = some (.cells #[.int .u64 0, .int .u64 0, .int .u64 0, .slice none 0 0, .slice none 0 0, .slice none 0 0, .slice none 0 0, .slice none 0 0, .slice none 0 0, .slice none 0 0, .slice none 0 0, .slice none 0 0] 35 (0, 0)) := by rw [hN]; exact blk_new_of _ (by simp)
  have hB : Below w.heap.size w N := by rw [hN]; exact below_alloc (below_alloc (below_alloc (Below.refl _ _) _) _) _
  have hsz : N.heap.size = w.heap.size + 3 := by rw [hN]; simp
  have HN := Lib.hid hN
  have HB := Lib.hid hB
  have HSZ := Lib.hid hsz
  have K0 := Lib.hid b0
  have K1 := Lib.hid b1
  have K2 := Lib.hid b2
  have q2 := bne_t (a := r.cls) (b := 2) (by omega)
  have q3 := bne_f hc
  have q4 := beq_f (a := r.cls) (b := 2) (by omega)
  have HFN := Lib.hid hf
  clear hf hc
  have HKI := Lib.hid hki
  clear hN hB hsz b0 b1 b2 hki
  have k0 := K0.out
  have k1 := K1.out
  go_enter Tryz.func10, Tryz.ntmps10
  go_wp2_with fail
  rw [show ((w.alloc (.cells #[.int .u64 pos, .int .u64 (max Dd r.frm), .int .u64 Mm, .slice A3 n3 c3, .slice A4 n4 c4, .slice A5 n5 c5, .slice A6 n6 c6, .slice A7 n7 c7, .slice A8 n8 c8, .slice A9 n9 c9, .slice A10 n10 c10, .slice A11 n11 c11] 35)).alloc (.cells #[.int .i64 r.cls, .int .i64 r.kind, .int .u64 r.frm, .int .i64 r.time, .int .u64 r.key, .int .u64 r.key2, .int .u64 r.key3, .int .i64 r.n, .int .i64 r.m, .string r.a, .string r.b, .string r.c, .slice vA vN vC] 39)).alloc (.cells #[.int .u64 0, .int .u64 0, .int .u64 0, .slice none 0 0, .slice none 0 0, .slice none 0 0, .slice none 0 0, .slice none 0 0, .slice none 0 0, .slice none 0 0, .slice none 0 0, .slice none 0 0] 35) = N from HN.out.symm]
  have t0 := cell_regrown (cell_of_blk k0 0)
  have p1 := cell_regrown (cell_of_blk k1 1)
  clear k0 k1
  refine wp_region_ord [] (n := 9) (listed := #[false, false, false, false, false, false, false, false, false]) (by kernel_rfl) rfl rfl ?_
  ((refine wpK_pure (fuel := 8) (listed' := #[false, true, false, false, false, false, false, false, false]) 1 rfl (by kernel_rfl) rfl ?_; (first | go_big_quiet_step (fail) | quiet_step (fail)); refine wpQuiet_nil ?_))
  ((refine wpK_read (fuel := 7) (listed' := #[false, true, true, false, false, false, false, false, false]) 2 (by first | exact regrown_first _ _ | exact regrown_self _) rfl (by kernel_rfl) rfl ?_; (first | go_big_quiet_step (fail) | quiet_step (fail)); refine wpQuiet_nil ?_))
  refine wpK_one (fuel := 6) (listed' := #[true, true, true, false, false, false, false, false, false]) 0 rfl (by kernel_rfl) rfl ?_
  go_wp2_with (go_at_call 20; refine (kinds_c _).mono ?_; rintro e w1 ⟨rfl, hkd, hb⟩; have hlook := fn_look hkd HKI.out; rw [HFN.out] at hlook; simp only [fnV, Option.isSome] at hlook; have HB1 := Lib.hid (below2 (below_redrawn N (N.drawn + 1)) hb); clear hkd hb)
  generalize (redrawn N (N.drawn + 1)).heap.size = kb at *
  refine ⟨rfl, fun _ _ => regrown_of_below HB1.out, ?_⟩
  refine wpK_one (fuel := 5) (listed' := #[true, true, true, true, false, false, false, false, false]) 3 rfl (by kernel_rfl) rfl ?_
  go_wp2_with fail
  refine ⟨rfl, fun _ h => h, ?_⟩
  ((refine wpK_pure (fuel := 4) (listed' := #[true, true, true, true, true, false, false, false, false]) 4 rfl (by kernel_rfl) rfl ?_; (first | go_big_quiet_step (fail) | quiet_step (fail)); refine wpQuiet_nil ?_); (refine wpK_pure (fuel := 3) (listed' := #[true, true, true, true, true, true, false, false, false]) 5 rfl (by kernel_rfl) rfl ?_; (first | go_big_quiet_step (fail) | quiet_step (fail)); refine wpQuiet_nil ?_); (refine wpK_pure (fuel := 2) (listed' := #[true, true, true, true, true, true, true, false, false]) 6 rfl (by kernel_rfl) rfl ?_; (first | go_big_quiet_step (fail) | quiet_step (fail)); refine wpQuiet_nil ?_); (refine wpK_pure (fuel := 1) (listed' := #[true, true, true, true, true, true, true, true, false]) 7 rfl (by kernel_rfl) rfl ?_; (first | go_big_quiet_step (fail) | quiet_step (fail)); refine wpQuiet_nil ?_); (refine wpK_pure (fuel := 0) (listed' := #[true, true, true, true, true, true, true, true, true]) 8 rfl (by kernel_rfl) rfl ?_; (first | go_big_quiet_step (fail) | quiet_step (fail)); refine wpQuiet_nil ?_))
  refine wpK_end rfl ?_
  have k0 := block_below HB1.out K0.out
  have k1 := block_below HB1.out K1.out
  have k2 := block_below HB1.out K2.out
  have s0 := cell_of_blk k0 0
  have s1 := cell_of_blk k0 1
  have s2 := cell_of_blk k0 2
  have s3 := cell_of_blk k0 3
  have s4 := cell_of_blk k0 4
  have s5 := cell_of_blk k0 5
  have s6 := cell_of_blk k0 6
  have s7 := cell_of_blk k0 7
  have s8 := cell_of_blk k0 8
  have s9 := cell_of_blk k0 9
  have s10 := cell_of_blk k0 10
  have s11 := cell_of_blk k0 11
  have q0 := cell_of_blk k1 0
  have q1 := cell_of_blk k1 1
  have q2 := cell_of_blk k1 2
  have q3 := cell_of_blk k1 3
  have q4 := cell_of_blk k1 4
  have q5 := cell_of_blk k1 5
  have q6 := cell_of_blk k1 6
  have q7 := cell_of_blk k1 7
  have q8 := cell_of_blk k1 8
  have q9 := cell_of_blk k1 9
  have q10 := cell_of_blk k1 10
  have q11 := cell_of_blk k1 11
  have q12 := cell_of_blk k1 12
  have z0 := cell_of_blk k2 0
  have z1 := cell_of_blk k2 1
  have z2 := cell_of_blk k2 2
  have z3 := cell_of_blk k2 3
  have z4 := cell_of_blk k2 4
  have z5 := cell_of_blk k2 5
  have z6 := cell_of_blk k2 6
  have z7 := cell_of_blk k2 7
  have z8 := cell_of_blk k2 8
  have z9 := cell_of_blk k2 9
  have z10 := cell_of_blk k2 10
  have z11 := cell_of_blk k2 11
  have g0 := frozen_of_blk k2 0
  have g1 := frozen_of_blk k2 1
  have g2 := frozen_of_blk k2 2
  have g3 := frozen_of_blk k2 3
  have g4 := frozen_of_blk k2 4
  have g5 := frozen_of_blk k2 5
  have g6 := frozen_of_blk k2 6
  have g7 := frozen_of_blk k2 7
  have g8 := frozen_of_blk k2 8
  have g9 := frozen_of_blk k2 9
  have g10 := frozen_of_blk k2 10
  have g11 := frozen_of_blk k2 11
  have KZ := Lib.hid k2
  have KR := Lib.hid k1
  have HWB := Lib.hid (below2 HB.out HB1.out)
  clear k0 k1 k2 hlook p1
  go_wp2_with fail
  generalize hWE : World.setCell (World.setCell (World.setCell (World.setCell (World.setCell (World.setCell (World.setCell (World.setCell (World.setCell (World.setCell (World.setCell (World.setCell (_) _ _) _ _) _ _) _ _) _ _) _ _) _ _) _ _) _ _) _ _) _ _) _ _ = WE
  have ho : WE.heap[w.heap.size + 1 + 1]? = some (.cells #[.int .u64 pos, .int .u64 (max Dd r.frm), .int .u64 Mm, .slice A3 n3 c3, .slice A4 n4 c4, .slice A5 n5 c5, .slice A6 n6 c6, .slice A7 n7 c7, .slice A8 n8 c8, .slice A9 n9 c9, .slice A10 n10 c10, .slice A11 n11 c11] 35 (0, 0)) := by rw [← hWE]; exact set_blk12 (KZ.out) (.int .u64 pos) (.int .u64 (max Dd r.frm)) (.int .u64 Mm) (.slice A3 n3 c3) (.slice A4 n4 c4) (.slice A5 n5 c5) (.slice A6 n6 c6) (.slice A7 n7 c7) (.slice A8 n8 c8) (.slice A9 n9 c9) (.slice A10 n10 c10) (.slice A11 n11 c11)
  have hbe : Below w.heap.size w WE := by rw [← hWE]; exact ((((((((((((HWB.out).setCell (p := ⟨w.heap.size + 1 + 1, 0, none⟩) (by show _ ≤ _ + 1 + 1; omega) _).setCell (p := ⟨w.heap.size + 1 + 1, 1, none⟩) (by show _ ≤ _ + 1 + 1; omega) _).setCell (p := ⟨w.heap.size + 1 + 1, 2, none⟩) (by show _ ≤ _ + 1 + 1; omega) _).setCell (p := ⟨w.heap.size + 1 + 1, 3, none⟩) (by show _ ≤ _ + 1 + 1; omega) _).setCell (p := ⟨w.heap.size + 1 + 1, 4, none⟩) (by show _ ≤ _ + 1 + 1; omega) _).setCell (p := ⟨w.heap.size + 1 + 1, 5, none⟩) (by show _ ≤ _ + 1 + 1; omega) _).setCell (p := ⟨w.heap.size + 1 + 1, 6, none⟩) (by show _ ≤ _ + 1 + 1; omega) _).setCell (p := ⟨w.heap.size + 1 + 1, 7, none⟩) (by show _ ≤ _ + 1 + 1; omega) _).setCell (p := ⟨w.heap.size + 1 + 1, 8, none⟩) (by show _ ≤ _ + 1 + 1; omega) _).setCell (p := ⟨w.heap.size + 1 + 1, 9, none⟩) (by show _ ≤ _ + 1 + 1; omega) _).setCell (p := ⟨w.heap.size + 1 + 1, 10, none⟩) (by show _ ≤ _ + 1 + 1; omega) _).setCell (p := ⟨w.heap.size + 1 + 1, 11, none⟩) (by show _ ≤ _ + 1 + 1; omega) _
  have hmu : Mut (fun b => b = w.heap.size ∨ b = w.heap.size + 1 + 1) w1 WE := by
    rw [← hWE]
    exact Mut.setCell (T := fun b => b = w.heap.size ∨ b = w.heap.size + 1 + 1) (Mut.setCell (T := fun b => b = w.heap.size ∨ b = w.heap.size + 1 + 1) (Mut.setCell (T := fun b => b = w.heap.size ∨ b = w.heap.size + 1 + 1) (Mut.setCell (T := fun b => b = w.heap.size ∨ b = w.heap.size + 1 + 1) (Mut.setCell (T := fun b => b = w.heap.size ∨ b = w.heap.size + 1 + 1) (Mut.setCell (T := fun b => b = w.heap.size ∨ b = w.heap.size + 1 + 1) (Mut.setCell (T := fun b => b = w.heap.size ∨ b = w.heap.size + 1 + 1) (Mut.setCell (T := fun b => b = w.heap.size ∨ b = w.heap.size + 1 + 1) (Mut.setCell (T := fun b => b = w.heap.size ∨ b = w.heap.size + 1 + 1) (Mut.setCell (T := fun b => b = w.heap.size ∨ b = w.heap.size + 1 + 1) (Mut.setCell (T := fun b => b = w.heap.size ∨ b = w.heap.size + 1 + 1) (Mut.setCell (T := fun b => b = w.heap.size ∨ b = w.heap.size + 1 + 1) (Mut.refl _ _) (p := ⟨w.heap.size + 1 + 1, 0, none⟩) (fun _ => .inr rfl) _) (p := ⟨w.heap.size + 1 + 1, 1, none⟩) (fun _ => .inr rfl) _) (p := ⟨w.heap.size + 1 + 1, 2, none⟩) (fun _ => .inr rfl) _) (p := ⟨w.heap.size + 1 + 1, 3, none⟩) (fun _ => .inr rfl) _) (p := ⟨w.heap.size + 1 + 1, 4, none⟩) (fun _ => .inr rfl) _) (p := ⟨w.heap.size + 1 + 1, 5, none⟩) (fun _ => .inr rfl) _) (p := ⟨w.heap.size + 1 + 1, 6, none⟩) (fun _ => .inr rfl) _) (p := ⟨w.heap.size + 1 + 1, 7, none⟩) (fun _ => .inr rfl) _) (p := ⟨w.heap.size + 1 + 1, 8, none⟩) (fun _ => .inr rfl) _) (p := ⟨w.heap.size + 1 + 1, 9, none⟩) (fun _ => .inr rfl) _) (p := ⟨w.heap.size + 1 + 1, 10, none⟩) (fun _ => .inr rfl) _) (p := ⟨w.heap.size + 1 + 1, 11, none⟩) (fun _ => .inr rfl) _
  have r0 := cell_of_blk ho 0
  have r1 := cell_of_blk ho 1
  have r2 := cell_of_blk ho 2
  have r3 := cell_of_blk ho 3
  have r4 := cell_of_blk ho 4
  have r5 := cell_of_blk ho 5
  have r6 := cell_of_blk ho 6
  have r7 := cell_of_blk ho 7
  have r8 := cell_of_blk ho 8
  have r9 := cell_of_blk ho 9
  have r10 := cell_of_blk ho 10
  have r11 := cell_of_blk ho 11
  refine bodyPost_ret (v := .agg #[.int .u64 pos, .int .u64 (max Dd r.frm), .int .u64 Mm, .slice A3 n3 c3, .slice A4 n4 c4, .slice A5 n5 c5, .slice A6 n6 c6, .slice A7 n7 c7, .slice A8 n8 c8, .slice A9 n9 c9, .slice A10 n10 c10, .slice A11 n11 c11]) (by simp [results, Tryz.results10, go_sem, r0, r1, r2, r3, r4, r5, r6, r7, r8, r9, r10, r11]) rfl ⟨rfl, hbe⟩
set_option maxRecDepth 100000 in
set_option maxHeartbeats 4000000 in
theorem ap_refn (pos : Int) (Pp Dd Mm : Int) (A3 : Option Addr) (n3 c3 : Nat) (A4 : Option Addr) (n4 c4 : Nat) (A5 : Option Addr) (n5 c5 : Nat) (A6 : Option Addr) (n6 c6 : Nat) (A7 : Option Addr) (n7 c7 : Nat) (A8 : Option Addr) (n8 c8 : Nat) (A9 : Option Addr) (n9 c9 : Nat) (A10 : Option Addr) (n10 c10 : Nat) (A11 : Option Addr) (n11 c11 : Nat) (r : GRec) (vA : Option Addr) (vN vC : Nat) (w : World) (hki : i64 r.kind) (hc : r.cls = 3) (hf : fnAt kindsL r.kind = none) :
    Calls Tryz.prog 10 #[.agg #[.int .u64 Pp, .int .u64 Dd, .int .u64 Mm, .slice A3 n3 c3, .slice A4 n4 c4, .slice A5 n5 c5, .slice A6 n6 c6, .slice A7 n7 c7, .slice A8 n8 c8, .slice A9 n9 c9, .slice A10 n10 c10, .slice A11 n11 c11], .int .u64 pos, .agg #[.int .i64 r.cls, .int .i64 r.kind, .int .u64 r.frm, .int .i64 r.time, .int .u64 r.key, .int .u64 r.key2, .int .u64 r.key3, .int .i64 r.n, .int .i64 r.m, .string r.a, .string r.b, .string r.c, .slice vA vN vC]] w fun e w' => e = .returned (.agg #[.int .u64 pos, .int .u64 (max Dd r.frm), .int .u64 Mm, .slice A3 n3 c3, .slice A4 n4 c4, .slice A5 n5 c5, .slice A6 n6 c6, .slice A7 n7 c7, .slice A8 n8 c8, .slice A9 n9 c9, .slice A10 n10 c10, .slice A11 n11 c11]) ∧ Below w.heap.size w w' := by
  obtain ⟨N, hN⟩ : ∃ N, N = ((w.alloc (.cells #[.int .u64 pos, .int .u64 (max Dd r.frm), .int .u64 Mm, .slice A3 n3 c3, .slice A4 n4 c4, .slice A5 n5 c5, .slice A6 n6 c6, .slice A7 n7 c7, .slice A8 n8 c8, .slice A9 n9 c9, .slice A10 n10 c10, .slice A11 n11 c11] 35)).alloc (.cells #[.int .i64 r.cls, .int .i64 r.kind, .int .u64 r.frm, .int .i64 r.time, .int .u64 r.key, .int .u64 r.key2, .int .u64 r.key3, .int .i64 r.n, .int .i64 r.m, .string r.a, .string r.b, .string r.c, .slice vA vN vC] 39)).alloc (.cells #[.int .u64 0, .int .u64 0, .int .u64 0, .slice none 0 0, .slice none 0 0, .slice none 0 0, .slice none 0 0, .slice none 0 0, .slice none 0 0, .slice none 0 0, .slice none 0 0, .slice none 0 0] 35) := ⟨_, rfl⟩
  have b0 : N.heap[w.heap.size]? = some (.cells #[.int .u64 pos, .int .u64 (max Dd r.frm), .int .u64 Mm, .slice A3 n3 c3, .slice A4 n4 c4, .slice A5 n5 c5, .slice A6 n6 c6, .slice A7 n7 c7, .slice A8 n8 c8, .slice A9 n9 c9, .slice A10 n10 c10, .slice A11 n11 c11] 35 (0, 0)) := by rw [hN]; exact blk_alloc (blk_alloc (blk_new _) _) _
  have b1 : recB N (w.heap.size + 1) r vA vN vC := by rw [hN]; exact blk_alloc (blk_new_of _ (by simp)) _
  have b2 : N.heap[w.heap.size + 1 + 1]? = some (.cells #[.int .u64 0, .int .u64 0, .int .u64 0, .slice none 0 0, .slice none 0 0, .slice none 0 0, .slice none 0 0, .slice none 0 0, .slice none 0 0, .slice none 0 0, .slice none 0 0, .slice none 0 0] 35 (0, 0)) := by rw [hN]; exact blk_new_of _ (by simp)
  have hB : Below w.heap.size w N := by rw [hN]; exact below_alloc (below_alloc (below_alloc (Below.refl _ _) _) _) _
  have hsz : N.heap.size = w.heap.size + 3 := by rw [hN]; simp
  have HN := Lib.hid hN
  have HB := Lib.hid hB
  have HSZ := Lib.hid hsz
  have K0 := Lib.hid b0
  have K1 := Lib.hid b1
  have K2 := Lib.hid b2
  have q2 := bne_t (a := r.cls) (b := 2) (by omega)
  have q3 := bne_f hc
  have q4 := beq_f (a := r.cls) (b := 2) (by omega)
  have HFN := Lib.hid hf
  clear hf hc
  have HKI := Lib.hid hki
  clear hN hB hsz b0 b1 b2 hki
  have k0 := K0.out
  have k1 := K1.out
  go_enter Tryz.func10, Tryz.ntmps10
  go_wp2_with fail
  rw [show ((w.alloc (.cells #[.int .u64 pos, .int .u64 (max Dd r.frm), .int .u64 Mm, .slice A3 n3 c3, .slice A4 n4 c4, .slice A5 n5 c5, .slice A6 n6 c6, .slice A7 n7 c7, .slice A8 n8 c8, .slice A9 n9 c9, .slice A10 n10 c10, .slice A11 n11 c11] 35)).alloc (.cells #[.int .i64 r.cls, .int .i64 r.kind, .int .u64 r.frm, .int .i64 r.time, .int .u64 r.key, .int .u64 r.key2, .int .u64 r.key3, .int .i64 r.n, .int .i64 r.m, .string r.a, .string r.b, .string r.c, .slice vA vN vC] 39)).alloc (.cells #[.int .u64 0, .int .u64 0, .int .u64 0, .slice none 0 0, .slice none 0 0, .slice none 0 0, .slice none 0 0, .slice none 0 0, .slice none 0 0, .slice none 0 0, .slice none 0 0, .slice none 0 0] 35) = N from HN.out.symm]
  have t0 := cell_regrown (cell_of_blk k0 0)
  have p1 := cell_regrown (cell_of_blk k1 1)
  clear k0 k1
  refine wp_region_ord [] (n := 9) (listed := #[false, false, false, false, false, false, false, false, false]) (by kernel_rfl) rfl rfl ?_
  ((refine wpK_pure (fuel := 8) (listed' := #[false, true, false, false, false, false, false, false, false]) 1 rfl (by kernel_rfl) rfl ?_; (first | go_big_quiet_step (fail) | quiet_step (fail)); refine wpQuiet_nil ?_))
  ((refine wpK_read (fuel := 7) (listed' := #[false, true, true, false, false, false, false, false, false]) 2 (by first | exact regrown_first _ _ | exact regrown_self _) rfl (by kernel_rfl) rfl ?_; (first | go_big_quiet_step (fail) | quiet_step (fail)); refine wpQuiet_nil ?_))
  refine wpK_one (fuel := 6) (listed' := #[true, true, true, false, false, false, false, false, false]) 0 rfl (by kernel_rfl) rfl ?_
  go_wp2_with (go_at_call 20; refine (kinds_c _).mono ?_; rintro e w1 ⟨rfl, hkd, hb⟩; have hlook := fn_look hkd HKI.out; rw [HFN.out] at hlook; simp only [fnV, Option.isSome] at hlook; have HB1 := Lib.hid (below2 (below_redrawn N (N.drawn + 1)) hb); clear hkd hb)
  generalize (redrawn N (N.drawn + 1)).heap.size = kb at *
  refine ⟨rfl, fun _ _ => regrown_of_below HB1.out, ?_⟩
  refine wpK_one (fuel := 5) (listed' := #[true, true, true, true, false, false, false, false, false]) 3 rfl (by kernel_rfl) rfl ?_
  go_wp2_with fail
  refine ⟨rfl, fun _ h => h, ?_⟩
  ((refine wpK_pure (fuel := 4) (listed' := #[true, true, true, true, true, false, false, false, false]) 4 rfl (by kernel_rfl) rfl ?_; (first | go_big_quiet_step (fail) | quiet_step (fail)); refine wpQuiet_nil ?_); (refine wpK_pure (fuel := 3) (listed' := #[true, true, true, true, true, true, false, false, false]) 5 rfl (by kernel_rfl) rfl ?_; (first | go_big_quiet_step (fail) | quiet_step (fail)); refine wpQuiet_nil ?_); (refine wpK_pure (fuel := 2) (listed' := #[true, true, true, true, true, true, true, false, false]) 6 rfl (by kernel_rfl) rfl ?_; (first | go_big_quiet_step (fail) | quiet_step (fail)); refine wpQuiet_nil ?_); (refine wpK_pure (fuel := 1) (listed' := #[true, true, true, true, true, true, true, true, false]) 7 rfl (by kernel_rfl) rfl ?_; (first | go_big_quiet_step (fail) | quiet_step (fail)); refine wpQuiet_nil ?_); (refine wpK_pure (fuel := 0) (listed' := #[true, true, true, true, true, true, true, true, true]) 8 rfl (by kernel_rfl) rfl ?_; (first | go_big_quiet_step (fail) | quiet_step (fail)); refine wpQuiet_nil ?_))
  refine wpK_end rfl ?_
  have k0 := block_below HB1.out K0.out
  have k1 := block_below HB1.out K1.out
  have k2 := block_below HB1.out K2.out
  have s0 := cell_of_blk k0 0
  have s1 := cell_of_blk k0 1
  have s2 := cell_of_blk k0 2
  have s3 := cell_of_blk k0 3
  have s4 := cell_of_blk k0 4
  have s5 := cell_of_blk k0 5
  have s6 := cell_of_blk k0 6
  have s7 := cell_of_blk k0 7
  have s8 := cell_of_blk k0 8
  have s9 := cell_of_blk k0 9
  have s10 := cell_of_blk k0 10
  have s11 := cell_of_blk k0 11
  have q0 := cell_of_blk k1 0
  have q1 := cell_of_blk k1 1
  have q2 := cell_of_blk k1 2
  have q3 := cell_of_blk k1 3
  have q4 := cell_of_blk k1 4
  have q5 := cell_of_blk k1 5
  have q6 := cell_of_blk k1 6
  have q7 := cell_of_blk k1 7
  have q8 := cell_of_blk k1 8
  have q9 := cell_of_blk k1 9
  have q10 := cell_of_blk k1 10
  have q11 := cell_of_blk k1 11
  have q12 := cell_of_blk k1 12
  have z0 := cell_of_blk k2 0
  have z1 := cell_of_blk k2 1
  have z2 := cell_of_blk k2 2
  have z3 := cell_of_blk k2 3
  have z4 := cell_of_blk k2 4
  have z5 := cell_of_blk k2 5
  have z6 := cell_of_blk k2 6
  have z7 := cell_of_blk k2 7
  have z8 := cell_of_blk k2 8
  have z9 := cell_of_blk k2 9
  have z10 := cell_of_blk k2 10
  have z11 := cell_of_blk k2 11
  have g0 := frozen_of_blk k2 0
  have g1 := frozen_of_blk k2 1
  have g2 := frozen_of_blk k2 2
  have g3 := frozen_of_blk k2 3
  have g4 := frozen_of_blk k2 4
  have g5 := frozen_of_blk k2 5
  have g6 := frozen_of_blk k2 6
  have g7 := frozen_of_blk k2 7
  have g8 := frozen_of_blk k2 8
  have g9 := frozen_of_blk k2 9
  have g10 := frozen_of_blk k2 10
  have g11 := frozen_of_blk k2 11
  have KZ := Lib.hid k2
  have KR := Lib.hid k1
  have HWB := Lib.hid (below2 HB.out HB1.out)
  clear k0 k1 k2 hlook p1
  go_wp2_with fail
  generalize hWE : World.setCell (World.setCell (World.setCell (World.setCell (World.setCell (World.setCell (World.setCell (World.setCell (World.setCell (World.setCell (World.setCell (World.setCell (_) _ _) _ _) _ _) _ _) _ _) _ _) _ _) _ _) _ _) _ _) _ _) _ _ = WE
  have ho : WE.heap[w.heap.size + 1 + 1]? = some (.cells #[.int .u64 pos, .int .u64 (max Dd r.frm), .int .u64 Mm, .slice A3 n3 c3, .slice A4 n4 c4, .slice A5 n5 c5, .slice A6 n6 c6, .slice A7 n7 c7, .slice A8 n8 c8, .slice A9 n9 c9, .slice A10 n10 c10, .slice A11 n11 c11] 35 (0, 0)) := by rw [← hWE]; exact set_blk12 (KZ.out) (.int .u64 pos) (.int .u64 (max Dd r.frm)) (.int .u64 Mm) (.slice A3 n3 c3) (.slice A4 n4 c4) (.slice A5 n5 c5) (.slice A6 n6 c6) (.slice A7 n7 c7) (.slice A8 n8 c8) (.slice A9 n9 c9) (.slice A10 n10 c10) (.slice A11 n11 c11)
  have hbe : Below w.heap.size w WE := by rw [← hWE]; exact ((((((((((((HWB.out).setCell (p := ⟨w.heap.size + 1 + 1, 0, none⟩) (by show _ ≤ _ + 1 + 1; omega) _).setCell (p := ⟨w.heap.size + 1 + 1, 1, none⟩) (by show _ ≤ _ + 1 + 1; omega) _).setCell (p := ⟨w.heap.size + 1 + 1, 2, none⟩) (by show _ ≤ _ + 1 + 1; omega) _).setCell (p := ⟨w.heap.size + 1 + 1, 3, none⟩) (by show _ ≤ _ + 1 + 1; omega) _).setCell (p := ⟨w.heap.size + 1 + 1, 4, none⟩) (by show _ ≤ _ + 1 + 1; omega) _).setCell (p := ⟨w.heap.size + 1 + 1, 5, none⟩) (by show _ ≤ _ + 1 + 1; omega) _).setCell (p := ⟨w.heap.size + 1 + 1, 6, none⟩) (by show _ ≤ _ + 1 + 1; omega) _).setCell (p := ⟨w.heap.size + 1 + 1, 7, none⟩) (by show _ ≤ _ + 1 + 1; omega) _).setCell (p := ⟨w.heap.size + 1 + 1, 8, none⟩) (by show _ ≤ _ + 1 + 1; omega) _).setCell (p := ⟨w.heap.size + 1 + 1, 9, none⟩) (by show _ ≤ _ + 1 + 1; omega) _).setCell (p := ⟨w.heap.size + 1 + 1, 10, none⟩) (by show _ ≤ _ + 1 + 1; omega) _).setCell (p := ⟨w.heap.size + 1 + 1, 11, none⟩) (by show _ ≤ _ + 1 + 1; omega) _
  have hmu : Mut (fun b => b = w.heap.size ∨ b = w.heap.size + 1 + 1) w1 WE := by
    rw [← hWE]
    exact Mut.setCell (T := fun b => b = w.heap.size ∨ b = w.heap.size + 1 + 1) (Mut.setCell (T := fun b => b = w.heap.size ∨ b = w.heap.size + 1 + 1) (Mut.setCell (T := fun b => b = w.heap.size ∨ b = w.heap.size + 1 + 1) (Mut.setCell (T := fun b => b = w.heap.size ∨ b = w.heap.size + 1 + 1) (Mut.setCell (T := fun b => b = w.heap.size ∨ b = w.heap.size + 1 + 1) (Mut.setCell (T := fun b => b = w.heap.size ∨ b = w.heap.size + 1 + 1) (Mut.setCell (T := fun b => b = w.heap.size ∨ b = w.heap.size + 1 + 1) (Mut.setCell (T := fun b => b = w.heap.size ∨ b = w.heap.size + 1 + 1) (Mut.setCell (T := fun b => b = w.heap.size ∨ b = w.heap.size + 1 + 1) (Mut.setCell (T := fun b => b = w.heap.size ∨ b = w.heap.size + 1 + 1) (Mut.setCell (T := fun b => b = w.heap.size ∨ b = w.heap.size + 1 + 1) (Mut.setCell (T := fun b => b = w.heap.size ∨ b = w.heap.size + 1 + 1) (Mut.refl _ _) (p := ⟨w.heap.size + 1 + 1, 0, none⟩) (fun _ => .inr rfl) _) (p := ⟨w.heap.size + 1 + 1, 1, none⟩) (fun _ => .inr rfl) _) (p := ⟨w.heap.size + 1 + 1, 2, none⟩) (fun _ => .inr rfl) _) (p := ⟨w.heap.size + 1 + 1, 3, none⟩) (fun _ => .inr rfl) _) (p := ⟨w.heap.size + 1 + 1, 4, none⟩) (fun _ => .inr rfl) _) (p := ⟨w.heap.size + 1 + 1, 5, none⟩) (fun _ => .inr rfl) _) (p := ⟨w.heap.size + 1 + 1, 6, none⟩) (fun _ => .inr rfl) _) (p := ⟨w.heap.size + 1 + 1, 7, none⟩) (fun _ => .inr rfl) _) (p := ⟨w.heap.size + 1 + 1, 8, none⟩) (fun _ => .inr rfl) _) (p := ⟨w.heap.size + 1 + 1, 9, none⟩) (fun _ => .inr rfl) _) (p := ⟨w.heap.size + 1 + 1, 10, none⟩) (fun _ => .inr rfl) _) (p := ⟨w.heap.size + 1 + 1, 11, none⟩) (fun _ => .inr rfl) _
  have r0 := cell_of_blk ho 0
  have r1 := cell_of_blk ho 1
  have r2 := cell_of_blk ho 2
  have r3 := cell_of_blk ho 3
  have r4 := cell_of_blk ho 4
  have r5 := cell_of_blk ho 5
  have r6 := cell_of_blk ho 6
  have r7 := cell_of_blk ho 7
  have r8 := cell_of_blk ho 8
  have r9 := cell_of_blk ho 9
  have r10 := cell_of_blk ho 10
  have r11 := cell_of_blk ho 11
  refine bodyPost_ret (v := .agg #[.int .u64 pos, .int .u64 (max Dd r.frm), .int .u64 Mm, .slice A3 n3 c3, .slice A4 n4 c4, .slice A5 n5 c5, .slice A6 n6 c6, .slice A7 n7 c7, .slice A8 n8 c8, .slice A9 n9 c9, .slice A10 n10 c10, .slice A11 n11 c11]) (by simp [results, Tryz.results10, go_sem, r0, r1, r2, r3, r4, r5, r6, r7, r8, r9, r10, r11]) rfl ⟨rfl, hbe⟩
set_option maxRecDepth 100000 in
set_option maxHeartbeats 4000000 in
theorem ap_none (pos : Int) (Pp Dd Mm : Int) (A3 : Option Addr) (n3 c3 : Nat) (A4 : Option Addr) (n4 c4 : Nat) (A5 : Option Addr) (n5 c5 : Nat) (A6 : Option Addr) (n6 c6 : Nat) (A7 : Option Addr) (n7 c7 : Nat) (A8 : Option Addr) (n8 c8 : Nat) (A9 : Option Addr) (n9 c9 : Nat) (A10 : Option Addr) (n10 c10 : Nat) (A11 : Option Addr) (n11 c11 : Nat) (r : GRec) (vA : Option Addr) (vN vC : Nat) (w : World) (hki : i64 r.kind) (hc : r.cls = 2) (hf : fnAt kindsL r.kind = none) :
    Calls Tryz.prog 10 #[.agg #[.int .u64 Pp, .int .u64 Dd, .int .u64 Mm, .slice A3 n3 c3, .slice A4 n4 c4, .slice A5 n5 c5, .slice A6 n6 c6, .slice A7 n7 c7, .slice A8 n8 c8, .slice A9 n9 c9, .slice A10 n10 c10, .slice A11 n11 c11], .int .u64 pos, .agg #[.int .i64 r.cls, .int .i64 r.kind, .int .u64 r.frm, .int .i64 r.time, .int .u64 r.key, .int .u64 r.key2, .int .u64 r.key3, .int .i64 r.n, .int .i64 r.m, .string r.a, .string r.b, .string r.c, .slice vA vN vC]] w fun e w' => e = .returned (.agg #[.int .u64 pos, .int .u64 (max Dd r.frm), .int .u64 Mm, .slice A3 n3 c3, .slice A4 n4 c4, .slice A5 n5 c5, .slice A6 n6 c6, .slice A7 n7 c7, .slice A8 n8 c8, .slice A9 n9 c9, .slice A10 n10 c10, .slice A11 n11 c11]) ∧ Below w.heap.size w w' := by
  obtain ⟨N, hN⟩ : ∃ N, N = ((w.alloc (.cells #[.int .u64 pos, .int .u64 (max Dd r.frm), .int .u64 Mm, .slice A3 n3 c3, .slice A4 n4 c4, .slice A5 n5 c5, .slice A6 n6 c6, .slice A7 n7 c7, .slice A8 n8 c8, .slice A9 n9 c9, .slice A10 n10 c10, .slice A11 n11 c11] 35)).alloc (.cells #[.int .i64 r.cls, .int .i64 r.kind, .int .u64 r.frm, .int .i64 r.time, .int .u64 r.key, .int .u64 r.key2, .int .u64 r.key3, .int .i64 r.n, .int .i64 r.m, .string r.a, .string r.b, .string r.c, .slice vA vN vC] 39)).alloc (.cells #[.int .u64 0, .int .u64 0, .int .u64 0, .slice none 0 0, .slice none 0 0, .slice none 0 0, .slice none 0 0, .slice none 0 0, .slice none 0 0, .slice none 0 0, .slice none 0 0, .slice none 0 0] 35) := ⟨_, rfl⟩
  have b0 : N.heap[w.heap.size]? = some (.cells #[.int .u64 pos, .int .u64 (max Dd r.frm), .int .u64 Mm, .slice A3 n3 c3, .slice A4 n4 c4, .slice A5 n5 c5, .slice A6 n6 c6, .slice A7 n7 c7, .slice A8 n8 c8, .slice A9 n9 c9, .slice A10 n10 c10, .slice A11 n11 c11] 35 (0, 0)) := by rw [hN]; exact blk_alloc (blk_alloc (blk_new _) _) _
  have b1 : recB N (w.heap.size + 1) r vA vN vC := by rw [hN]; exact blk_alloc (blk_new_of _ (by simp)) _
  have b2 : N.heap[w.heap.size + 1 + 1]? = some (.cells #[.int .u64 0, .int .u64 0, .int .u64 0, .slice none 0 0, .slice none 0 0, .slice none 0 0, .slice none 0 0, .slice none 0 0, .slice none 0 0, .slice none 0 0, .slice none 0 0, .slice none 0 0] 35 (0, 0)) := by rw [hN]; exact blk_new_of _ (by simp)
  have hB : Below w.heap.size w N := by rw [hN]; exact below_alloc (below_alloc (below_alloc (Below.refl _ _) _) _) _
  have hsz : N.heap.size = w.heap.size + 3 := by rw [hN]; simp
  have HN := Lib.hid hN
  have HB := Lib.hid hB
  have HSZ := Lib.hid hsz
  have K0 := Lib.hid b0
  have K1 := Lib.hid b1
  have K2 := Lib.hid b2
  have q2 := bne_f hc
  have HFN := Lib.hid hf
  clear hf hc
  have HKI := Lib.hid hki
  clear hN hB hsz b0 b1 b2 hki
  have k0 := K0.out
  have k1 := K1.out
  go_enter Tryz.func10, Tryz.ntmps10
  go_wp2_with fail
  rw [show ((w.alloc (.cells #[.int .u64 pos, .int .u64 (max Dd r.frm), .int .u64 Mm, .slice A3 n3 c3, .slice A4 n4 c4, .slice A5 n5 c5, .slice A6 n6 c6, .slice A7 n7 c7, .slice A8 n8 c8, .slice A9 n9 c9, .slice A10 n10 c10, .slice A11 n11 c11] 35)).alloc (.cells #[.int .i64 r.cls, .int .i64 r.kind, .int .u64 r.frm, .int .i64 r.time, .int .u64 r.key, .int .u64 r.key2, .int .u64 r.key3, .int .i64 r.n, .int .i64 r.m, .string r.a, .string r.b, .string r.c, .slice vA vN vC] 39)).alloc (.cells #[.int .u64 0, .int .u64 0, .int .u64 0, .slice none 0 0, .slice none 0 0, .slice none 0 0, .slice none 0 0, .slice none 0 0, .slice none 0 0, .slice none 0 0, .slice none 0 0, .slice none 0 0] 35) = N from HN.out.symm]
  have t0 := cell_regrown (cell_of_blk k0 0)
  have p1 := cell_regrown (cell_of_blk k1 1)
  clear k0 k1
  refine wp_region_ord [] (n := 9) (listed := #[false, false, false, false, false, false, false, false, false]) (by kernel_rfl) rfl rfl ?_
  ((refine wpK_pure (fuel := 8) (listed' := #[false, true, false, false, false, false, false, false, false]) 1 rfl (by kernel_rfl) rfl ?_; (first | go_big_quiet_step (fail) | quiet_step (fail)); refine wpQuiet_nil ?_))
  ((refine wpK_read (fuel := 7) (listed' := #[false, true, true, false, false, false, false, false, false]) 2 (by first | exact regrown_first _ _ | exact regrown_self _) rfl (by kernel_rfl) rfl ?_; (first | go_big_quiet_step (fail) | quiet_step (fail)); refine wpQuiet_nil ?_))
  refine wpK_one (fuel := 6) (listed' := #[true, true, true, false, false, false, false, false, false]) 0 rfl (by kernel_rfl) rfl ?_
  go_wp2_with (go_at_call 20; refine (kinds_c _).mono ?_; rintro e w1 ⟨rfl, hkd, hb⟩; have hlook := fn_look hkd HKI.out; rw [HFN.out] at hlook; simp only [fnV, Option.isSome] at hlook; have HB1 := Lib.hid (below2 (below_redrawn N (N.drawn + 1)) hb); clear hkd hb)
  generalize (redrawn N (N.drawn + 1)).heap.size = kb at *
  refine ⟨rfl, fun _ _ => regrown_of_below HB1.out, ?_⟩
  refine wpK_one (fuel := 5) (listed' := #[true, true, true, true, false, false, false, false, false]) 3 rfl (by kernel_rfl) rfl ?_
  go_wp2_with fail
  refine ⟨rfl, fun _ h => h, ?_⟩
  ((refine wpK_pure (fuel := 4) (listed' := #[true, true, true, true, true, false, false, false, false]) 4 rfl (by kernel_rfl) rfl ?_; (first | go_big_quiet_step (fail) | quiet_step (fail)); refine wpQuiet_nil ?_); (refine wpK_pure (fuel := 3) (listed' := #[true, true, true, true, true, true, false, false, false]) 5 rfl (by kernel_rfl) rfl ?_; (first | go_big_quiet_step (fail) | quiet_step (fail)); refine wpQuiet_nil ?_); (refine wpK_pure (fuel := 2) (listed' := #[true, true, true, true, true, true, true, false, false]) 6 rfl (by kernel_rfl) rfl ?_; (first | go_big_quiet_step (fail) | quiet_step (fail)); refine wpQuiet_nil ?_); (refine wpK_pure (fuel := 1) (listed' := #[true, true, true, true, true, true, true, true, false]) 7 rfl (by kernel_rfl) rfl ?_; (first | go_big_quiet_step (fail) | quiet_step (fail)); refine wpQuiet_nil ?_); (refine wpK_pure (fuel := 0) (listed' := #[true, true, true, true, true, true, true, true, true]) 8 rfl (by kernel_rfl) rfl ?_; (first | go_big_quiet_step (fail) | quiet_step (fail)); refine wpQuiet_nil ?_))
  refine wpK_end rfl ?_
  have k0 := block_below HB1.out K0.out
  have k1 := block_below HB1.out K1.out
  have k2 := block_below HB1.out K2.out
  have s0 := cell_of_blk k0 0
  have s1 := cell_of_blk k0 1
  have s2 := cell_of_blk k0 2
  have s3 := cell_of_blk k0 3
  have s4 := cell_of_blk k0 4
  have s5 := cell_of_blk k0 5
  have s6 := cell_of_blk k0 6
  have s7 := cell_of_blk k0 7
  have s8 := cell_of_blk k0 8
  have s9 := cell_of_blk k0 9
  have s10 := cell_of_blk k0 10
  have s11 := cell_of_blk k0 11
  have q0 := cell_of_blk k1 0
  have q1 := cell_of_blk k1 1
  have q2 := cell_of_blk k1 2
  have q3 := cell_of_blk k1 3
  have q4 := cell_of_blk k1 4
  have q5 := cell_of_blk k1 5
  have q6 := cell_of_blk k1 6
  have q7 := cell_of_blk k1 7
  have q8 := cell_of_blk k1 8
  have q9 := cell_of_blk k1 9
  have q10 := cell_of_blk k1 10
  have q11 := cell_of_blk k1 11
  have q12 := cell_of_blk k1 12
  have z0 := cell_of_blk k2 0
  have z1 := cell_of_blk k2 1
  have z2 := cell_of_blk k2 2
  have z3 := cell_of_blk k2 3
  have z4 := cell_of_blk k2 4
  have z5 := cell_of_blk k2 5
  have z6 := cell_of_blk k2 6
  have z7 := cell_of_blk k2 7
  have z8 := cell_of_blk k2 8
  have z9 := cell_of_blk k2 9
  have z10 := cell_of_blk k2 10
  have z11 := cell_of_blk k2 11
  have g0 := frozen_of_blk k2 0
  have g1 := frozen_of_blk k2 1
  have g2 := frozen_of_blk k2 2
  have g3 := frozen_of_blk k2 3
  have g4 := frozen_of_blk k2 4
  have g5 := frozen_of_blk k2 5
  have g6 := frozen_of_blk k2 6
  have g7 := frozen_of_blk k2 7
  have g8 := frozen_of_blk k2 8
  have g9 := frozen_of_blk k2 9
  have g10 := frozen_of_blk k2 10
  have g11 := frozen_of_blk k2 11
  have KZ := Lib.hid k2
  have KR := Lib.hid k1
  have HWB := Lib.hid (below2 HB.out HB1.out)
  clear k0 k1 k2 hlook p1
  go_wp2_with fail
  generalize hWE : World.setCell (World.setCell (World.setCell (World.setCell (World.setCell (World.setCell (World.setCell (World.setCell (World.setCell (World.setCell (World.setCell (World.setCell (_) _ _) _ _) _ _) _ _) _ _) _ _) _ _) _ _) _ _) _ _) _ _) _ _ = WE
  have ho : WE.heap[w.heap.size + 1 + 1]? = some (.cells #[.int .u64 pos, .int .u64 (max Dd r.frm), .int .u64 Mm, .slice A3 n3 c3, .slice A4 n4 c4, .slice A5 n5 c5, .slice A6 n6 c6, .slice A7 n7 c7, .slice A8 n8 c8, .slice A9 n9 c9, .slice A10 n10 c10, .slice A11 n11 c11] 35 (0, 0)) := by rw [← hWE]; exact set_blk12 (KZ.out) (.int .u64 pos) (.int .u64 (max Dd r.frm)) (.int .u64 Mm) (.slice A3 n3 c3) (.slice A4 n4 c4) (.slice A5 n5 c5) (.slice A6 n6 c6) (.slice A7 n7 c7) (.slice A8 n8 c8) (.slice A9 n9 c9) (.slice A10 n10 c10) (.slice A11 n11 c11)
  have hbe : Below w.heap.size w WE := by rw [← hWE]; exact ((((((((((((HWB.out).setCell (p := ⟨w.heap.size + 1 + 1, 0, none⟩) (by show _ ≤ _ + 1 + 1; omega) _).setCell (p := ⟨w.heap.size + 1 + 1, 1, none⟩) (by show _ ≤ _ + 1 + 1; omega) _).setCell (p := ⟨w.heap.size + 1 + 1, 2, none⟩) (by show _ ≤ _ + 1 + 1; omega) _).setCell (p := ⟨w.heap.size + 1 + 1, 3, none⟩) (by show _ ≤ _ + 1 + 1; omega) _).setCell (p := ⟨w.heap.size + 1 + 1, 4, none⟩) (by show _ ≤ _ + 1 + 1; omega) _).setCell (p := ⟨w.heap.size + 1 + 1, 5, none⟩) (by show _ ≤ _ + 1 + 1; omega) _).setCell (p := ⟨w.heap.size + 1 + 1, 6, none⟩) (by show _ ≤ _ + 1 + 1; omega) _).setCell (p := ⟨w.heap.size + 1 + 1, 7, none⟩) (by show _ ≤ _ + 1 + 1; omega) _).setCell (p := ⟨w.heap.size + 1 + 1, 8, none⟩) (by show _ ≤ _ + 1 + 1; omega) _).setCell (p := ⟨w.heap.size + 1 + 1, 9, none⟩) (by show _ ≤ _ + 1 + 1; omega) _).setCell (p := ⟨w.heap.size + 1 + 1, 10, none⟩) (by show _ ≤ _ + 1 + 1; omega) _).setCell (p := ⟨w.heap.size + 1 + 1, 11, none⟩) (by show _ ≤ _ + 1 + 1; omega) _
  have hmu : Mut (fun b => b = w.heap.size ∨ b = w.heap.size + 1 + 1) w1 WE := by
    rw [← hWE]
    exact Mut.setCell (T := fun b => b = w.heap.size ∨ b = w.heap.size + 1 + 1) (Mut.setCell (T := fun b => b = w.heap.size ∨ b = w.heap.size + 1 + 1) (Mut.setCell (T := fun b => b = w.heap.size ∨ b = w.heap.size + 1 + 1) (Mut.setCell (T := fun b => b = w.heap.size ∨ b = w.heap.size + 1 + 1) (Mut.setCell (T := fun b => b = w.heap.size ∨ b = w.heap.size + 1 + 1) (Mut.setCell (T := fun b => b = w.heap.size ∨ b = w.heap.size + 1 + 1) (Mut.setCell (T := fun b => b = w.heap.size ∨ b = w.heap.size + 1 + 1) (Mut.setCell (T := fun b => b = w.heap.size ∨ b = w.heap.size + 1 + 1) (Mut.setCell (T := fun b => b = w.heap.size ∨ b = w.heap.size + 1 + 1) (Mut.setCell (T := fun b => b = w.heap.size ∨ b = w.heap.size + 1 + 1) (Mut.setCell (T := fun b => b = w.heap.size ∨ b = w.heap.size + 1 + 1) (Mut.setCell (T := fun b => b = w.heap.size ∨ b = w.heap.size + 1 + 1) (Mut.refl _ _) (p := ⟨w.heap.size + 1 + 1, 0, none⟩) (fun _ => .inr rfl) _) (p := ⟨w.heap.size + 1 + 1, 1, none⟩) (fun _ => .inr rfl) _) (p := ⟨w.heap.size + 1 + 1, 2, none⟩) (fun _ => .inr rfl) _) (p := ⟨w.heap.size + 1 + 1, 3, none⟩) (fun _ => .inr rfl) _) (p := ⟨w.heap.size + 1 + 1, 4, none⟩) (fun _ => .inr rfl) _) (p := ⟨w.heap.size + 1 + 1, 5, none⟩) (fun _ => .inr rfl) _) (p := ⟨w.heap.size + 1 + 1, 6, none⟩) (fun _ => .inr rfl) _) (p := ⟨w.heap.size + 1 + 1, 7, none⟩) (fun _ => .inr rfl) _) (p := ⟨w.heap.size + 1 + 1, 8, none⟩) (fun _ => .inr rfl) _) (p := ⟨w.heap.size + 1 + 1, 9, none⟩) (fun _ => .inr rfl) _) (p := ⟨w.heap.size + 1 + 1, 10, none⟩) (fun _ => .inr rfl) _) (p := ⟨w.heap.size + 1 + 1, 11, none⟩) (fun _ => .inr rfl) _
  have r0 := cell_of_blk ho 0
  have r1 := cell_of_blk ho 1
  have r2 := cell_of_blk ho 2
  have r3 := cell_of_blk ho 3
  have r4 := cell_of_blk ho 4
  have r5 := cell_of_blk ho 5
  have r6 := cell_of_blk ho 6
  have r7 := cell_of_blk ho 7
  have r8 := cell_of_blk ho 8
  have r9 := cell_of_blk ho 9
  have r10 := cell_of_blk ho 10
  have r11 := cell_of_blk ho 11
  refine bodyPost_ret (v := .agg #[.int .u64 pos, .int .u64 (max Dd r.frm), .int .u64 Mm, .slice A3 n3 c3, .slice A4 n4 c4, .slice A5 n5 c5, .slice A6 n6 c6, .slice A7 n7 c7, .slice A8 n8 c8, .slice A9 n9 c9, .slice A10 n10 c10, .slice A11 n11 c11]) (by simp [results, Tryz.results10, go_sem, r0, r1, r2, r3, r4, r5, r6, r7, r8, r9, r10, r11]) rfl ⟨rfl, hbe⟩
set_option maxRecDepth 100000 in
set_option maxHeartbeats 4000000 in
theorem ap_ev (pos : Int) (Pp Dd Mm : Int) (A3 : Option Addr) (n3 c3 : Nat) (A4 : Option Addr) (n4 c4 : Nat) (A5 : Option Addr) (n5 c5 : Nat) (A6 : Option Addr) (n6 c6 : Nat) (A7 : Option Addr) (n7 c7 : Nat) (A8 : Option Addr) (n8 c8 : Nat) (A9 : Option Addr) (n9 c9 : Nat) (A10 : Option Addr) (n10 c10 : Nat) (A11 : Option Addr) (n11 c11 : Nat) (r : GRec) (vA : Option Addr) (vN vC : Nat) (w : World) (hki : i64 r.kind) (hc : r.cls = 2) (fo : Nat) (hf : fnAt kindsL r.kind = some fo) (eg : ∀ args w, (callFunc fo args).run Tryz.prog w = .ok (.enter fo args) w) (Q : StV → World → Prop)
    (hdoes : ∀ W, Below w.heap.size w W → w.heap.size + 3 ≤ W.heap.size → Calls Tryz.prog fo #[.agg #[.int .u64 pos, .int .u64 (max Dd r.frm), .int .u64 Mm, .slice A3 n3 c3, .slice A4 n4 c4, .slice A5 n5 c5, .slice A6 n6 c6, .slice A7 n7 c7, .slice A8 n8 c8, .slice A9 n9 c9, .slice A10 n10 c10, .slice A11 n11 c11], .agg #[.int .i64 r.cls, .int .i64 r.kind, .int .u64 r.frm, .int .i64 r.time, .int .u64 r.key, .int .u64 r.key2, .int .u64 r.key3, .int .i64 r.n, .int .i64 r.m, .string r.a, .string r.b, .string r.c, .slice vA vN vC]] W fun e w' => ∃ v', e = .returned (.agg v'.vals) ∧ Q v' w' ∧ Below W.heap.size W w')
    (hQ : ∀ v' W W', Q v' W → Mut (fun b => b = w.heap.size + 1 + 1) W W' → Q v' W') :
    Calls Tryz.prog 10 #[.agg #[.int .u64 Pp, .int .u64 Dd, .int .u64 Mm, .slice A3 n3 c3, .slice A4 n4 c4, .slice A5 n5 c5, .slice A6 n6 c6, .slice A7 n7 c7, .slice A8 n8 c8, .slice A9 n9 c9, .slice A10 n10 c10, .slice A11 n11 c11], .int .u64 pos, .agg #[.int .i64 r.cls, .int .i64 r.kind, .int .u64 r.frm, .int .i64 r.time, .int .u64 r.key, .int .u64 r.key2, .int .u64 r.key3, .int .i64 r.n, .int .i64 r.m, .string r.a, .string r.b, .string r.c, .slice vA vN vC]] w fun e w' => ∃ v', e = .returned (.agg v'.vals) ∧ Q v' w' ∧ Below w.heap.size w w' := by
  obtain ⟨N, hN⟩ : ∃ N, N = ((w.alloc (.cells #[.int .u64 pos, .int .u64 (max Dd r.frm), .int .u64 Mm, .slice A3 n3 c3, .slice A4 n4 c4, .slice A5 n5 c5, .slice A6 n6 c6, .slice A7 n7 c7, .slice A8 n8 c8, .slice A9 n9 c9, .slice A10 n10 c10, .slice A11 n11 c11] 35)).alloc (.cells #[.int .i64 r.cls, .int .i64 r.kind, .int .u64 r.frm, .int .i64 r.time, .int .u64 r.key, .int .u64 r.key2, .int .u64 r.key3, .int .i64 r.n, .int .i64 r.m, .string r.a, .string r.b, .string r.c, .slice vA vN vC] 39)).alloc (.cells #[.int .u64 0, .int .u64 0, .int .u64 0, .slice none 0 0, .slice none 0 0, .slice none 0 0, .slice none 0 0, .slice none 0 0, .slice none 0 0, .slice none 0 0, .slice none 0 0, .slice none 0 0] 35) := ⟨_, rfl⟩
  have b0 : N.heap[w.heap.size]? = some (.cells #[.int .u64 pos, .int .u64 (max Dd r.frm), .int .u64 Mm, .slice A3 n3 c3, .slice A4 n4 c4, .slice A5 n5 c5, .slice A6 n6 c6, .slice A7 n7 c7, .slice A8 n8 c8, .slice A9 n9 c9, .slice A10 n10 c10, .slice A11 n11 c11] 35 (0, 0)) := by rw [hN]; exact blk_alloc (blk_alloc (blk_new _) _) _
  have b1 : recB N (w.heap.size + 1) r vA vN vC := by rw [hN]; exact blk_alloc (blk_new_of _ (by simp)) _
  have b2 : N.heap[w.heap.size + 1 + 1]? = some (.cells #[.int .u64 0, .int .u64 0, .int .u64 0, .slice none 0 0, .slice none 0 0, .slice none 0 0, .slice none 0 0, .slice none 0 0, .slice none 0 0, .slice none 0 0, .slice none 0 0, .slice none 0 0] 35 (0, 0)) := by rw [hN]; exact blk_new_of _ (by simp)
  have hB : Below w.heap.size w N := by rw [hN]; exact below_alloc (below_alloc (below_alloc (Below.refl _ _) _) _) _
  have hsz : N.heap.size = w.heap.size + 3 := by rw [hN]; simp
  have HN := Lib.hid hN
  have HB := Lib.hid hB
  have HSZ := Lib.hid hsz
  have K0 := Lib.hid b0
  have K1 := Lib.hid b1
  have K2 := Lib.hid b2
  have q2 := bne_f hc
  have q4 := beq_t hc
  have HFN := Lib.hid hf
  have HD := Lib.hid hdoes
  have HQQ := Lib.hid hQ
  clear hf hdoes hQ hc
  have HKI := Lib.hid hki
  clear hN hB hsz b0 b1 b2 hki
  have k0 := K0.out
  have k1 := K1.out
  go_enter Tryz.func10, Tryz.ntmps10
  go_wp2_with fail
  rw [show ((w.alloc (.cells #[.int .u64 pos, .int .u64 (max Dd r.frm), .int .u64 Mm, .slice A3 n3 c3, .slice A4 n4 c4, .slice A5 n5 c5, .slice A6 n6 c6, .slice A7 n7 c7, .slice A8 n8 c8, .slice A9 n9 c9, .slice A10 n10 c10, .slice A11 n11 c11] 35)).alloc (.cells #[.int .i64 r.cls, .int .i64 r.kind, .int .u64 r.frm, .int .i64 r.time, .int .u64 r.key, .int .u64 r.key2, .int .u64 r.key3, .int .i64 r.n, .int .i64 r.m, .string r.a, .string r.b, .string r.c, .slice vA vN vC] 39)).alloc (.cells #[.int .u64 0, .int .u64 0, .int .u64 0, .slice none 0 0, .slice none 0 0, .slice none 0 0, .slice none 0 0, .slice none 0 0, .slice none 0 0, .slice none 0 0, .slice none 0 0, .slice none 0 0] 35) = N from HN.out.symm]
  have t0 := cell_regrown (cell_of_blk k0 0)
  have p1 := cell_regrown (cell_of_blk k1 1)
  clear k0 k1
  refine wp_region_ord [] (n := 9) (listed := #[false, false, false, false, false, false, false, false, false]) (by kernel_rfl) rfl rfl ?_
  ((refine wpK_pure (fuel := 8) (listed' := #[false, true, false, false, false, false, false, false, false]) 1 rfl (by kernel_rfl) rfl ?_; (first | go_big_quiet_step (fail) | quiet_step (fail)); refine wpQuiet_nil ?_))
  ((refine wpK_read (fuel := 7) (listed' := #[false, true, true, false, false, false, false, false, false]) 2 (by first | exact regrown_first _ _ | exact regrown_self _) rfl (by kernel_rfl) rfl ?_; (first | go_big_quiet_step (fail) | quiet_step (fail)); refine wpQuiet_nil ?_))
  refine wpK_one (fuel := 6) (listed' := #[true, true, true, false, false, false, false, false, false]) 0 rfl (by kernel_rfl) rfl ?_
  go_wp2_with (go_at_call 20; refine (kinds_c _).mono ?_; rintro e w1 ⟨rfl, hkd, hb⟩; have hlook := fn_look hkd HKI.out; rw [HFN.out] at hlook; simp only [fnV, Option.isSome] at hlook; have HB1 := Lib.hid (below2 (below_redrawn N (N.drawn + 1)) hb); clear hkd hb)
  generalize (redrawn N (N.drawn + 1)).heap.size = kb at *
  refine ⟨rfl, fun _ _ => regrown_of_below HB1.out, ?_⟩
  refine wpK_one (fuel := 5) (listed' := #[true, true, true, true, false, false, false, false, false]) 3 rfl (by kernel_rfl) rfl ?_
  go_wp2_with fail
  refine ⟨rfl, fun _ h => h, ?_⟩
  ((refine wpK_pure (fuel := 4) (listed' := #[true, true, true, true, true, false, false, false, false]) 4 rfl (by kernel_rfl) rfl ?_; (first | go_big_quiet_step (fail) | quiet_step (fail)); refine wpQuiet_nil ?_); (refine wpK_pure (fuel := 3) (listed' := #[true, true, true, true, true, true, false, false, false]) 5 rfl (by kernel_rfl) rfl ?_; (first | go_big_quiet_step (fail) | quiet_step (fail)); refine wpQuiet_nil ?_); (refine wpK_pure (fuel := 2) (listed' := #[true, true, true, true, true, true, true, false, false]) 6 rfl (by kernel_rfl) rfl ?_; (first | go_big_quiet_step (fail) | quiet_step (fail)); refine wpQuiet_nil ?_); (refine wpK_pure (fuel := 1) (listed' := #[true, true, true, true, true, true, true, true, false]) 7 rfl (by kernel_rfl) rfl ?_; (first | go_big_quiet_step (fail) | quiet_step (fail)); refine wpQuiet_nil ?_); (refine wpK_pure (fuel := 0) (listed' := #[true, true, true, true, true, true, true, true, true]) 8 rfl (by kernel_rfl) rfl ?_; (first | go_big_quiet_step (fail) | quiet_step (fail)); refine wpQuiet_nil ?_))
  refine wpK_end rfl ?_
  have k0 := block_below HB1.out K0.out
  have k1 := block_below HB1.out K1.out
  have k2 := block_below HB1.out K2.out
  have s0 := cell_of_blk k0 0
  have s1 := cell_of_blk k0 1
  have s2 := cell_of_blk k0 2
  have s3 := cell_of_blk k0 3
  have s4 := cell_of_blk k0 4
  have s5 := cell_of_blk k0 5
  have s6 := cell_of_blk k0 6
  have s7 := cell_of_blk k0 7
  have s8 := cell_of_blk k0 8
  have s9 := cell_of_blk k0 9
  have s10 := cell_of_blk k0 10
  have s11 := cell_of_blk k0 11
  have q0 := cell_of_blk k1 0
  have q1 := cell_of_blk k1 1
  have q2 := cell_of_blk k1 2
  have q3 := cell_of_blk k1 3
  have q4 := cell_of_blk k1 4
  have q5 := cell_of_blk k1 5
  have q6 := cell_of_blk k1 6
  have q7 := cell_of_blk k1 7
  have q8 := cell_of_blk k1 8
  have q9 := cell_of_blk k1 9
  have q10 := cell_of_blk k1 10
  have q11 := cell_of_blk k1 11
  have q12 := cell_of_blk k1 12
  have z0 := cell_of_blk k2 0
  have z1 := cell_of_blk k2 1
  have z2 := cell_of_blk k2 2
  have z3 := cell_of_blk k2 3
  have z4 := cell_of_blk k2 4
  have z5 := cell_of_blk k2 5
  have z6 := cell_of_blk k2 6
  have z7 := cell_of_blk k2 7
  have z8 := cell_of_blk k2 8
  have z9 := cell_of_blk k2 9
  have z10 := cell_of_blk k2 10
  have z11 := cell_of_blk k2 11
  have g0 := frozen_of_blk k2 0
  have g1 := frozen_of_blk k2 1
  have g2 := frozen_of_blk k2 2
  have g3 := frozen_of_blk k2 3
  have g4 := frozen_of_blk k2 4
  have g5 := frozen_of_blk k2 5
  have g6 := frozen_of_blk k2 6
  have g7 := frozen_of_blk k2 7
  have g8 := frozen_of_blk k2 8
  have g9 := frozen_of_blk k2 9
  have g10 := frozen_of_blk k2 10
  have g11 := frozen_of_blk k2 11
  have KZ := Lib.hid k2
  have KR := Lib.hid k1
  have HWB := Lib.hid (below2 HB.out HB1.out)
  clear k0 k1 k2 hlook p1
  go_wp2_with fail
  have hW1 := HB1.out.size
  have hNs := HSZ.out
  refine (HD.out w1 HWB.out (by omega)).mono ?_
  rintro e w2 ⟨v', rfl, hq, hb⟩
  unfold StV.vals
  have HQ2 := Lib.hid hq
  have k2 := block_below hb KZ.out
  have HWB := Lib.hid (below2 HWB.out hb)
  clear hq hb z0 z1 z2 z3 z4 z5 z6 z7 z8 z9 z10 z11 g0 g1 g2 g3 g4 g5 g6 g7 g8 g9 g10 g11
  have z0 := cell_of_blk k2 0
  have z1 := cell_of_blk k2 1
  have z2 := cell_of_blk k2 2
  have z3 := cell_of_blk k2 3
  have z4 := cell_of_blk k2 4
  have z5 := cell_of_blk k2 5
  have z6 := cell_of_blk k2 6
  have z7 := cell_of_blk k2 7
  have z8 := cell_of_blk k2 8
  have z9 := cell_of_blk k2 9
  have z10 := cell_of_blk k2 10
  have z11 := cell_of_blk k2 11
  have g0 := frozen_of_blk k2 0
  have g1 := frozen_of_blk k2 1
  have g2 := frozen_of_blk k2 2
  have g3 := frozen_of_blk k2 3
  have g4 := frozen_of_blk k2 4
  have g5 := frozen_of_blk k2 5
  have g6 := frozen_of_blk k2 6
  have g7 := frozen_of_blk k2 7
  have g8 := frozen_of_blk k2 8
  have g9 := frozen_of_blk k2 9
  have g10 := frozen_of_blk k2 10
  have g11 := frozen_of_blk k2 11
  have KZ := Lib.hid k2
  clear k2
  go_wp2_with fail
  generalize hWE : World.setCell (World.setCell (World.setCell (World.setCell (World.setCell (World.setCell (World.setCell (World.setCell (World.setCell (World.setCell (World.setCell (World.setCell (_) _ _) _ _) _ _) _ _) _ _) _ _) _ _) _ _) _ _) _ _) _ _) _ _ = WE
  have ho : WE.heap[w.heap.size + 1 + 1]? = some (.cells #[.int .u64 v'.Pp, .int .u64 v'.Dd, .int .u64 v'.Mm, .slice v'.A3 v'.n3 v'.c3, .slice v'.A4 v'.n4 v'.c4, .slice v'.A5 v'.n5 v'.c5, .slice v'.A6 v'.n6 v'.c6, .slice v'.A7 v'.n7 v'.c7, .slice v'.A8 v'.n8 v'.c8, .slice v'.A9 v'.n9 v'.c9, .slice v'.A10 v'.n10 v'.c10, .slice v'.A11 v'.n11 v'.c11] 35 (0, 0)) := by rw [← hWE]; exact set_blk12 (KZ.out) (.int .u64 v'.Pp) (.int .u64 v'.Dd) (.int .u64 v'.Mm) (.slice v'.A3 v'.n3 v'.c3) (.slice v'.A4 v'.n4 v'.c4) (.slice v'.A5 v'.n5 v'.c5) (.slice v'.A6 v'.n6 v'.c6) (.slice v'.A7 v'.n7 v'.c7) (.slice v'.A8 v'.n8 v'.c8) (.slice v'.A9 v'.n9 v'.c9) (.slice v'.A10 v'.n10 v'.c10) (.slice v'.A11 v'.n11 v'.c11)
  have hbe : Below w.heap.size w WE := by rw [← hWE]; exact ((((((((((((HWB.out).setCell (p := ⟨w.heap.size + 1 + 1, 0, none⟩) (by show _ ≤ _ + 1 + 1; omega) _).setCell (p := ⟨w.heap.size + 1 + 1, 1, none⟩) (by show _ ≤ _ + 1 + 1; omega) _).setCell (p := ⟨w.heap.size + 1 + 1, 2, none⟩) (by show _ ≤ _ + 1 + 1; omega) _).setCell (p := ⟨w.heap.size + 1 + 1, 3, none⟩) (by show _ ≤ _ + 1 + 1; omega) _).setCell (p := ⟨w.heap.size + 1 + 1, 4, none⟩) (by show _ ≤ _ + 1 + 1; omega) _).setCell (p := ⟨w.heap.size + 1 + 1, 5, none⟩) (by show _ ≤ _ + 1 + 1; omega) _).setCell (p := ⟨w.heap.size + 1 + 1, 6, none⟩) (by show _ ≤ _ + 1 + 1; omega) _).setCell (p := ⟨w.heap.size + 1 + 1, 7, none⟩) (by show _ ≤ _ + 1 + 1; omega) _).setCell (p := ⟨w.heap.size + 1 + 1, 8, none⟩) (by show _ ≤ _ + 1 + 1; omega) _).setCell (p := ⟨w.heap.size + 1 + 1, 9, none⟩) (by show _ ≤ _ + 1 + 1; omega) _).setCell (p := ⟨w.heap.size + 1 + 1, 10, none⟩) (by show _ ≤ _ + 1 + 1; omega) _).setCell (p := ⟨w.heap.size + 1 + 1, 11, none⟩) (by show _ ≤ _ + 1 + 1; omega) _
  have hmu : Mut (fun b => b = w.heap.size + 1 + 1) w2 WE := by
    rw [← hWE]
    exact Mut.setCell (T := fun b => b = w.heap.size + 1 + 1) (Mut.setCell (T := fun b => b = w.heap.size + 1 + 1) (Mut.setCell (T := fun b => b = w.heap.size + 1 + 1) (Mut.setCell (T := fun b => b = w.heap.size + 1 + 1) (Mut.setCell (T := fun b => b = w.heap.size + 1 + 1) (Mut.setCell (T := fun b => b = w.heap.size + 1 + 1) (Mut.setCell (T := fun b => b = w.heap.size + 1 + 1) (Mut.setCell (T := fun b => b = w.heap.size + 1 + 1) (Mut.setCell (T := fun b => b = w.heap.size + 1 + 1) (Mut.setCell (T := fun b => b = w.heap.size + 1 + 1) (Mut.setCell (T := fun b => b = w.heap.size + 1 + 1) (Mut.setCell (T := fun b => b = w.heap.size + 1 + 1) (Mut.refl _ _) (p := ⟨w.heap.size + 1 + 1, 0, none⟩) (fun _ => rfl) _) (p := ⟨w.heap.size + 1 + 1, 1, none⟩) (fun _ => rfl) _) (p := ⟨w.heap.size + 1 + 1, 2, none⟩) (fun _ => rfl) _) (p := ⟨w.heap.size + 1 + 1, 3, none⟩) (fun _ => rfl) _) (p := ⟨w.heap.size + 1 + 1, 4, none⟩) (fun _ => rfl) _) (p := ⟨w.heap.size + 1 + 1, 5, none⟩) (fun _ => rfl) _) (p := ⟨w.heap.size + 1 + 1, 6, none⟩) (fun _ => rfl) _) (p := ⟨w.heap.size + 1 + 1, 7, none⟩) (fun _ => rfl) _) (p := ⟨w.heap.size + 1 + 1, 8, none⟩) (fun _ => rfl) _) (p := ⟨w.heap.size + 1 + 1, 9, none⟩) (fun _ => rfl) _) (p := ⟨w.heap.size + 1 + 1, 10, none⟩) (fun _ => rfl) _) (p := ⟨w.heap.size + 1 + 1, 11, none⟩) (fun _ => rfl) _
  have r0 := cell_of_blk ho 0
  have r1 := cell_of_blk ho 1
  have r2 := cell_of_blk ho 2
  have r3 := cell_of_blk ho 3
  have r4 := cell_of_blk ho 4
  have r5 := cell_of_blk ho 5
  have r6 := cell_of_blk ho 6
  have r7 := cell_of_blk ho 7
  have r8 := cell_of_blk ho 8
  have r9 := cell_of_blk ho 9
  have r10 := cell_of_blk ho 10
  have r11 := cell_of_blk ho 11
  refine bodyPost_ret (v := .agg #[.int .u64 v'.Pp, .int .u64 v'.Dd, .int .u64 v'.Mm, .slice v'.A3 v'.n3 v'.c3, .slice v'.A4 v'.n4 v'.c4, .slice v'.A5 v'.n5 v'.c5, .slice v'.A6 v'.n6 v'.c6, .slice v'.A7 v'.n7 v'.c7, .slice v'.A8 v'.n8 v'.c8, .slice v'.A9 v'.n9 v'.c9, .slice v'.A10 v'.n10 v'.c10, .slice v'.A11 v'.n11 v'.c11]) (by simp [results, Tryz.results10, go_sem, r0, r1, r2, r3, r4, r5, r6, r7, r8, r9, r10, r11]) rfl ⟨v', rfl, HQQ.out v' _ _ HQ2.out hmu, hbe⟩
end Go.Proofs.YtgpkmellpllmgaaGreat
/-
  The walks of cmp.Compare, cmp.Or, strings.Compare, fold.ahead.
-/
set_option linter.unusedVariables false
set_option linter.unusedSimpArgs false
namespace Go.Proofs.YtgpkmellpllmgaaGreat
open Go Go.RowKit Go.Proofs.Base
open Go.Sort (grow)
set_option maxRecDepth 100000 in
theorem nan_u64 (a : Int) (w : World) : Calls Tryz.prog 140 #[.int .u64 a] w fun e w' => e = .returned (.bool false) ∧ w = w' := by
  have h := bne_f (a := a) (b := a) rfl
  go_enter Tryz.func140, Tryz.ntmps140
  go_wp2
  go_ret
  exact ⟨rfl, rfl⟩
set_option maxRecDepth 100000 in
theorem cmp_u64 (a b : Int) (w : World) : Calls Tryz.prog 83 #[.int .u64 a, .int .u64 b] w fun e w' => e = .returned (.int .i64 (cmpI a b)) ∧ w = w' := by
  by_cases h1 : a < b
  · have HC : Hid (cmpI a b = -1) := Lib.hid (by unfold cmpI; rw [if_pos h1])
    have h2 : ¬ b < a := by omega
    go_enter Tryz.func83, Tryz.ntmps83
    go_wp2_with (go_at_call 140; refine (nan_u64 _ _).mono ?_; rintro e w' ⟨rfl, rfl⟩)
    go_ret
    exact ⟨by rw [HC.out]; rfl, rfl⟩
  · by_cases h2 : b < a
    · have HC : Hid (cmpI a b = 1) := Lib.hid (by unfold cmpI; rw [if_neg h1, if_pos h2])
      go_enter Tryz.func83, Tryz.ntmps83
      go_wp2_with (go_at_call 140; refine (nan_u64 _ _).mono ?_; rintro e w' ⟨rfl, rfl⟩)
      go_ret
      exact ⟨by rw [HC.out]; rfl, rfl⟩
    · have HC : Hid (cmpI a b = 0) := Lib.hid (by unfold cmpI; rw [if_neg h1, if_neg h2])
      go_enter Tryz.func83, Tryz.ntmps83
      go_wp2_with (go_at_call 140; refine (nan_u64 _ _).mono ?_; rintro e w' ⟨rfl, rfl⟩)
      go_ret
      exact ⟨by rw [HC.out]; rfl, rfl⟩
end Go.Proofs.YtgpkmellpllmgaaGreat
/-
  Lists of Deployed: searched, copied. Printed by gfold.py.
-/
set_option linter.unusedVariables false
set_option linter.unusedSimpArgs false
namespace Go.Proofs.YtgpkmellpllmgaaGreat
open Go Go.RowKit Go.Proofs.Base
open Go.Sort (grow)
end Go.Proofs.YtgpkmellpllmgaaGreat
/-
  slices.Insert of one Deployed. Printed by gfold.py out of XIns.
-/
set_option linter.unusedVariables false
set_option linter.unusedSimpArgs false
namespace Go.Proofs.YtgpkmellpllmgaaGreat
open Go Go.RowKit Go.Proofs.Base
end Go.Proofs.YtgpkmellpllmgaaGreat
/-
  fold.put of Deployed. Printed by gfold.py.
-/
set_option linter.unusedVariables false
set_option linter.unusedSimpArgs false
namespace Go.Proofs.YtgpkmellpllmgaaGreat
open Go Go.RowKit Go.Proofs.Base
open Go.Sort (grow)
end Go.Proofs.YtgpkmellpllmgaaGreat
/-
  Lists of Instance: searched, copied. Printed by gfold.py.
-/
set_option linter.unusedVariables false
set_option linter.unusedSimpArgs false
namespace Go.Proofs.YtgpkmellpllmgaaGreat
open Go Go.RowKit Go.Proofs.Base
open Go.Sort (grow)
set_option maxRecDepth 100000 in
set_option maxHeartbeats 2000000 in
theorem clone_Inst (A : Option Addr) (n c : Nat) (l : List EInst) (w : World) (S : Nat → Prop) (hl : l.length = n) (hby : n * 48 ≤ 140737488355328) (hr : Row w S 3 n (.slice A n c) (l.flatMap encInst)) :
    Calls Tryz.prog 29 #[.slice A n c] w fun e w' => ∃ A' c', e = .returned (.slice A' n c') ∧ w'.ownsRow w.heap.size 61 3 (.slice A' n c') n (l.flatMap encInst) ∧ Below w.heap.size w w' := by
  obtain ⟨i0, z, hi0, hz0, hz1, hz2, hzc⟩ := eInst.hi
  have q : ∀ (w : World) (a : Option Addr) (n c n' c' : Nat), (binOp .eql 26 (.slice a n c) (.slice none n' c')).run Tryz.prog w = .ok (.bool a.isNone) w := fun w a n c n' c' => Lib.run_eql_slice_nil w _ _ a n c n' c' Tryz.underlying26
  obtain ⟨A', c', he, hnc, hcm, hlen, hnone, hsome⟩ := hr
  injection he with e1 _ e3
  subst e1 e3
  cases A with
  | none =>
    obtain ⟨rfl, rfl⟩ := hnone rfl
    obtain rfl : l = [] := List.eq_nil_of_length_eq_zero hl
    clear hsome hlen
    go_enter Tryz.func29, Tryz.ntmps29
    go_wp2
    go_ret
    exact ⟨none, 0, rfl, own_nil _ _ _ _, Below.refl _ _⟩
  | some ad =>
    have HC : Hid (∀ j u, (l.flatMap encInst)[j]? = some u → w.cell? (ad.add j) = some u) := Lib.hid (fun j u hu => by
      rcases Nat.eq_zero_or_pos n with h0 | h0
      · subst h0
        obtain rfl : l = [] := List.eq_nil_of_length_eq_zero hl
        simp at hu
      · obtain ⟨b, o, hA, _, _, hc⟩ := hsome h0
        injection hA with hA
        subst hA
        rw [add_plain]
        exact hc j u hu)
    have HVL := Lib.hid hlen
    have H1 := Lib.hid (flat_one (enc := encInst) oneInst l)
    clear hsome hlen hnone hl
    go_enter Tryz.func29, Tryz.ntmps29
    go_wp2_with (at_builtin; refine wpList_append_own _ rfl _ _ 26 rfl w.heap.size 61 i0 z 3 48 Tryz.underlying26 hi0 hz0 hz1 hz2 hzc (by omega) _ _ _ rfl (World.ownsRow_made w #[] 0 (Nat.le_refl _) (Nat.zero_le _) (by simp)) ad n c (l.flatMap encInst) rfl HVL.out (fun j u hj => Lib.cell?_alloc_some _ (HC.out j u hj)) H1.out (by simp only [maxLen]; omega) (by omega) (by simp) ?_; intro v' w1 hown hgrow hnil)
    go_ret
    have hown' : w1.ownsRow w.heap.size 61 3 v' n (l.flatMap encInst) := by simpa using hown
    obtain ⟨A2, c2, rfl, _, _⟩ := (Row.of_own hown').open_
    exact ⟨A2, c2, rfl, hown', ((Below.refl _ w).alloc (Nat.le_refl _) _).grown hgrow (by simp) (by intro k hk; injection hk with hk; exact Nat.le_of_eq hk)⟩
set_option maxRecDepth 100000 in
set_option maxHeartbeats 1000000 in
theorem idx_Inst (A : Option Addr) (n c g : Nat) (lb : Array Value) (l : List EInst) (p : EInst → Bool) (w0 w : World) (S : Nat → Prop) (eg : ∀ args w, (callFunc g args).run Tryz.prog w = .ok (.enter g args) w) (hl : l.length = n) (hr : Row w S 3 n (.slice A n c) (l.flatMap encInst)) (h0 : Below w0.heap.size w0 w)
    (hp : ∀ W, Below w0.heap.size w0 W → ∀ x ∈ l, Calls Tryz.prog g (#[.agg #[.int .u64 x.key, .string x.id, .slice x.vA x.vN x.vC]] ++ lb) W fun e w' => e = .returned (.bool (p x)) ∧ Below W.heap.size W w') :
    Calls Tryz.prog 136 #[.slice A n c, .func (.func g) #[] lb] w fun e w' => e = .returned (.int .i64 (idxP p l)) ∧ Below w.heap.size w w' := by
  obtain ⟨A', c', he, hnc, hcm⟩ := hr.open_
  injection he with e1 _ e3
  subst e1 e3
  have HR := Lib.hid hr
  have HL := Lib.hid hl
  have H0 := Lib.hid h0
  have HP := Lib.hid hp
  clear hr hl h0 hp
  go_enter Tryz.func136, Tryz.ntmps136
  go_wp2_with fail
  go_loopw [5, 8] (fun _ i wr => ∃ k : Nat, k ≤ n ∧ i = .int .i64 k ∧ Hid (idxP p l = idxGoP p (l.drop k) k) ∧ Below w.heap.size w wr) (fun _ i _ => n - (intOf i).toNat)
  case atStart => exact ⟨0, by omega, rfl, Lib.hid rfl, Below.refl _ _⟩
  case round =>
    obtain ⟨k, hk, rfl, HK, hbl⟩ := hrel
    have HBL := Lib.hid hbl
    by_cases hkn : k < n
    · have hk1 : k < l.length := by rw [HL.out]; exact hkn
      obtain ⟨b, o, rfl, _, hlt, hc⟩ := HR.out.at_ (by omega)
      have c0 : wr.cell? ⟨b, o + k * 3, none⟩ = some (.int .u64 l[k].key) := (hbl.cell (p := ⟨b, o + k * 3, none⟩) hlt).trans (by simpa using hc k 0 _ ((flat_at (enc := encInst) lenInst hk1 0 (by decide)).trans rfl))
      have c1 : wr.cell? ⟨b, o + k * 3 + 1, none⟩ = some (.string l[k].id) := (hbl.cell (p := ⟨b, o + k * 3 + 1, none⟩) hlt).trans (by simpa using hc k 1 _ ((flat_at (enc := encInst) lenInst hk1 1 (by decide)).trans rfl))
      have c2 : wr.cell? ⟨b, o + k * 3 + 2, none⟩ = some (.slice l[k].vA l[k].vN l[k].vC) := (hbl.cell (p := ⟨b, o + k * 3 + 2, none⟩) hlt).trans (by simpa using hc k 2 _ ((flat_at (enc := encInst) lenInst hk1 2 (by decide)).trans rfl))
      have hcall := HP.out wr (below2 H0.out hbl) l[k] (List.getElem_mem hk1)
      have hq := HK.out
      rw [List.drop_eq_getElem_cons hk1] at hq
      clear hc
      generalize l[k] = x at *
      have HQ := Lib.hid hq
      clear hq hbl HK
      by_cases hx : p x = true
      · rw [hx] at hcall
        have HX := Lib.hid hx
        clear hx
        go_wp2_with (go_at_fn g; refine hcall.mono ?_; rintro e w1 ⟨rfl, hb1⟩)
        go_ret
        refine ⟨?_, below2 HBL.out hb1⟩
        have e2 : idxGoP p (x :: l.drop (k + 1)) k = k := by show (if _ then _ else _) = _; rw [if_pos HX.out]
        rw [HQ.out, e2]; rfl
      · have hx2 : p x = false := by simpa using hx
        rw [hx2] at hcall
        have HQ2 : Hid (idxP p l = idxGoP p (l.drop (k + 1)) (k + 1)) := Lib.hid (by rw [HQ.out]; show (if _ then _ else _) = _; rw [if_neg hx])
        clear hx hx2
        go_wp2_with (go_at_fn g; refine hcall.mono ?_; rintro e w1 ⟨rfl, hb1⟩)
        go_roundw
        case rel => exact ⟨k + 1, by omega, by go_num, HQ2, below2 HBL.out hb1⟩
        case measure => simp [intOf]; omega
    · have HQ : Hid (idxP p l = -1) := Lib.hid (by rw [HK.out, List.drop_eq_nil_of_le (by rw [HL.out]; omega)]; rfl)
      clear HK
      go_wp2_with fail
      go_ret
      exact ⟨by rw [HQ.out]; rfl, hbl⟩
end Go.Proofs.YtgpkmellpllmgaaGreat
/-
  slices.Insert of one Instance. Printed by gfold.py out of XIns.
-/
set_option linter.unusedVariables false
set_option linter.unusedSimpArgs false
namespace Go.Proofs.YtgpkmellpllmgaaGreat
open Go Go.RowKit Go.Proofs.Base
set_option maxRecDepth 100000 in
set_option maxHeartbeats 2000000 in
theorem ins_end_Inst (base : Nat) (v : Value) (n xb : Nat) (xs cs : List Value) (w0 w : World) (hown : w.ownsRow base 61 3 v n xs) (hx : w.heap[xb]? = some (.cells cs.toArray 61 (0, 0))) (hcs : cs.length = 3) (h1c : ∀ u ∈ cs, u.oneCell' = true)
    (hB : Below base w0 w) (hbase : base ≤ w.heap.size) (hbig : (n + 1) * 48 ≤ 140737488355328) :
    Calls Tryz.prog 139 #[v, .int .i64 n, .slice (some ⟨xb, 0, none⟩) 1 1] w fun e w' => ∃ v', e = .returned v' ∧ w'.ownsRow base 61 3 v' (n + 1) (xs ++ cs) ∧ Below base w0 w' := by
  obtain ⟨i0, z, hi, hz0, hz1, hz2, hzc⟩ := eInst.hi
  have HO := Lib.hid hown
  have HX := Lib.hid (World.news_of_block (cs := cs.toArray) (t := 61) (fr := (0, 0)) hx)
  have HCS := Lib.hid hcs
  have H1C := Lib.hid h1c
  have HB := Lib.hid hB
  have hvn : ∃ A c, v = .slice A n c ∧ n ≤ c ∧ c ≤ 9223372036854775807 := by
    obtain ⟨_, h2⟩ := id hown
    have hl0 := hown.1
    clear hown HO
    rcases h2 with ⟨rfl, hn0⟩ | ⟨g, cap, cur, rfl, hb, hh, hnc, hcm, _⟩
    · obtain rfl : n = 0 := by rw [hn0] at hl0; simp at hl0; omega
      exact ⟨none, 0, rfl, Nat.le_refl _, by omega⟩
    · exact ⟨_, _, rfl, hnc, by simpa [maxLen] using hcm⟩
  obtain ⟨A, c, rfl, hnc, hc⟩ := hvn
  clear hown hx hcs h1c hB
  go_enter Tryz.func139, Tryz.ntmps139
  go_wp2_with (at_builtin; refine wpList_append_own_at _ rfl _ _ 26 rfl base 61 i0 z 3 48 eInst.ht hi hz0 hz1 hz2 hzc (by omega) _ n xs rfl HO.out ⟨xb, 0, none⟩ 1 1 cs rfl (by rw [HCS.out]) (by simpa using HX.out) H1C.out (by simp only [maxLen]; omega) hbig hbase ?_; intro v1 w1 hown1 hg1 _ _)
  all_goals (go_ret; exact ⟨v1, rfl, hown1, HB.out.grown hg1 hbase (fun k hk => (HO.out.lt k hk).1)⟩)
theorem zeros_len_Inst (z : Value) (m : Nat) (hz : z.cells.size = 3) : (Builtin.zeroCells z.cells m).toList.length = m * 3 := by
  rw [Array.length_toList, size_zeroCells, hz]
set_option maxRecDepth 100000 in
set_option maxHeartbeats 4000000 in
theorem ins_grow_Inst (base g cap n i xb m vc : Nat) (xs cs : List Value) (w0 w : World) (hi : i < n) (hm0 : 0 < m) (hcap : cap < n + m) (hown : w.ownsRow base 61 3 (.slice (some ⟨g, 0, none⟩) n cap) n xs) (hx : w.heap[xb]? = some (.cells cs.toArray 61 (0, 0))) (hcs : cs.length = m * 3) (h1c : ∀ u ∈ cs, u.oneCell' = true) (h1x : ∀ u ∈ xs, u.oneCell' = true)
    (hB : Below base w0 w) (hbase : base ≤ w.heap.size) (hbig : (n + m) * 48 ≤ 140737488355328) :
    Calls Tryz.prog 139 #[.slice (some ⟨g, 0, none⟩) n cap, .int .i64 i, .slice (some ⟨xb, 0, none⟩) m vc] w fun e w' => ∃ v', e = .returned v' ∧ w'.ownsRow base 61 3 v' (n + m) (xs.take (i * 3) ++ cs ++ xs.drop (i * 3)) ∧ Below base w0 w' := by
  obtain ⟨i0, z, hi0, hz0, hz1, hz2, hzc⟩ := eInst.hi
  have hnc : n ≤ cap := by
    rcases hown.2 with ⟨h, _⟩ | ⟨g', cap', cur, he, _, _, hnc, _⟩
    · cases h
    · injection he with _ _ e3; omega
  have hxl := hown.1
  have hgr : ∀ ty, (Builtin.append_ #[26, 3] ty #[.slice (some ⟨g, 0, none⟩) i cap, .int .i64 ((n + m - i : Nat) : Int)]).run Tryz.prog w = _ := fun ty =>
    run_append_zeros_grows w base 26 3 ty 61 i0 z 3 48 eInst.ht Tryz.underlying3 hi0 hz0 hz1 hz2 hzc (by omega) (by omega) g i cap (xs.take (i * 3)) (own_take hown (Nat.le_of_lt hi)) .i64 (n + m - i) (by omega) (by omega) (by rw [show i + (n + m - i) = n + m by omega]; exact hbig) hbase
  rw [show i + (n + m - i) = n + m by omega] at hgr
  have hge := grownCap_ge w (n + m) cap 61
  have hcm : grownCap w (n + m) cap 61 ≤ maxLen := grownCap_le_maxLen w (n + m) cap 61 (by simp only [maxLen]; omega)
  generalize grownCap w (n + m) cap 61 = k at *
  generalize hCUR : (xs.take (i * 3)).toArray ++ Builtin.zeroCells z.cells (n + m - i) ++ Builtin.zeroCells z.cells (k - (n + m)) = CUR at hgr
  have hCl : CUR.toList = xs.take (i * 3) ++ (Builtin.zeroCells z.cells (n + m - i)).toList ++ (Builtin.zeroCells z.cells (k - (n + m))).toList := by rw [← hCUR]; simp
  have htl : (xs.take (i * 3)).length = i * 3 := by rw [List.length_take, hxl]; omega
  have hdl : (xs.drop (i * 3)).length = (n - i) * 3 := by rw [List.length_drop, hxl]; omega
  have hCs : CUR.size = k * 3 := by
    rw [← Array.length_toList, hCl, List.length_append, List.length_append, htl, zeros_len_Inst z _ hzc, zeros_len_Inst z _ hzc]; omega
  have hW1 : (w.drew.alloc (.cells CUR 61)).heap[w.heap.size]? = some (.cells CUR 61 (0, 0)) := heap_alloc_new w.drew _
  have hb1 : Below base w0 (w.drew.alloc (.cells CUR 61)) := (show Below base w0 w.drew from ⟨hB.os, hB.tape, hB.output, hB.size, hB.block⟩).alloc hbase _
  have hxb := lt_of_blk hx
  have hx1 : (w.drew.alloc (.cells CUR 61)).heap[xb]? = some (.cells cs.toArray 61 (0, 0)) := (heap_alloc_old w.drew _ hxb).trans hx
  generalize hWW : w.drew.alloc (.cells CUR 61) = W1 at *
  have hc1 : ∀ ty dc, (Builtin.copy_ #[26, 26] ty #[.slice (some ⟨w.heap.size, i * 3, none⟩) (n + m - i) dc, .slice (some ⟨xb, 0, none⟩) m vc]).run Tryz.prog W1 = .ok (goInt (m : Int)) (W1.setRow w.heap.size (splice CUR.toList (i * 3) cs).toArray) := fun ty dc =>
    run_copy_wide W1 _ _ ty 61 3 w.heap.size (i * 3) (n + m - i) dc ⟨xb, 0, none⟩ m vc m CUR 61 cs eInst.ht sInst hW1 (by simp only [Nat.min_def]; split <;> omega) (by omega) (by simpa using World.news_of_block (cs := cs.toArray) (t := 61) (fr := (0, 0)) hx1) (by omega) h1c
  have hW2 := setRow_heap W1 w.heap.size CUR (splice CUR.toList (i * 3) cs).toArray 61 (0, 0) hW1
  have hb2 : Below base w0 (W1.setRow w.heap.size (splice CUR.toList (i * 3) cs).toArray) := below_setRow hb1 hbase _
  have hg2 : ∀ j v, (xs.drop (i * 3))[j]? = some v → (W1.setRow w.heap.size (splice CUR.toList (i * 3) cs).toArray).cell? ((⟨g, i * 3, none⟩ : Addr).add j) = some v := by
    intro j v hj
    have hglt := (hown.lt g rfl).2
    have h1 : w.cell? ((⟨g, 0, none⟩ : Addr).add (i * 3 + j)) = some v := hown.cells rfl (i * 3 + j) v (by rw [List.getElem?_drop] at hj; exact hj)
    rw [add_plain] at h1 ⊢
    rw [Nat.zero_add] at h1
    have h2 : (W1.setRow w.heap.size (splice CUR.toList (i * 3) cs).toArray).heap[g]? = w.heap[g]? := by
      rw [setRow_other _ _ _ _ (by omega), ← hWW]
      exact heap_alloc_old w.drew _ hglt
    exact (World.cell?_of_block (w := w) (a := ⟨g, i * 3 + j, none⟩) h2).trans h1
  generalize hW3 : W1.setRow w.heap.size (splice CUR.toList (i * 3) cs).toArray = W2 at *
  have hsl : (splice CUR.toList (i * 3) cs).length = k * 3 := by rw [length_splice CUR.toList (i * 3) cs (by rw [hcs, Array.length_toList, hCs]; omega), Array.length_toList, hCs]
  have hc2 : ∀ W : World, (∀ b, W.heap[b]? = W2.heap[b]?) → (∀ x, W.cell? x = W2.cell? x) → ∀ ty dc sc, (Builtin.copy_ #[26, 26] ty #[.slice (some ⟨w.heap.size, (i + m) * 3, none⟩) (n + m - (i + m)) dc, .slice (some ⟨g, i * 3, none⟩) (n - i) sc]).run Tryz.prog W = .ok (goInt ((n - i : Nat) : Int)) (W.setRow w.heap.size (splice (splice CUR.toList (i * 3) cs) ((i + m) * 3) (xs.drop (i * 3))).toArray) := fun W hWb hWc ty dc sc => by
    have h := run_copy_wide (P := Tryz.prog) W 26 26 ty 61 3 w.heap.size ((i + m) * 3) (n + m - (i + m)) dc ⟨g, i * 3, none⟩ (n - i) sc (n - i) (splice CUR.toList (i * 3) cs).toArray 61 (xs.drop (i * 3)) eInst.ht sInst ((hWb _).trans hW2) (by simp only [Nat.min_def]; split <;> omega) hdl (fun j v hj => (hWc _).trans (hg2 j v hj)) (by simp only [List.size_toArray]; rw [hsl, hdl]; omega) (fun u hu => h1x u (List.mem_of_mem_drop hu))
    rw [List.toList_toArray] at h
    exact h
  have hfin : (splice (splice CUR.toList (i * 3) cs) ((i + m) * 3) (xs.drop (i * 3))) = xs.take (i * 3) ++ cs ++ xs.drop (i * 3) ++ (Builtin.zeroCells z.cells (k - (n + m))).toList := by
    rw [hCl, show (i + m) * 3 = i * 3 + m * 3 by omega]
    exact ins_list (n := n * 3) (m * 3) hxl (by omega) hcs (by rw [zeros_len_Inst z _ hzc]; omega) _
  have hout : ∀ W : World, W.heap[w.heap.size]? = some (.cells (splice (splice CUR.toList (i * 3) cs) ((i + m) * 3) (xs.drop (i * 3))).toArray 61 (0, 0)) → W.ownsRow base 61 3 (.slice (some ⟨w.heap.size, 0, none⟩) (n + m) k) (n + m) (xs.take (i * 3) ++ cs ++ xs.drop (i * 3)) := by
    intro W hW
    have hl : (xs.take (i * 3) ++ cs ++ xs.drop (i * 3)).length = (n + m) * 3 := by rw [List.length_append, List.length_append, htl, hcs, hdl]; omega
    refine ⟨hl, .inr ⟨_, _, _, rfl, hbase, hW, hge, hcm, ?_, ?_⟩⟩
    · simp only [List.size_toArray]; rw [length_splice _ _ _ (by rw [hsl, hdl]; omega), hsl]
    · rw [hfin, ← hl, List.take_left]
  have q1 : IntKind.i64.wrap ((n : Int) + m) = (n : Int) + m := by rw [IntKind.wrap_i64]; omega
  have q2 : IntKind.i64.wrap ((i : Int) + m) = (i : Int) + m := by rw [IntKind.wrap_i64]; omega
  have q3 : ((n : Int) + m - i) = ((n + m - i : Nat) : Int) := by omega
  have q4 : ((n : Int) == (i : Int)) = false := beq_f (by omega)
  have q5 : ((i : Int) == (n : Int)) = false := beq_f (by omega)
  have q6 : ((i : Int) + m).toNat = i + m := by omega
  have HB2 := Lib.hid hb2
  have HC1 := Lib.hid hc1
  have HC2 := Lib.hid hc2
  have HGR := Lib.hid hgr
  have HOUT := Lib.hid hout
  have HW2 := Lib.hid hW2
  have hck : i < k := by omega
  have kb1 : (0 : Int) ≤ (i : Int) + (m : Int) := by omega
  have kb2 : ¬ (k = i + m) := by omega
  have kb3 : (i : Int) ≤ (n : Int) + (m : Int) := by omega
  have kb4 : ¬ (cap = i) := by omega
  have kb5 : ¬ (k = i) := by omega
  have kb6 : i ≤ n := by omega
  have hz1 : ¬ ((m : Int) = 0) := by omega
  clear hc1 hc2 hgr hfin hsl hg2 hb2 hW2 hx1 hxb hb1 hW1 hCl hCs htl hdl hown hx h1c h1x hB hxl hz0 hz1 hz2 hzc hi0 hcs hCUR hbig hWW hW3
  unfold maxLen at hcm
  go_enter Tryz.func139, Tryz.ntmps139
  go_wp2_with (first | (at_builtin; with_reducible refine Lib.wpList_append_run _ rfl _ _ 26 3 rfl _ _ rfl rfl _ _ (HGR.out _) ?_) | (with_reducible refine wpList_copy_runI _ rfl _ _ 26 26 rfl _ _ rfl rfl (HC1.out _ _) ?_))
  go_region_law (refine step_copy_runI rfl _ _ 26 26 rfl _ _ (by simp [Act.eval, Act.put]) (by simp [Act.eval, Act.put]) (HC2.out W2.drew (fun _ => rfl) (fun _ => rfl) _ (k - (i + m)) (cap - i)) ?_)
  go_wp2_with fail
  go_ret
  refine ⟨_, rfl, by simpa [List.append_assoc] using HOUT.out _ (setRow_heap W2.drew _ _ _ 61 (0, 0) HW2.out), ?_⟩
  exact below_setRow (show Below base w0 W2.drew from ⟨HB2.out.os, HB2.out.tape, HB2.out.output, HB2.out.size, HB2.out.block⟩) hbase _
set_option maxRecDepth 100000 in
set_option maxHeartbeats 4000000 in
theorem ins_room_Inst (base g cap n i xb m vc : Nat) (xs cs : List Value) (w0 w : World) (hi : i < n) (hm0 : 0 < m) (hcap : n + m ≤ cap) (hown : w.ownsRow base 61 3 (.slice (some ⟨g, 0, none⟩) n cap) n xs) (hx : w.heap[xb]? = some (.cells cs.toArray 61 (0, 0))) (hxg : xb ≠ g) (hcs : cs.length = m * 3) (h1c : ∀ u ∈ cs, u.oneCell' = true) (h1x : ∀ u ∈ xs, u.oneCell' = true)
    (hB : Below base w0 w) :
    Calls Tryz.prog 139 #[.slice (some ⟨g, 0, none⟩) n cap, .int .i64 i, .slice (some ⟨xb, 0, none⟩) m vc] w fun e w' => ∃ v', e = .returned v' ∧ w'.ownsRow base 61 3 v' (n + m) (xs.take (i * 3) ++ cs ++ xs.drop (i * 3)) ∧ Below base w0 w' := by
  have hxl := hown.1
  obtain ⟨cur, hbg, hg, hcm, hcsz, htk⟩ : ∃ cur : Array Value, base ≤ g ∧ w.heap[g]? = some (.cells cur 61 (0, 0)) ∧ cap ≤ maxLen ∧ cur.size = cap * 3 ∧ cur.toList.take (n * 3) = xs := by
    rcases hown.2 with ⟨h, _⟩ | ⟨g', cap', cur, he, hb, hh, hnc, hcm, hcs, htk⟩
    · cases h
    · injection he with e1 e2 e3
      injection e1 with e1
      injection e1 with e1
      subst e1 e3
      exact ⟨cur, hb, hh, hcm, by omega, htk⟩
  have hdl : (xs.drop (i * 3)).length = (n - i) * 3 := by rw [List.length_drop, hxl]; omega
  have hov : ∀ lb cb, (callFunc 188 #[.slice (some ⟨xb, 0, none⟩) m vc, .slice (some ⟨g, (i + m) * 3, none⟩) lb cb]).run Tryz.prog w = .ok (.value (.bool false)) w := fun lb cb => by
    rw [run_callFunc_extern Tryz.func188 (by kernel_rfl) (by kernel_rfl) (by kernel_rfl) (e := Extern.SlicesOverlaps.overlaps #[26, 26] #[4]) (by kernel_rfl),
      Lib.run_overlaps_apart w 26 4 61 Tryz.underlying26 3 Tryz.sizeOf61 ⟨xb, 0, none⟩ ⟨g, (i + m) * 3, none⟩ m vc lb cb hxg 61 61 cs.toArray.size cur.size (by simp [World.shape?, hx]) (by simp [World.shape?, hg]) (by omega) (frozen_of_blk hx _) (frozen_of_blk hx _)]
    rfl
  have hg1 := setRow_heap w.drew g cur (splice cur.toList ((i + m) * 3) (xs.drop (i * 3))).toArray 61 (0, 0) hg
  have hc1 : ∀ ty dc sc, (Builtin.copy_ #[26, 26] ty #[.slice (some ⟨g, (i + m) * 3, none⟩) (n + m - (i + m)) dc, .slice (some ⟨g, i * 3, none⟩) (n + m - i) sc]).run Tryz.prog w.drew = .ok (goInt ((n - i : Nat) : Int)) (w.drew.setRow g (splice cur.toList ((i + m) * 3) (xs.drop (i * 3))).toArray) := fun ty dc sc =>
    run_copy_wide (P := Tryz.prog) w.drew 26 26 ty 61 3 g ((i + m) * 3) (n + m - (i + m)) dc ⟨g, i * 3, none⟩ (n + m - i) sc (n - i) cur 61 (xs.drop (i * 3)) eInst.ht sInst hg (by simp only [Nat.min_def]; split <;> omega) hdl
      (fun j v hj => by
        have h1 : w.cell? ((⟨g, 0, none⟩ : Addr).add (i * 3 + j)) = some v := hown.cells rfl (i * 3 + j) v (by rw [List.getElem?_drop] at hj; exact hj)
        rw [add_plain] at h1 ⊢
        rw [Nat.zero_add] at h1
        exact h1) (by rw [hdl, hcsz]; omega) (fun u hu => h1x u (List.mem_of_mem_drop hu))
  have hxb := lt_of_blk hx
  have hx1 : (w.drew.setRow g (splice cur.toList ((i + m) * 3) (xs.drop (i * 3))).toArray).heap[xb]? = some (.cells cs.toArray 61 (0, 0)) := (setRow_other w.drew g xb _ hxg).trans hx
  have hbd : Below base w0 (w.drew.setRow g (splice cur.toList ((i + m) * 3) (xs.drop (i * 3))).toArray) := below_setRow (show Below base w0 w.drew from ⟨hB.os, hB.tape, hB.output, hB.size, hB.block⟩) hbg _
  generalize hWW : w.drew.setRow g (splice cur.toList ((i + m) * 3) (xs.drop (i * 3))).toArray = W1 at *
  have hsl : (splice cur.toList ((i + m) * 3) (xs.drop (i * 3))).length = cap * 3 := by rw [length_splice cur.toList ((i + m) * 3) (xs.drop (i * 3)) (by rw [hdl, Array.length_toList, hcsz]; omega), Array.length_toList, hcsz]
  have hc2 : ∀ ty dc, (Builtin.copy_ #[26, 26] ty #[.slice (some ⟨g, i * 3, none⟩) (n + m - i) dc, .slice (some ⟨xb, 0, none⟩) m vc]).run Tryz.prog W1 = .ok (goInt (m : Int)) (W1.setRow g (splice (splice cur.toList ((i + m) * 3) (xs.drop (i * 3))) (i * 3) cs).toArray) := fun ty dc => by
    have h := run_copy_wide (P := Tryz.prog) W1 26 26 ty 61 3 g (i * 3) (n + m - i) dc ⟨xb, 0, none⟩ m vc m (splice cur.toList ((i + m) * 3) (xs.drop (i * 3))).toArray 61 cs eInst.ht sInst hg1 (by simp only [Nat.min_def]; split <;> omega) hcs (by simpa using World.news_of_block (cs := cs.toArray) (t := 61) (fr := (0, 0)) hx1) (by simp only [List.size_toArray]; rw [hsl, hcs]; omega) h1c
    rw [List.toList_toArray] at h
    exact h
  have hg2 := setRow_heap W1 g _ (splice (splice cur.toList ((i + m) * 3) (xs.drop (i * 3))) (i * 3) cs).toArray 61 (0, 0) hg1
  have hb2 := below_setRow hbd hbg (splice (splice cur.toList ((i + m) * 3) (xs.drop (i * 3))) (i * 3) cs).toArray
  have hout : (W1.setRow g (splice (splice cur.toList ((i + m) * 3) (xs.drop (i * 3))) (i * 3) cs).toArray).ownsRow base 61 3 (.slice (some ⟨g, 0, none⟩) (n + m) cap) (n + m) (xs.take (i * 3) ++ cs ++ xs.drop (i * 3)) := by
    have htl : (xs.take (i * 3)).length = i * 3 := by rw [List.length_take, hxl]; omega
    have hl : (xs.take (i * 3) ++ cs ++ xs.drop (i * 3)).length = (n + m) * 3 := by rw [List.length_append, List.length_append, htl, hcs, hdl]; omega
    refine ⟨hl, .inr ⟨_, _, _, rfl, hbg, hg2, hcap, hcm, ?_, ?_⟩⟩
    · simp only [List.size_toArray]; rw [length_splice _ _ _ (by rw [hsl, hcs]; omega), hsl]
    · have h := ins_list2 (xs := xs) (cs := cs) (cur := cur.toList) (i := i * 3) (n := n * 3) (m * 3) htk (by rw [Array.length_toList, hcsz]; omega) (by omega) hcs
      rw [show i * 3 + m * 3 = (i + m) * 3 by omega, show n * 3 + m * 3 = (n + m) * 3 by omega] at h
      exact h
  generalize hWW2 : W1.setRow g (splice (splice cur.toList ((i + m) * 3) (xs.drop (i * 3))) (i * 3) cs).toArray = W2 at *
  have HB2 := Lib.hid hb2
  have HC1 := Lib.hid hc1
  have HC2 := Lib.hid hc2
  have HOV := Lib.hid hov
  have HOUT := Lib.hid hout
  have hck : i < cap := by omega
  have q1 : IntKind.i64.wrap ((n : Int) + m) = (n : Int) + m := by rw [IntKind.wrap_i64]; unfold maxLen at hcm; omega
  have q2 : IntKind.i64.wrap ((i : Int) + m) = (i : Int) + m := by rw [IntKind.wrap_i64]; unfold maxLen at hcm; omega
  have q5 : ((i : Int) == (n : Int)) = false := beq_f (by omega)
  have q6 : ((i : Int) + m).toNat = i + m := by omega
  have q7 : ((n : Int) + m).toNat = n + m := by omega
  have kb1 : (0 : Int) ≤ (i : Int) + (m : Int) := by omega
  have kb2 : ¬ (cap = i + m) := by omega
  have kb3 : (i : Int) ≤ (n : Int) + (m : Int) := by omega
  have kb4 : ¬ (cap = i) := by omega
  have kb6 : i ≤ n := by omega
  have hz1 : ¬ ((m : Int) = 0) := by omega
  clear hb2 hc1 hc2 hov hout hown hx h1c h1x hB hxl hcs hWW hWW2 hg hg1 hg2 hcsz htk hdl hxb hx1 hbd hsl
  unfold maxLen at hcm
  go_enter Tryz.func139, Tryz.ntmps139
  go_wp2_with (simp only [HOV.out])
  go_region_law (refine step_copy_runI rfl _ _ 26 26 rfl _ _ (by simp [Act.eval, Act.put]) (by simp [Act.eval, Act.put]) (HC1.out _ (cap - (i + m)) (cap - i)) ?_)
  go_wp2_with (with_reducible refine wpList_copy_runI _ rfl _ _ 26 26 rfl _ _ rfl rfl (HC2.out _ _) ?_)
  go_ret
  exact ⟨_, rfl, by simpa [List.append_assoc] using HOUT.out, HB2.out⟩
theorem ins_one_Inst (base : Nat) (v : Value) (n i xb : Nat) (xs cs : List Value) (w0 w : World) (hi : i ≤ n) (hown : w.ownsRow base 61 3 v n xs) (hx : w.heap[xb]? = some (.cells cs.toArray 61 (0, 0))) (hxv : ∀ g, v.ownBlock = some g → xb ≠ g) (hcs : cs.length = 3) (h1c : ∀ u ∈ cs, u.oneCell' = true) (h1x : ∀ u ∈ xs, u.oneCell' = true)
    (hB : Below base w0 w) (hbase : base ≤ w.heap.size) (hbig : (n + 1) * 48 ≤ 140737488355328) :
    Calls Tryz.prog 139 #[v, .int .i64 i, .slice (some ⟨xb, 0, none⟩) 1 1] w fun e w' => ∃ v', e = .returned v' ∧ w'.ownsRow base 61 3 v' (n + 1) (xs.take (i * 3) ++ cs ++ xs.drop (i * 3)) ∧ Below base w0 w' := by
  by_cases he : i = n
  · subst he
    have hxl := hown.1
    have h := ins_end_Inst base v i xb xs cs w0 w hown hx hcs h1c hB hbase hbig
    rw [List.take_of_length_le (by omega), List.drop_of_length_le (by omega), List.append_nil]
    exact h
  · have hlt : i < n := by omega
    have h2 := hown.2
    rcases h2 with ⟨_, hn0⟩ | ⟨g, cap, cur, rfl, hb, hh, hnc, hcm, _⟩
    · have := hown.1; rw [hn0] at this; simp at this; omega
    · by_cases hc : n + 1 ≤ cap
      · exact ins_room_Inst base g cap n i xb 1 1 xs cs w0 w hlt (by omega) hc hown hx (hxv g rfl) (by omega) h1c h1x hB
      · exact ins_grow_Inst base g cap n i xb 1 1 xs cs w0 w hlt (by omega) (by omega) hown hx (by omega) h1c h1x hB hbase hbig
end Go.Proofs.YtgpkmellpllmgaaGreat
/-
  fold.put of Instance. Printed by gfold.py.
-/
set_option linter.unusedVariables false
set_option linter.unusedSimpArgs false
namespace Go.Proofs.YtgpkmellpllmgaaGreat
open Go Go.RowKit Go.Proofs.Base
open Go.Sort (grow)
set_option maxRecDepth 100000 in
theorem ord_Inst (y x : EInst) (w : World) : Calls Tryz.prog 82 #[.agg #[.int .u64 y.key, .string y.id, .slice y.vA y.vN y.vC], .agg #[.int .u64 x.key, .string x.id, .slice x.vA x.vN x.vC]] w fun e w' => e = .returned (.int .i64 (cmpInst y x)) ∧ Below w.heap.size w w' := by
  have hB : Below w.heap.size w ((w.alloc (.cells #[.int .u64 y.key, .string y.id, .slice y.vA y.vN y.vC] 61)).alloc (.cells #[.int .u64 x.key, .string x.id, .slice x.vA x.vN x.vC] 61)) := below_alloc (below_alloc (Below.refl _ _) _) _
  have HB := Lib.hid hB
  clear hB
  go_enter Tryz.func82, Tryz.ntmps82
  go_wp2_with (go_at_call 83; refine (cmp_u64 _ _ _).mono ?_; rintro e w' ⟨rfl, rfl⟩)
  go_ret
  exact ⟨rfl, HB.out⟩
set_option maxRecDepth 100000 in
theorem put1_Inst (B1 B2 : Nat) (y x : EInst) (w : World) (h1 : w.cell? ⟨B1, 0, none⟩ = some (.func (.func 82) #[] #[])) (h2 : w.heap[B2]? = some (.cells #[.int .u64 x.key, .string x.id, .slice x.vA x.vN x.vC] 61 (0, 0))) :
    Calls Tryz.prog 137 (#[.agg #[.int .u64 y.key, .string y.id, .slice y.vA y.vN y.vC]] ++ #[.pointer (some ⟨B1, 0, none⟩), .pointer (some ⟨B2, 0, none⟩)]) w fun e w' => e = .returned (.bool (decide (cmpInst y x = 0))) ∧ Below w.heap.size w w' := by
  have hB : Below w.heap.size w (w.alloc (.cells #[.int .u64 y.key, .string y.id, .slice y.vA y.vN y.vC] 61)) := below_alloc (Below.refl _ _) _
  have hc := (hB.cell (p := ⟨B1, 0, none⟩) (World.block_lt_of_cell? w _ h1)).trans h1
  have hk := block_below hB h2
  have k0 := cell_of_blk hk 0
  have k1 := cell_of_blk hk 1
  have k2 := cell_of_blk hk 2
  have HB := Lib.hid hB
  obtain ⟨cc, hcc⟩ : ∃ cc, cc = cmpInst y x := ⟨_, rfl⟩
  have ho := fun w => ord_Inst y x w
  simp only [← hcc] at ho
  have HO := Lib.hid ho
  rw [← hcc]
  clear hB h1 h2 hk hcc ho
  go_enter Tryz.func137, Tryz.ntmps137
  go_wp2_with (go_at_call 82; refine (HO.out _).mono ?_; rintro e w' ⟨rfl, hb⟩)
  go_ret
  exact ⟨by first | rfl | (refine congrArg (fun b => Ending.returned (Value.bool b)) ?_; rw [Bool.eq_iff_iff]; simp), below2 HB.out hb⟩
set_option maxRecDepth 100000 in
theorem put2_Inst (B1 B2 : Nat) (y x : EInst) (w : World) (h1 : w.cell? ⟨B1, 0, none⟩ = some (.func (.func 82) #[] #[])) (h2 : w.heap[B2]? = some (.cells #[.int .u64 x.key, .string x.id, .slice x.vA x.vN x.vC] 61 (0, 0))) :
    Calls Tryz.prog 138 (#[.agg #[.int .u64 y.key, .string y.id, .slice y.vA y.vN y.vC]] ++ #[.pointer (some ⟨B1, 0, none⟩), .pointer (some ⟨B2, 0, none⟩)]) w fun e w' => e = .returned (.bool (decide (0 < cmpInst y x))) ∧ Below w.heap.size w w' := by
  have hB : Below w.heap.size w (w.alloc (.cells #[.int .u64 y.key, .string y.id, .slice y.vA y.vN y.vC] 61)) := below_alloc (Below.refl _ _) _
  have hc := (hB.cell (p := ⟨B1, 0, none⟩) (World.block_lt_of_cell? w _ h1)).trans h1
  have hk := block_below hB h2
  have k0 := cell_of_blk hk 0
  have k1 := cell_of_blk hk 1
  have k2 := cell_of_blk hk 2
  have HB := Lib.hid hB
  obtain ⟨cc, hcc⟩ : ∃ cc, cc = cmpInst y x := ⟨_, rfl⟩
  have ho := fun w => ord_Inst y x w
  simp only [← hcc] at ho
  have HO := Lib.hid ho
  rw [← hcc]
  clear hB h1 h2 hk hcc ho
  go_enter Tryz.func138, Tryz.ntmps138
  go_wp2_with (go_at_call 82; refine (HO.out _).mono ?_; rintro e w' ⟨rfl, hb⟩)
  go_ret
  exact ⟨by first | rfl | (refine congrArg (fun b => Ending.returned (Value.bool b)) ?_; rw [Bool.eq_iff_iff]; simp), below2 HB.out hb⟩
set_option maxRecDepth 100000 in
set_option maxHeartbeats 4000000 in
theorem put_Inst (A : Option Addr) (n c : Nat) (x : EInst) (l : List EInst) (w : World) (S : Nat → Prop) (hl : l.length = n) (hby : (n + 1) * 48 ≤ 140737488355328) (hr : Row w S 3 n (.slice A n c) (l.flatMap encInst)) :
    Calls Tryz.prog 81 #[.slice A n c, .agg #[.int .u64 x.key, .string x.id, .slice x.vA x.vN x.vC], .func (.func 82) #[] #[]] w fun e w' => ∃ A' c', e = .returned (.slice A' (putL cmpInst x l).length c') ∧ w'.ownsRow w.heap.size 61 3 (.slice A' (putL cmpInst x l).length c') (putL cmpInst x l).length ((putL cmpInst x l).flatMap encInst) ∧ Below w.heap.size w w' := by
  obtain ⟨N, hN⟩ : ∃ N, N = (w.alloc (.cells #[.int .u64 x.key, .string x.id, .slice x.vA x.vN x.vC] 61)).alloc (.cells #[.func (.func 82) #[] #[]] 116) := ⟨_, rfl⟩
  have b0 : N.heap[w.heap.size]? = some (.cells #[.int .u64 x.key, .string x.id, .slice x.vA x.vN x.vC] 61 (0, 0)) := by rw [hN]; exact blk_alloc (blk_new _) _
  have b1 : N.heap[w.heap.size + 1]? = some (.cells #[.func (.func 82) #[] #[]] 116 (0, 0)) := by rw [hN]; exact blk_new_of _ (by simp)
  have hB : Below w.heap.size w N := by rw [hN]; exact below_alloc (below_alloc (Below.refl _ _) _) _
  have hsz : N.heap.size = w.heap.size + 2 := by rw [hN]; simp
  have HN := Lib.hid hN
  have HB := Lib.hid hB
  have HSZ := Lib.hid hsz
  have HP1 : Hid (∀ W, Below N.heap.size N W → ∀ y ∈ l, Calls Tryz.prog 137 (#[.agg #[.int .u64 y.key, .string y.id, .slice y.vA y.vN y.vC]] ++ #[.pointer (some ⟨w.heap.size + 1, 0, none⟩), .pointer (some ⟨w.heap.size, 0, none⟩)]) W fun e w' => e = .returned (.bool (decide (cmpInst y x = 0))) ∧ Below W.heap.size W w') :=
    Lib.hid (fun W hW y _ => put1_Inst _ _ y x W (cell_of_blk (block_below hW b1) 0) (block_below hW b0))
  have HP2 : Hid (∀ W, Below N.heap.size N W → ∀ y ∈ l, Calls Tryz.prog 138 (#[.agg #[.int .u64 y.key, .string y.id, .slice y.vA y.vN y.vC]] ++ #[.pointer (some ⟨w.heap.size + 1, 0, none⟩), .pointer (some ⟨w.heap.size, 0, none⟩)]) W fun e w' => e = .returned (.bool (decide (0 < cmpInst y x))) ∧ Below W.heap.size W w') :=
    Lib.hid (fun W hW y _ => put2_Inst _ _ y x W (cell_of_blk (block_below hW b1) 0) (block_below hW b0))
  have HCL := Lib.hid (clone_Inst A n c l N S hl (by omega) (hr.below (hB)))
  have e1 : ∀ args w, (callFunc 137 args).run Tryz.prog w = .ok (.enter 137 args) w := enters_of Tryz.func137 (by kernel_rfl) rfl
  have e2 : ∀ args w, (callFunc 138 args).run Tryz.prog w = .ok (.enter 138 args) w := enters_of Tryz.func138 (by kernel_rfl) rfl
  have E1 := Lib.hid e1
  have E2 := Lib.hid e2
  have HK := Lib.hid b0
  have HL := Lib.hid hl
  have HBY := Lib.hid hby
  obtain ⟨A0, c0, he0, hnc0, hcm0⟩ := hr.open_
  injection he0 with q1 _ q3
  subst q1 q3
  clear hN b0 b1 hB hr hsz e1 e2
  have HPL : Hid (putL cmpInst x l = if 0 ≤ idxP (fun y => decide (cmpInst y x = 0)) l then l.set (idxP (fun y => decide (cmpInst y x = 0)) l).toNat x else l.take (spotL cmpInst x l) ++ x :: l.drop (spotL cmpInst x l)) := Lib.hid rfl
  generalize putL cmpInst x l = L at *
  have hi1 := idxP_spec (fun y => decide (cmpInst y x = 0)) l
  have hi2 := idxP_spec (fun y => decide (0 < cmpInst y x)) l
  have HSP : Hid (spotL cmpInst x l = if idxP (fun y => decide (0 < cmpInst y x)) l < 0 then l.length else (idxP (fun y => decide (0 < cmpInst y x)) l).toNat) := Lib.hid rfl
  rcases hi1 with ⟨h1, _⟩ | ⟨j, hj, h1, -, -⟩
  · -- a new one
    obtain ⟨sp, hsp⟩ : ∃ sp, sp = spotL cmpInst x l := ⟨_, rfl⟩
    have hLe : Hid (L = l.take sp ++ x :: l.drop sp) := Lib.hid (by rw [HPL.out, h1, if_neg (by decide), hsp])
    have hspn : sp ≤ n := by rw [hsp, ← hl]; exact spotL_le _ _ _
    have HLe := hLe
    have hLL : L.length = n + 1 := by
      rw [hLe.out, List.length_append, List.length_cons, List.length_take, List.length_drop, hl]; omega
    have HINS : Hid (∀ (w5 : World) A5 c5, w5.ownsRow N.heap.size 61 3 (.slice A5 n c5) n (l.flatMap encInst) → Below N.heap.size N w5 → Calls Tryz.prog 139 #[.slice A5 n c5, .int .i64 sp, .slice (some ⟨w5.heap.size, 0, none⟩) 1 1] (w5.alloc (.cells #[.int .u64 x.key, .string x.id, .slice x.vA x.vN x.vC] 61)) fun e w' => ∃ A' c', e = .returned (.slice A' (n + 1) c') ∧ w'.ownsRow w.heap.size 61 3 (.slice A' (n + 1) c') (n + 1) (L.flatMap encInst) ∧ Below w.heap.size w w') := Lib.hid (fun w5 A5 c5 hown hb5 => by
      have hb5s := hb5.size
      have hNs := HSZ.out
      refine (ins_one_Inst w.heap.size _ n sp w5.heap.size (l.flatMap encInst) (encInst x) w (w5.alloc (.cells #[.int .u64 x.key, .string x.id, .slice x.vA x.vN x.vC] 61)) hspn ((own_base hown (by omega)).alloc _) (blk_new _) (fun g hg => by have := (hown.lt g hg).2; omega) rfl (oneInst x) (flat_one oneInst l) (below_alloc (below2 HB.out hb5) _) (by simp; omega) HBY.out).mono ?_
      rintro e w6 ⟨v6, rfl, hown6, hb6⟩
      rw [flat_ins (enc := encInst) lenInst, ← HLe.out] at hown6
      obtain ⟨A6, c6, rfl, _, _⟩ := (Row.of_own hown6).open_
      exact ⟨A6, c6, rfl, hown6, hb6⟩)
    rw [hLL]
    clear HPL hLe
    rcases hi2 with ⟨h2, _⟩ | ⟨j, hj, h2, -, -⟩
    · have hspv : sp = n := by rw [hsp, HSP.out, h2, if_pos (by decide), hl]
      subst hspv
      clear hsp HSP hLL
      go_enter Tryz.func81, Tryz.ntmps81
      go_wp2_with fail
      rw [show (w.alloc (.cells #[.int .u64 x.key, .string x.id, .slice x.vA x.vN x.vC] 61)).alloc (.cells #[.func (.func 82) #[] #[]] 116) = N from HN.out.symm]
      go_wp2_with (go_at_call 29; refine HCL.out.mono ?_; rintro e w1 ⟨A1, c1, rfl, hown, hb⟩; have HO1 := Lib.hid hown; have HB1 := Lib.hid hb; obtain ⟨_, _, _, hnc1, hcm1⟩ := (Row.of_own hown).open_; clear hown hb)
      refine (idx_Inst _ _ _ 137 _ l _ N _ _ E1.out HL.out (Row.of_own HO1.out) HB1.out HP1.out).mono ?_
      rintro e w2 ⟨rfl, hb⟩
      rw [h1]
      have HB2 := Lib.hid (below2 HB1.out hb)
      have HO2 := Lib.hid (own_mut HO1.out (Mut.of_below hb (fun _ => False)) (fun _ _ h => h))
      clear hb
      go_wp2_with fail
      refine (idx_Inst _ _ _ 138 _ l _ N _ _ E2.out HL.out (Row.of_own HO2.out) HB2.out HP2.out).mono ?_
      rintro e w3 ⟨rfl, hb⟩
      rw [h2]
      have HB3 := Lib.hid (below2 HB2.out hb)
      have HO3 := Lib.hid (own_mut HO2.out (Mut.of_below hb (fun _ => False)) (fun _ _ h => h))
      have hk3 := block_below HB3.out HK.out
      have k0 := cell_of_blk hk3 0; have k1 := cell_of_blk hk3 1; have k2 := cell_of_blk hk3 2
      clear hb hk3
      go_wp2_with (go_at_call 139; refine (HINS.out _ _ _ HO3.out HB3.out).mono ?_; rintro e w4 ⟨A4, c4, rfl, hown, hb⟩; have HO4 := Lib.hid hown; have HB4 := Lib.hid hb; clear hown hb)
      go_ret
      exact ⟨A4, c4, rfl, HO4.out, HB4.out⟩
    · have hspv : sp = j := by rw [hsp, HSP.out, h2, if_neg (by omega)]; simp
      subst hspv
      have hj0 : ¬ ((sp : Int) < 0) := by omega
      clear hsp HSP hLL
      go_enter Tryz.func81, Tryz.ntmps81
      go_wp2_with fail
      rw [show (w.alloc (.cells #[.int .u64 x.key, .string x.id, .slice x.vA x.vN x.vC] 61)).alloc (.cells #[.func (.func 82) #[] #[]] 116) = N from HN.out.symm]
      go_wp2_with (go_at_call 29; refine HCL.out.mono ?_; rintro e w1 ⟨A1, c1, rfl, hown, hb⟩; have HO1 := Lib.hid hown; have HB1 := Lib.hid hb; obtain ⟨_, _, _, hnc1, hcm1⟩ := (Row.of_own hown).open_; clear hown hb)
      refine (idx_Inst _ _ _ 137 _ l _ N _ _ E1.out HL.out (Row.of_own HO1.out) HB1.out HP1.out).mono ?_
      rintro e w2 ⟨rfl, hb⟩
      rw [h1]
      have HB2 := Lib.hid (below2 HB1.out hb)
      have HO2 := Lib.hid (own_mut HO1.out (Mut.of_below hb (fun _ => False)) (fun _ _ h => h))
      clear hb
      go_wp2_with fail
      refine (idx_Inst _ _ _ 138 _ l _ N _ _ E2.out HL.out (Row.of_own HO2.out) HB2.out HP2.out).mono ?_
      rintro e w3 ⟨rfl, hb⟩
      rw [h2]
      have HB3 := Lib.hid (below2 HB2.out hb)
      have HO3 := Lib.hid (own_mut HO2.out (Mut.of_below hb (fun _ => False)) (fun _ _ h => h))
      have hk3 := block_below HB3.out HK.out
      have k0 := cell_of_blk hk3 0; have k1 := cell_of_blk hk3 1; have k2 := cell_of_blk hk3 2
      clear hb hk3
      go_wp2_with (go_at_call 139; refine (HINS.out _ _ _ HO3.out HB3.out).mono ?_; rintro e w4 ⟨A4, c4, rfl, hown, hb⟩; have HO4 := Lib.hid hown; have HB4 := Lib.hid hb; clear hown hb)
      go_ret
      exact ⟨A4, c4, rfl, HO4.out, HB4.out⟩
  · -- one that is there
    have hLe : Hid (L = l.set j x) := Lib.hid (by rw [HPL.out, h1, if_pos (by omega)]; simp)
    have hLL : L.length = n := by rw [hLe.out, List.length_set, hl]
    have hjn : j < n := by omega
    have hj0 : (0 : Int) ≤ (j : Int) := by omega
    have HFS := Lib.hid (flat_splice (enc := encInst) lenInst hj x)
    have HVL : Hid ((l.flatMap encInst).length = n * 3) := Lib.hid (by rw [flat_len (enc := encInst) lenInst, hl])
    rw [hLL]
    clear HPL hi2 HSP hj HP2
    go_enter Tryz.func81, Tryz.ntmps81
    go_wp2_with fail
    rw [show (w.alloc (.cells #[.int .u64 x.key, .string x.id, .slice x.vA x.vN x.vC] 61)).alloc (.cells #[.func (.func 82) #[] #[]] 116) = N from HN.out.symm]
    go_wp2_with (go_at_call 29; refine HCL.out.mono ?_; rintro e w1 ⟨A1, c1, rfl, hown, hb⟩; have HO1 := Lib.hid hown; have HB1 := Lib.hid hb; obtain ⟨_, _, _, hnc1, hcm1⟩ := (Row.of_own hown).open_; clear hown hb)
    refine (idx_Inst _ _ _ 137 _ l _ N _ _ E1.out HL.out (Row.of_own HO1.out) HB1.out HP1.out).mono ?_
    rintro e w2 ⟨rfl, hb⟩
    rw [h1]
    have HB2 := Lib.hid (below2 HB1.out hb)
    have HO2 := Lib.hid (own_mut HO1.out (Mut.of_below hb (fun _ => False)) (fun _ _ h => h))
    have hk3 := block_below HB2.out HK.out
    have k0 := cell_of_blk hk3 0; have k1 := cell_of_blk hk3 1; have k2 := cell_of_blk hk3 2
    clear hb hk3
    obtain ⟨g, cap, cur, hv, hbg, hhg, hnc5, hcm5, hcs5, htk5⟩ := own_some HO2.out (by omega)
    injection hv with hv1 hv2 hv3
    subst hv1 hv3
    obtain ⟨u0, hu0⟩ : ∃ u, cur[j * 3]? = some u := ⟨_, Array.getElem?_eq_getElem (by omega)⟩; have j0 := (cell_of_blk hhg (j * 3)).trans hu0; have f0 := frozen_of_blk hhg (j * 3); clear hu0; obtain ⟨u1, hu1⟩ : ∃ u, cur[j * 3 + 1]? = some u := ⟨_, Array.getElem?_eq_getElem (by omega)⟩; have j1 := (cell_of_blk hhg (j * 3 + 1)).trans hu1; have f1 := frozen_of_blk hhg (j * 3 + 1); clear hu1; obtain ⟨u2, hu2⟩ : ∃ u, cur[j * 3 + 2]? = some u := ⟨_, Array.getElem?_eq_getElem (by omega)⟩; have j2 := (cell_of_blk hhg (j * 3 + 2)).trans hu2; have f2 := frozen_of_blk hhg (j * 3 + 2); clear hu2
    have HG := Lib.hid hhg
    have HTK := Lib.hid htk5
    have HCS := Lib.hid hcs5
    have HBG := Lib.hid hbg
    have HCM := Lib.hid hcm5
    clear hhg htk5 hcs5 hbg hcm5
    go_wp2_with fail
    go_ret
    have hg2 := set_blk (o := j * 3 + 2) (set_blk (o := j * 3 + 1) (set_blk (o := j * 3) (HG.out) (.int .u64 x.key)) (.string x.id)) (.slice x.vA x.vN x.vC)
    have hbg := HBG.out
    have hNs := HSZ.out
    refine ⟨_, _, rfl, ?_, ?_⟩
    · refine ⟨by rw [flat_len (enc := encInst) lenInst, hLL], .inr ⟨g, _, _, rfl, by omega, hg2, hnc5, HCM.out, by simp only [Array.size_setIfInBounds]; have := HCS.out; omega, ?_⟩⟩
      rw [hLe.out, ← HFS.out, ← setAll_splice _ _ _ (by rw [HVL.out, lenInst]; omega), ← HTK.out]
      simp only [Array.toList_setIfInBounds, List.take_set]
      rfl
    · exact ((((below2 HB.out HB2.out)).setCell (p := ⟨g, j * 3, none⟩) (by show _ ≤ g; omega) _).setCell (p := ⟨g, j * 3 + 1, none⟩) (by show _ ≤ g; omega) _).setCell (p := ⟨g, j * 3 + 2, none⟩) (by show _ ≤ g; omega) _
end Go.Proofs.YtgpkmellpllmgaaGreat
/-
  Lists of Token: searched, copied. Printed by gfold.py.
-/
set_option linter.unusedVariables false
set_option linter.unusedSimpArgs false
namespace Go.Proofs.YtgpkmellpllmgaaGreat
open Go Go.RowKit Go.Proofs.Base
open Go.Sort (grow)
set_option maxRecDepth 100000 in
set_option maxHeartbeats 2000000 in
theorem clone_Tok (A : Option Addr) (n c : Nat) (l : List ETok) (w : World) (S : Nat → Prop) (hl : l.length = n) (hby : n * 56 ≤ 140737488355328) (hr : Row w S 6 n (.slice A n c) (l.flatMap encTok)) :
    Calls Tryz.prog 24 #[.slice A n c] w fun e w' => ∃ A' c', e = .returned (.slice A' n c') ∧ w'.ownsRow w.heap.size 42 6 (.slice A' n c') n (l.flatMap encTok) ∧ Below w.heap.size w w' := by
  obtain ⟨i0, z, hi0, hz0, hz1, hz2, hzc⟩ := eTok.hi
  have q : ∀ (w : World) (a : Option Addr) (n c n' c' : Nat), (binOp .eql 27 (.slice a n c) (.slice none n' c')).run Tryz.prog w = .ok (.bool a.isNone) w := fun w a n c n' c' => Lib.run_eql_slice_nil w _ _ a n c n' c' Tryz.underlying27
  obtain ⟨A', c', he, hnc, hcm, hlen, hnone, hsome⟩ := hr
  injection he with e1 _ e3
  subst e1 e3
  cases A with
  | none =>
    obtain ⟨rfl, rfl⟩ := hnone rfl
    obtain rfl : l = [] := List.eq_nil_of_length_eq_zero hl
    clear hsome hlen
    go_enter Tryz.func24, Tryz.ntmps24
    go_wp2
    go_ret
    exact ⟨none, 0, rfl, own_nil _ _ _ _, Below.refl _ _⟩
  | some ad =>
    have HC : Hid (∀ j u, (l.flatMap encTok)[j]? = some u → w.cell? (ad.add j) = some u) := Lib.hid (fun j u hu => by
      rcases Nat.eq_zero_or_pos n with h0 | h0
      · subst h0
        obtain rfl : l = [] := List.eq_nil_of_length_eq_zero hl
        simp at hu
      · obtain ⟨b, o, hA, _, _, hc⟩ := hsome h0
        injection hA with hA
        subst hA
        rw [add_plain]
        exact hc j u hu)
    have HVL := Lib.hid hlen
    have H1 := Lib.hid (flat_one (enc := encTok) oneTok l)
    clear hsome hlen hnone hl
    go_enter Tryz.func24, Tryz.ntmps24
    go_wp2_with (at_builtin; refine wpList_append_own _ rfl _ _ 27 rfl w.heap.size 42 i0 z 6 56 Tryz.underlying27 hi0 hz0 hz1 hz2 hzc (by omega) _ _ _ rfl (World.ownsRow_made w #[] 0 (Nat.le_refl _) (Nat.zero_le _) (by simp)) ad n c (l.flatMap encTok) rfl HVL.out (fun j u hj => Lib.cell?_alloc_some _ (HC.out j u hj)) H1.out (by simp only [maxLen]; omega) (by omega) (by simp) ?_; intro v' w1 hown hgrow hnil)
    go_ret
    have hown' : w1.ownsRow w.heap.size 42 6 v' n (l.flatMap encTok) := by simpa using hown
    obtain ⟨A2, c2, rfl, _, _⟩ := (Row.of_own hown').open_
    exact ⟨A2, c2, rfl, hown', ((Below.refl _ w).alloc (Nat.le_refl _) _).grown hgrow (by simp) (by intro k hk; injection hk with hk; exact Nat.le_of_eq hk)⟩
set_option maxRecDepth 100000 in
set_option maxHeartbeats 1000000 in
theorem idx_Tok (A : Option Addr) (n c g : Nat) (lb : Array Value) (l : List ETok) (p : ETok → Bool) (w0 w : World) (S : Nat → Prop) (eg : ∀ args w, (callFunc g args).run Tryz.prog w = .ok (.enter g args) w) (hl : l.length = n) (hr : Row w S 6 n (.slice A n c) (l.flatMap encTok)) (h0 : Below w0.heap.size w0 w)
    (hp : ∀ W, Below w0.heap.size w0 W → ∀ x ∈ l, Calls Tryz.prog g (#[.agg #[.int .u64 x.key, .int .u64 x.inst, .int .u64 x.scope, .int .i64 x.node, .int .i64 x.flow, .string x.stuck]] ++ lb) W fun e w' => e = .returned (.bool (p x)) ∧ Below W.heap.size W w') :
    Calls Tryz.prog 76 #[.slice A n c, .func (.func g) #[] lb] w fun e w' => e = .returned (.int .i64 (idxP p l)) ∧ Below w.heap.size w w' := by
  obtain ⟨A', c', he, hnc, hcm⟩ := hr.open_
  injection he with e1 _ e3
  subst e1 e3
  have HR := Lib.hid hr
  have HL := Lib.hid hl
  have H0 := Lib.hid h0
  have HP := Lib.hid hp
  clear hr hl h0 hp
  go_enter Tryz.func76, Tryz.ntmps76
  go_wp2_with fail
  go_loopw [5, 8] (fun _ i wr => ∃ k : Nat, k ≤ n ∧ i = .int .i64 k ∧ Hid (idxP p l = idxGoP p (l.drop k) k) ∧ Below w.heap.size w wr) (fun _ i _ => n - (intOf i).toNat)
  case atStart => exact ⟨0, by omega, rfl, Lib.hid rfl, Below.refl _ _⟩
  case round =>
    obtain ⟨k, hk, rfl, HK, hbl⟩ := hrel
    have HBL := Lib.hid hbl
    by_cases hkn : k < n
    · have hk1 : k < l.length := by rw [HL.out]; exact hkn
      obtain ⟨b, o, rfl, _, hlt, hc⟩ := HR.out.at_ (by omega)
      have c0 : wr.cell? ⟨b, o + k * 6, none⟩ = some (.int .u64 l[k].key) := (hbl.cell (p := ⟨b, o + k * 6, none⟩) hlt).trans (by simpa using hc k 0 _ ((flat_at (enc := encTok) lenTok hk1 0 (by decide)).trans rfl))
      have c1 : wr.cell? ⟨b, o + k * 6 + 1, none⟩ = some (.int .u64 l[k].inst) := (hbl.cell (p := ⟨b, o + k * 6 + 1, none⟩) hlt).trans (by simpa using hc k 1 _ ((flat_at (enc := encTok) lenTok hk1 1 (by decide)).trans rfl))
      have c2 : wr.cell? ⟨b, o + k * 6 + 2, none⟩ = some (.int .u64 l[k].scope) := (hbl.cell (p := ⟨b, o + k * 6 + 2, none⟩) hlt).trans (by simpa using hc k 2 _ ((flat_at (enc := encTok) lenTok hk1 2 (by decide)).trans rfl))
      have c3 : wr.cell? ⟨b, o + k * 6 + 3, none⟩ = some (.int .i64 l[k].node) := (hbl.cell (p := ⟨b, o + k * 6 + 3, none⟩) hlt).trans (by simpa using hc k 3 _ ((flat_at (enc := encTok) lenTok hk1 3 (by decide)).trans rfl))
      have c4 : wr.cell? ⟨b, o + k * 6 + 4, none⟩ = some (.int .i64 l[k].flow) := (hbl.cell (p := ⟨b, o + k * 6 + 4, none⟩) hlt).trans (by simpa using hc k 4 _ ((flat_at (enc := encTok) lenTok hk1 4 (by decide)).trans rfl))
      have c5 : wr.cell? ⟨b, o + k * 6 + 5, none⟩ = some (.string l[k].stuck) := (hbl.cell (p := ⟨b, o + k * 6 + 5, none⟩) hlt).trans (by simpa using hc k 5 _ ((flat_at (enc := encTok) lenTok hk1 5 (by decide)).trans rfl))
      have hcall := HP.out wr (below2 H0.out hbl) l[k] (List.getElem_mem hk1)
      have hq := HK.out
      rw [List.drop_eq_getElem_cons hk1] at hq
      clear hc
      generalize l[k] = x at *
      have HQ := Lib.hid hq
      clear hq hbl HK
      by_cases hx : p x = true
      · rw [hx] at hcall
        have HX := Lib.hid hx
        clear hx
        go_wp2_with (go_at_fn g; refine hcall.mono ?_; rintro e w1 ⟨rfl, hb1⟩)
        go_ret
        refine ⟨?_, below2 HBL.out hb1⟩
        have e2 : idxGoP p (x :: l.drop (k + 1)) k = k := by show (if _ then _ else _) = _; rw [if_pos HX.out]
        rw [HQ.out, e2]; rfl
      · have hx2 : p x = false := by simpa using hx
        rw [hx2] at hcall
        have HQ2 : Hid (idxP p l = idxGoP p (l.drop (k + 1)) (k + 1)) := Lib.hid (by rw [HQ.out]; show (if _ then _ else _) = _; rw [if_neg hx])
        clear hx hx2
        go_wp2_with (go_at_fn g; refine hcall.mono ?_; rintro e w1 ⟨rfl, hb1⟩)
        go_roundw
        case rel => exact ⟨k + 1, by omega, by go_num, HQ2, below2 HBL.out hb1⟩
        case measure => simp [intOf]; omega
    · have HQ : Hid (idxP p l = -1) := Lib.hid (by rw [HK.out, List.drop_eq_nil_of_le (by rw [HL.out]; omega)]; rfl)
      clear HK
      go_wp2_with fail
      go_ret
      exact ⟨by rw [HQ.out]; rfl, hbl⟩
end Go.Proofs.YtgpkmellpllmgaaGreat
/-
  slices.Insert of one Token. Printed by gfold.py out of XIns.
-/
set_option linter.unusedVariables false
set_option linter.unusedSimpArgs false
namespace Go.Proofs.YtgpkmellpllmgaaGreat
open Go Go.RowKit Go.Proofs.Base
set_option maxRecDepth 100000 in
set_option maxHeartbeats 2000000 in
theorem ins_end_Tok (base : Nat) (v : Value) (n xb : Nat) (xs cs : List Value) (w0 w : World) (hown : w.ownsRow base 42 6 v n xs) (hx : w.heap[xb]? = some (.cells cs.toArray 42 (0, 0))) (hcs : cs.length = 6) (h1c : ∀ u ∈ cs, u.oneCell' = true)
    (hB : Below base w0 w) (hbase : base ≤ w.heap.size) (hbig : (n + 1) * 56 ≤ 140737488355328) :
    Calls Tryz.prog 143 #[v, .int .i64 n, .slice (some ⟨xb, 0, none⟩) 1 1] w fun e w' => ∃ v', e = .returned v' ∧ w'.ownsRow base 42 6 v' (n + 1) (xs ++ cs) ∧ Below base w0 w' := by
  obtain ⟨i0, z, hi, hz0, hz1, hz2, hzc⟩ := eTok.hi
  have HO := Lib.hid hown
  have HX := Lib.hid (World.news_of_block (cs := cs.toArray) (t := 42) (fr := (0, 0)) hx)
  have HCS := Lib.hid hcs
  have H1C := Lib.hid h1c
  have HB := Lib.hid hB
  have hvn : ∃ A c, v = .slice A n c ∧ n ≤ c ∧ c ≤ 9223372036854775807 := by
    obtain ⟨_, h2⟩ := id hown
    have hl0 := hown.1
    clear hown HO
    rcases h2 with ⟨rfl, hn0⟩ | ⟨g, cap, cur, rfl, hb, hh, hnc, hcm, _⟩
    · obtain rfl : n = 0 := by rw [hn0] at hl0; simp at hl0; omega
      exact ⟨none, 0, rfl, Nat.le_refl _, by omega⟩
    · exact ⟨_, _, rfl, hnc, by simpa [maxLen] using hcm⟩
  obtain ⟨A, c, rfl, hnc, hc⟩ := hvn
  clear hown hx hcs h1c hB
  go_enter Tryz.func143, Tryz.ntmps143
  go_wp2_with (at_builtin; refine wpList_append_own_at _ rfl _ _ 27 rfl base 42 i0 z 6 56 eTok.ht hi hz0 hz1 hz2 hzc (by omega) _ n xs rfl HO.out ⟨xb, 0, none⟩ 1 1 cs rfl (by rw [HCS.out]) (by simpa using HX.out) H1C.out (by simp only [maxLen]; omega) hbig hbase ?_; intro v1 w1 hown1 hg1 _ _)
  all_goals (go_ret; exact ⟨v1, rfl, hown1, HB.out.grown hg1 hbase (fun k hk => (HO.out.lt k hk).1)⟩)
theorem zeros_len_Tok (z : Value) (m : Nat) (hz : z.cells.size = 6) : (Builtin.zeroCells z.cells m).toList.length = m * 6 := by
  rw [Array.length_toList, size_zeroCells, hz]
set_option maxRecDepth 100000 in
set_option maxHeartbeats 4000000 in
theorem ins_grow_Tok (base g cap n i xb m vc : Nat) (xs cs : List Value) (w0 w : World) (hi : i < n) (hm0 : 0 < m) (hcap : cap < n + m) (hown : w.ownsRow base 42 6 (.slice (some ⟨g, 0, none⟩) n cap) n xs) (hx : w.heap[xb]? = some (.cells cs.toArray 42 (0, 0))) (hcs : cs.length = m * 6) (h1c : ∀ u ∈ cs, u.oneCell' = true) (h1x : ∀ u ∈ xs, u.oneCell' = true)
    (hB : Below base w0 w) (hbase : base ≤ w.heap.size) (hbig : (n + m) * 56 ≤ 140737488355328) :
    Calls Tryz.prog 143 #[.slice (some ⟨g, 0, none⟩) n cap, .int .i64 i, .slice (some ⟨xb, 0, none⟩) m vc] w fun e w' => ∃ v', e = .returned v' ∧ w'.ownsRow base 42 6 v' (n + m) (xs.take (i * 6) ++ cs ++ xs.drop (i * 6)) ∧ Below base w0 w' := by
  obtain ⟨i0, z, hi0, hz0, hz1, hz2, hzc⟩ := eTok.hi
  have hnc : n ≤ cap := by
    rcases hown.2 with ⟨h, _⟩ | ⟨g', cap', cur, he, _, _, hnc, _⟩
    · cases h
    · injection he with _ _ e3; omega
  have hxl := hown.1
  have hgr : ∀ ty, (Builtin.append_ #[27, 3] ty #[.slice (some ⟨g, 0, none⟩) i cap, .int .i64 ((n + m - i : Nat) : Int)]).run Tryz.prog w = _ := fun ty =>
    run_append_zeros_grows w base 27 3 ty 42 i0 z 6 56 eTok.ht Tryz.underlying3 hi0 hz0 hz1 hz2 hzc (by omega) (by omega) g i cap (xs.take (i * 6)) (own_take hown (Nat.le_of_lt hi)) .i64 (n + m - i) (by omega) (by omega) (by rw [show i + (n + m - i) = n + m by omega]; exact hbig) hbase
  rw [show i + (n + m - i) = n + m by omega] at hgr
  have hge := grownCap_ge w (n + m) cap 42
  have hcm : grownCap w (n + m) cap 42 ≤ maxLen := grownCap_le_maxLen w (n + m) cap 42 (by simp only [maxLen]; omega)
  generalize grownCap w (n + m) cap 42 = k at *
  generalize hCUR : (xs.take (i * 6)).toArray ++ Builtin.zeroCells z.cells (n + m - i) ++ Builtin.zeroCells z.cells (k - (n + m)) = CUR at hgr
  have hCl : CUR.toList = xs.take (i * 6) ++ (Builtin.zeroCells z.cells (n + m - i)).toList ++ (Builtin.zeroCells z.cells (k - (n + m))).toList := by rw [← hCUR]; simp
  have htl : (xs.take (i * 6)).length = i * 6 := by rw [List.length_take, hxl]; omega
  have hdl : (xs.drop (i * 6)).length = (n - i) * 6 := by rw [List.length_drop, hxl]; omega
  have hCs : CUR.size = k * 6 := by
    rw [← Array.length_toList, hCl, List.length_append, List.length_append, htl, zeros_len_Tok z _ hzc, zeros_len_Tok z _ hzc]; omega
  have hW1 : (w.drew.alloc (.cells CUR 42)).heap[w.heap.size]? = some (.cells CUR 42 (0, 0)) := heap_alloc_new w.drew _
  have hb1 : Below base w0 (w.drew.alloc (.cells CUR 42)) := (show Below base w0 w.drew from ⟨hB.os, hB.tape, hB.output, hB.size, hB.block⟩).alloc hbase _
  have hxb := lt_of_blk hx
  have hx1 : (w.drew.alloc (.cells CUR 42)).heap[xb]? = some (.cells cs.toArray 42 (0, 0)) := (heap_alloc_old w.drew _ hxb).trans hx
  generalize hWW : w.drew.alloc (.cells CUR 42) = W1 at *
  have hc1 : ∀ ty dc, (Builtin.copy_ #[27, 27] ty #[.slice (some ⟨w.heap.size, i * 6, none⟩) (n + m - i) dc, .slice (some ⟨xb, 0, none⟩) m vc]).run Tryz.prog W1 = .ok (goInt (m : Int)) (W1.setRow w.heap.size (splice CUR.toList (i * 6) cs).toArray) := fun ty dc =>
    run_copy_wide W1 _ _ ty 42 6 w.heap.size (i * 6) (n + m - i) dc ⟨xb, 0, none⟩ m vc m CUR 42 cs eTok.ht sTok hW1 (by simp only [Nat.min_def]; split <;> omega) (by omega) (by simpa using World.news_of_block (cs := cs.toArray) (t := 42) (fr := (0, 0)) hx1) (by omega) h1c
  have hW2 := setRow_heap W1 w.heap.size CUR (splice CUR.toList (i * 6) cs).toArray 42 (0, 0) hW1
  have hb2 : Below base w0 (W1.setRow w.heap.size (splice CUR.toList (i * 6) cs).toArray) := below_setRow hb1 hbase _
  have hg2 : ∀ j v, (xs.drop (i * 6))[j]? = some v → (W1.setRow w.heap.size (splice CUR.toList (i * 6) cs).toArray).cell? ((⟨g, i * 6, none⟩ : Addr).add j) = some v := by
    intro j v hj
    have hglt := (hown.lt g rfl).2
    have h1 : w.cell? ((⟨g, 0, none⟩ : Addr).add (i * 6 + j)) = some v := hown.cells rfl (i * 6 + j) v (by rw [List.getElem?_drop] at hj; exact hj)
    rw [add_plain] at h1 ⊢
    rw [Nat.zero_add] at h1
    have h2 : (W1.setRow w.heap.size (splice CUR.toList (i * 6) cs).toArray).heap[g]? = w.heap[g]? := by
      rw [setRow_other _ _ _ _ (by omega), ← hWW]
      exact heap_alloc_old w.drew _ hglt
    exact (World.cell?_of_block (w := w) (a := ⟨g, i * 6 + j, none⟩) h2).trans h1
  generalize hW3 : W1.setRow w.heap.size (splice CUR.toList (i * 6) cs).toArray = W2 at *
  have hsl : (splice CUR.toList (i * 6) cs).length = k * 6 := by rw [length_splice CUR.toList (i * 6) cs (by rw [hcs, Array.length_toList, hCs]; omega), Array.length_toList, hCs]
  have hc2 : ∀ W : World, (∀ b, W.heap[b]? = W2.heap[b]?) → (∀ x, W.cell? x = W2.cell? x) → ∀ ty dc sc, (Builtin.copy_ #[27, 27] ty #[.slice (some ⟨w.heap.size, (i + m) * 6, none⟩) (n + m - (i + m)) dc, .slice (some ⟨g, i * 6, none⟩) (n - i) sc]).run Tryz.prog W = .ok (goInt ((n - i : Nat) : Int)) (W.setRow w.heap.size (splice (splice CUR.toList (i * 6) cs) ((i + m) * 6) (xs.drop (i * 6))).toArray) := fun W hWb hWc ty dc sc => by
    have h := run_copy_wide (P := Tryz.prog) W 27 27 ty 42 6 w.heap.size ((i + m) * 6) (n + m - (i + m)) dc ⟨g, i * 6, none⟩ (n - i) sc (n - i) (splice CUR.toList (i * 6) cs).toArray 42 (xs.drop (i * 6)) eTok.ht sTok ((hWb _).trans hW2) (by simp only [Nat.min_def]; split <;> omega) hdl (fun j v hj => (hWc _).trans (hg2 j v hj)) (by simp only [List.size_toArray]; rw [hsl, hdl]; omega) (fun u hu => h1x u (List.mem_of_mem_drop hu))
    rw [List.toList_toArray] at h
    exact h
  have hfin : (splice (splice CUR.toList (i * 6) cs) ((i + m) * 6) (xs.drop (i * 6))) = xs.take (i * 6) ++ cs ++ xs.drop (i * 6) ++ (Builtin.zeroCells z.cells (k - (n + m))).toList := by
    rw [hCl, show (i + m) * 6 = i * 6 + m * 6 by omega]
    exact ins_list (n := n * 6) (m * 6) hxl (by omega) hcs (by rw [zeros_len_Tok z _ hzc]; omega) _
  have hout : ∀ W : World, W.heap[w.heap.size]? = some (.cells (splice (splice CUR.toList (i * 6) cs) ((i + m) * 6) (xs.drop (i * 6))).toArray 42 (0, 0)) → W.ownsRow base 42 6 (.slice (some ⟨w.heap.size, 0, none⟩) (n + m) k) (n + m) (xs.take (i * 6) ++ cs ++ xs.drop (i * 6)) := by
    intro W hW
    have hl : (xs.take (i * 6) ++ cs ++ xs.drop (i * 6)).length = (n + m) * 6 := by rw [List.length_append, List.length_append, htl, hcs, hdl]; omega
    refine ⟨hl, .inr ⟨_, _, _, rfl, hbase, hW, hge, hcm, ?_, ?_⟩⟩
    · simp only [List.size_toArray]; rw [length_splice _ _ _ (by rw [hsl, hdl]; omega), hsl]
    · rw [hfin, ← hl, List.take_left]
  have q1 : IntKind.i64.wrap ((n : Int) + m) = (n : Int) + m := by rw [IntKind.wrap_i64]; omega
  have q2 : IntKind.i64.wrap ((i : Int) + m) = (i : Int) + m := by rw [IntKind.wrap_i64]; omega
  have q3 : ((n : Int) + m - i) = ((n + m - i : Nat) : Int) := by omega
  have q4 : ((n : Int) == (i : Int)) = false := beq_f (by omega)
  have q5 : ((i : Int) == (n : Int)) = false := beq_f (by omega)
  have q6 : ((i : Int) + m).toNat = i + m := by omega
  have HB2 := Lib.hid hb2
  have HC1 := Lib.hid hc1
  have HC2 := Lib.hid hc2
  have HGR := Lib.hid hgr
  have HOUT := Lib.hid hout
  have HW2 := Lib.hid hW2
  have hck : i < k := by omega
  have kb1 : (0 : Int) ≤ (i : Int) + (m : Int) := by omega
  have kb2 : ¬ (k = i + m) := by omega
  have kb3 : (i : Int) ≤ (n : Int) + (m : Int) := by omega
  have kb4 : ¬ (cap = i) := by omega
  have kb5 : ¬ (k = i) := by omega
  have kb6 : i ≤ n := by omega
  have hz1 : ¬ ((m : Int) = 0) := by omega
  clear hc1 hc2 hgr hfin hsl hg2 hb2 hW2 hx1 hxb hb1 hW1 hCl hCs htl hdl hown hx h1c h1x hB hxl hz0 hz1 hz2 hzc hi0 hcs hCUR hbig hWW hW3
  unfold maxLen at hcm
  go_enter Tryz.func143, Tryz.ntmps143
  go_wp2_with (first | (at_builtin; with_reducible refine Lib.wpList_append_run _ rfl _ _ 27 3 rfl _ _ rfl rfl _ _ (HGR.out _) ?_) | (with_reducible refine wpList_copy_runI _ rfl _ _ 27 27 rfl _ _ rfl rfl (HC1.out _ _) ?_))
  go_region_law (refine step_copy_runI rfl _ _ 27 27 rfl _ _ (by simp [Act.eval, Act.put]) (by simp [Act.eval, Act.put]) (HC2.out W2.drew (fun _ => rfl) (fun _ => rfl) _ (k - (i + m)) (cap - i)) ?_)
  go_wp2_with fail
  go_ret
  refine ⟨_, rfl, by simpa [List.append_assoc] using HOUT.out _ (setRow_heap W2.drew _ _ _ 42 (0, 0) HW2.out), ?_⟩
  exact below_setRow (show Below base w0 W2.drew from ⟨HB2.out.os, HB2.out.tape, HB2.out.output, HB2.out.size, HB2.out.block⟩) hbase _
set_option maxRecDepth 100000 in
set_option maxHeartbeats 4000000 in
theorem ins_room_Tok (base g cap n i xb m vc : Nat) (xs cs : List Value) (w0 w : World) (hi : i < n) (hm0 : 0 < m) (hcap : n + m ≤ cap) (hown : w.ownsRow base 42 6 (.slice (some ⟨g, 0, none⟩) n cap) n xs) (hx : w.heap[xb]? = some (.cells cs.toArray 42 (0, 0))) (hxg : xb ≠ g) (hcs : cs.length = m * 6) (h1c : ∀ u ∈ cs, u.oneCell' = true) (h1x : ∀ u ∈ xs, u.oneCell' = true)
    (hB : Below base w0 w) :
    Calls Tryz.prog 143 #[.slice (some ⟨g, 0, none⟩) n cap, .int .i64 i, .slice (some ⟨xb, 0, none⟩) m vc] w fun e w' => ∃ v', e = .returned v' ∧ w'.ownsRow base 42 6 v' (n + m) (xs.take (i * 6) ++ cs ++ xs.drop (i * 6)) ∧ Below base w0 w' := by
  have hxl := hown.1
  obtain ⟨cur, hbg, hg, hcm, hcsz, htk⟩ : ∃ cur : Array Value, base ≤ g ∧ w.heap[g]? = some (.cells cur 42 (0, 0)) ∧ cap ≤ maxLen ∧ cur.size = cap * 6 ∧ cur.toList.take (n * 6) = xs := by
    rcases hown.2 with ⟨h, _⟩ | ⟨g', cap', cur, he, hb, hh, hnc, hcm, hcs, htk⟩
    · cases h
    · injection he with e1 e2 e3
      injection e1 with e1
      injection e1 with e1
      subst e1 e3
      exact ⟨cur, hb, hh, hcm, by omega, htk⟩
  have hdl : (xs.drop (i * 6)).length = (n - i) * 6 := by rw [List.length_drop, hxl]; omega
  have hov : ∀ lb cb, (callFunc 190 #[.slice (some ⟨xb, 0, none⟩) m vc, .slice (some ⟨g, (i + m) * 6, none⟩) lb cb]).run Tryz.prog w = .ok (.value (.bool false)) w := fun lb cb => by
    rw [run_callFunc_extern Tryz.func190 (by kernel_rfl) (by kernel_rfl) (by kernel_rfl) (e := Extern.SlicesOverlaps.overlaps #[27, 27] #[4]) (by kernel_rfl),
      Lib.run_overlaps_apart w 27 4 42 Tryz.underlying27 6 Tryz.sizeOf42 ⟨xb, 0, none⟩ ⟨g, (i + m) * 6, none⟩ m vc lb cb hxg 42 42 cs.toArray.size cur.size (by simp [World.shape?, hx]) (by simp [World.shape?, hg]) (by omega) (frozen_of_blk hx _) (frozen_of_blk hx _)]
    rfl
  have hg1 := setRow_heap w.drew g cur (splice cur.toList ((i + m) * 6) (xs.drop (i * 6))).toArray 42 (0, 0) hg
  have hc1 : ∀ ty dc sc, (Builtin.copy_ #[27, 27] ty #[.slice (some ⟨g, (i + m) * 6, none⟩) (n + m - (i + m)) dc, .slice (some ⟨g, i * 6, none⟩) (n + m - i) sc]).run Tryz.prog w.drew = .ok (goInt ((n - i : Nat) : Int)) (w.drew.setRow g (splice cur.toList ((i + m) * 6) (xs.drop (i * 6))).toArray) := fun ty dc sc =>
    run_copy_wide (P := Tryz.prog) w.drew 27 27 ty 42 6 g ((i + m) * 6) (n + m - (i + m)) dc ⟨g, i * 6, none⟩ (n + m - i) sc (n - i) cur 42 (xs.drop (i * 6)) eTok.ht sTok hg (by simp only [Nat.min_def]; split <;> omega) hdl
      (fun j v hj => by
        have h1 : w.cell? ((⟨g, 0, none⟩ : Addr).add (i * 6 + j)) = some v := hown.cells rfl (i * 6 + j) v (by rw [List.getElem?_drop] at hj; exact hj)
        rw [add_plain] at h1 ⊢
        rw [Nat.zero_add] at h1
        exact h1) (by rw [hdl, hcsz]; omega) (fun u hu => h1x u (List.mem_of_mem_drop hu))
  have hxb := lt_of_blk hx
  have hx1 : (w.drew.setRow g (splice cur.toList ((i + m) * 6) (xs.drop (i * 6))).toArray).heap[xb]? = some (.cells cs.toArray 42 (0, 0)) := (setRow_other w.drew g xb _ hxg).trans hx
  have hbd : Below base w0 (w.drew.setRow g (splice cur.toList ((i + m) * 6) (xs.drop (i * 6))).toArray) := below_setRow (show Below base w0 w.drew from ⟨hB.os, hB.tape, hB.output, hB.size, hB.block⟩) hbg _
  generalize hWW : w.drew.setRow g (splice cur.toList ((i + m) * 6) (xs.drop (i * 6))).toArray = W1 at *
  have hsl : (splice cur.toList ((i + m) * 6) (xs.drop (i * 6))).length = cap * 6 := by rw [length_splice cur.toList ((i + m) * 6) (xs.drop (i * 6)) (by rw [hdl, Array.length_toList, hcsz]; omega), Array.length_toList, hcsz]
  have hc2 : ∀ ty dc, (Builtin.copy_ #[27, 27] ty #[.slice (some ⟨g, i * 6, none⟩) (n + m - i) dc, .slice (some ⟨xb, 0, none⟩) m vc]).run Tryz.prog W1 = .ok (goInt (m : Int)) (W1.setRow g (splice (splice cur.toList ((i + m) * 6) (xs.drop (i * 6))) (i * 6) cs).toArray) := fun ty dc => by
    have h := run_copy_wide (P := Tryz.prog) W1 27 27 ty 42 6 g (i * 6) (n + m - i) dc ⟨xb, 0, none⟩ m vc m (splice cur.toList ((i + m) * 6) (xs.drop (i * 6))).toArray 42 cs eTok.ht sTok hg1 (by simp only [Nat.min_def]; split <;> omega) hcs (by simpa using World.news_of_block (cs := cs.toArray) (t := 42) (fr := (0, 0)) hx1) (by simp only [List.size_toArray]; rw [hsl, hcs]; omega) h1c
    rw [List.toList_toArray] at h
    exact h
  have hg2 := setRow_heap W1 g _ (splice (splice cur.toList ((i + m) * 6) (xs.drop (i * 6))) (i * 6) cs).toArray 42 (0, 0) hg1
  have hb2 := below_setRow hbd hbg (splice (splice cur.toList ((i + m) * 6) (xs.drop (i * 6))) (i * 6) cs).toArray
  have hout : (W1.setRow g (splice (splice cur.toList ((i + m) * 6) (xs.drop (i * 6))) (i * 6) cs).toArray).ownsRow base 42 6 (.slice (some ⟨g, 0, none⟩) (n + m) cap) (n + m) (xs.take (i * 6) ++ cs ++ xs.drop (i * 6)) := by
    have htl : (xs.take (i * 6)).length = i * 6 := by rw [List.length_take, hxl]; omega
    have hl : (xs.take (i * 6) ++ cs ++ xs.drop (i * 6)).length = (n + m) * 6 := by rw [List.length_append, List.length_append, htl, hcs, hdl]; omega
    refine ⟨hl, .inr ⟨_, _, _, rfl, hbg, hg2, hcap, hcm, ?_, ?_⟩⟩
    · simp only [List.size_toArray]; rw [length_splice _ _ _ (by rw [hsl, hcs]; omega), hsl]
    · have h := ins_list2 (xs := xs) (cs := cs) (cur := cur.toList) (i := i * 6) (n := n * 6) (m * 6) htk (by rw [Array.length_toList, hcsz]; omega) (by omega) hcs
      rw [show i * 6 + m * 6 = (i + m) * 6 by omega, show n * 6 + m * 6 = (n + m) * 6 by omega] at h
      exact h
  generalize hWW2 : W1.setRow g (splice (splice cur.toList ((i + m) * 6) (xs.drop (i * 6))) (i * 6) cs).toArray = W2 at *
  have HB2 := Lib.hid hb2
  have HC1 := Lib.hid hc1
  have HC2 := Lib.hid hc2
  have HOV := Lib.hid hov
  have HOUT := Lib.hid hout
  have hck : i < cap := by omega
  have q1 : IntKind.i64.wrap ((n : Int) + m) = (n : Int) + m := by rw [IntKind.wrap_i64]; unfold maxLen at hcm; omega
  have q2 : IntKind.i64.wrap ((i : Int) + m) = (i : Int) + m := by rw [IntKind.wrap_i64]; unfold maxLen at hcm; omega
  have q5 : ((i : Int) == (n : Int)) = false := beq_f (by omega)
  have q6 : ((i : Int) + m).toNat = i + m := by omega
  have q7 : ((n : Int) + m).toNat = n + m := by omega
  have kb1 : (0 : Int) ≤ (i : Int) + (m : Int) := by omega
  have kb2 : ¬ (cap = i + m) := by omega
  have kb3 : (i : Int) ≤ (n : Int) + (m : Int) := by omega
  have kb4 : ¬ (cap = i) := by omega
  have kb6 : i ≤ n := by omega
  have hz1 : ¬ ((m : Int) = 0) := by omega
  clear hb2 hc1 hc2 hov hout hown hx h1c h1x hB hxl hcs hWW hWW2 hg hg1 hg2 hcsz htk hdl hxb hx1 hbd hsl
  unfold maxLen at hcm
  go_enter Tryz.func143, Tryz.ntmps143
  go_wp2_with (simp only [HOV.out])
  go_region_law (refine step_copy_runI rfl _ _ 27 27 rfl _ _ (by simp [Act.eval, Act.put]) (by simp [Act.eval, Act.put]) (HC1.out _ (cap - (i + m)) (cap - i)) ?_)
  go_wp2_with (with_reducible refine wpList_copy_runI _ rfl _ _ 27 27 rfl _ _ rfl rfl (HC2.out _ _) ?_)
  go_ret
  exact ⟨_, rfl, by simpa [List.append_assoc] using HOUT.out, HB2.out⟩
theorem ins_one_Tok (base : Nat) (v : Value) (n i xb : Nat) (xs cs : List Value) (w0 w : World) (hi : i ≤ n) (hown : w.ownsRow base 42 6 v n xs) (hx : w.heap[xb]? = some (.cells cs.toArray 42 (0, 0))) (hxv : ∀ g, v.ownBlock = some g → xb ≠ g) (hcs : cs.length = 6) (h1c : ∀ u ∈ cs, u.oneCell' = true) (h1x : ∀ u ∈ xs, u.oneCell' = true)
    (hB : Below base w0 w) (hbase : base ≤ w.heap.size) (hbig : (n + 1) * 56 ≤ 140737488355328) :
    Calls Tryz.prog 143 #[v, .int .i64 i, .slice (some ⟨xb, 0, none⟩) 1 1] w fun e w' => ∃ v', e = .returned v' ∧ w'.ownsRow base 42 6 v' (n + 1) (xs.take (i * 6) ++ cs ++ xs.drop (i * 6)) ∧ Below base w0 w' := by
  by_cases he : i = n
  · subst he
    have hxl := hown.1
    have h := ins_end_Tok base v i xb xs cs w0 w hown hx hcs h1c hB hbase hbig
    rw [List.take_of_length_le (by omega), List.drop_of_length_le (by omega), List.append_nil]
    exact h
  · have hlt : i < n := by omega
    have h2 := hown.2
    rcases h2 with ⟨_, hn0⟩ | ⟨g, cap, cur, rfl, hb, hh, hnc, hcm, _⟩
    · have := hown.1; rw [hn0] at this; simp at this; omega
    · by_cases hc : n + 1 ≤ cap
      · exact ins_room_Tok base g cap n i xb 1 1 xs cs w0 w hlt (by omega) hc hown hx (hxv g rfl) (by omega) h1c h1x hB
      · exact ins_grow_Tok base g cap n i xb 1 1 xs cs w0 w hlt (by omega) (by omega) hown hx (by omega) h1c h1x hB hbase hbig
end Go.Proofs.YtgpkmellpllmgaaGreat
/-
  fold.put of Token. Printed by gfold.py.
-/
set_option linter.unusedVariables false
set_option linter.unusedSimpArgs false
namespace Go.Proofs.YtgpkmellpllmgaaGreat
open Go Go.RowKit Go.Proofs.Base
open Go.Sort (grow)
set_option maxRecDepth 100000 in
theorem ord_Tok (y x : ETok) (w : World) : Calls Tryz.prog 85 #[.agg #[.int .u64 y.key, .int .u64 y.inst, .int .u64 y.scope, .int .i64 y.node, .int .i64 y.flow, .string y.stuck], .agg #[.int .u64 x.key, .int .u64 x.inst, .int .u64 x.scope, .int .i64 x.node, .int .i64 x.flow, .string x.stuck]] w fun e w' => e = .returned (.int .i64 (cmpTok y x)) ∧ Below w.heap.size w w' := by
  have hB : Below w.heap.size w ((w.alloc (.cells #[.int .u64 y.key, .int .u64 y.inst, .int .u64 y.scope, .int .i64 y.node, .int .i64 y.flow, .string y.stuck] 42)).alloc (.cells #[.int .u64 x.key, .int .u64 x.inst, .int .u64 x.scope, .int .i64 x.node, .int .i64 x.flow, .string x.stuck] 42)) := below_alloc (below_alloc (Below.refl _ _) _) _
  have HB := Lib.hid hB
  clear hB
  go_enter Tryz.func85, Tryz.ntmps85
  go_wp2_with (go_at_call 83; refine (cmp_u64 _ _ _).mono ?_; rintro e w' ⟨rfl, rfl⟩)
  go_ret
  exact ⟨rfl, HB.out⟩
set_option maxRecDepth 100000 in
theorem put1_Tok (B1 B2 : Nat) (y x : ETok) (w : World) (h1 : w.cell? ⟨B1, 0, none⟩ = some (.func (.func 85) #[] #[])) (h2 : w.heap[B2]? = some (.cells #[.int .u64 x.key, .int .u64 x.inst, .int .u64 x.scope, .int .i64 x.node, .int .i64 x.flow, .string x.stuck] 42 (0, 0))) :
    Calls Tryz.prog 141 (#[.agg #[.int .u64 y.key, .int .u64 y.inst, .int .u64 y.scope, .int .i64 y.node, .int .i64 y.flow, .string y.stuck]] ++ #[.pointer (some ⟨B1, 0, none⟩), .pointer (some ⟨B2, 0, none⟩)]) w fun e w' => e = .returned (.bool (decide (cmpTok y x = 0))) ∧ Below w.heap.size w w' := by
  have hB : Below w.heap.size w (w.alloc (.cells #[.int .u64 y.key, .int .u64 y.inst, .int .u64 y.scope, .int .i64 y.node, .int .i64 y.flow, .string y.stuck] 42)) := below_alloc (Below.refl _ _) _
  have hc := (hB.cell (p := ⟨B1, 0, none⟩) (World.block_lt_of_cell? w _ h1)).trans h1
  have hk := block_below hB h2
  have k0 := cell_of_blk hk 0
  have k1 := cell_of_blk hk 1
  have k2 := cell_of_blk hk 2
  have k3 := cell_of_blk hk 3
  have k4 := cell_of_blk hk 4
  have k5 := cell_of_blk hk 5
  have HB := Lib.hid hB
  obtain ⟨cc, hcc⟩ : ∃ cc, cc = cmpTok y x := ⟨_, rfl⟩
  have ho := fun w => ord_Tok y x w
  simp only [← hcc] at ho
  have HO := Lib.hid ho
  rw [← hcc]
  clear hB h1 h2 hk hcc ho
  go_enter Tryz.func141, Tryz.ntmps141
  go_wp2_with (go_at_call 85; refine (HO.out _).mono ?_; rintro e w' ⟨rfl, hb⟩)
  go_ret
  exact ⟨by first | rfl | (refine congrArg (fun b => Ending.returned (Value.bool b)) ?_; rw [Bool.eq_iff_iff]; simp), below2 HB.out hb⟩
set_option maxRecDepth 100000 in
theorem put2_Tok (B1 B2 : Nat) (y x : ETok) (w : World) (h1 : w.cell? ⟨B1, 0, none⟩ = some (.func (.func 85) #[] #[])) (h2 : w.heap[B2]? = some (.cells #[.int .u64 x.key, .int .u64 x.inst, .int .u64 x.scope, .int .i64 x.node, .int .i64 x.flow, .string x.stuck] 42 (0, 0))) :
    Calls Tryz.prog 142 (#[.agg #[.int .u64 y.key, .int .u64 y.inst, .int .u64 y.scope, .int .i64 y.node, .int .i64 y.flow, .string y.stuck]] ++ #[.pointer (some ⟨B1, 0, none⟩), .pointer (some ⟨B2, 0, none⟩)]) w fun e w' => e = .returned (.bool (decide (0 < cmpTok y x))) ∧ Below w.heap.size w w' := by
  have hB : Below w.heap.size w (w.alloc (.cells #[.int .u64 y.key, .int .u64 y.inst, .int .u64 y.scope, .int .i64 y.node, .int .i64 y.flow, .string y.stuck] 42)) := below_alloc (Below.refl _ _) _
  have hc := (hB.cell (p := ⟨B1, 0, none⟩) (World.block_lt_of_cell? w _ h1)).trans h1
  have hk := block_below hB h2
  have k0 := cell_of_blk hk 0
  have k1 := cell_of_blk hk 1
  have k2 := cell_of_blk hk 2
  have k3 := cell_of_blk hk 3
  have k4 := cell_of_blk hk 4
  have k5 := cell_of_blk hk 5
  have HB := Lib.hid hB
  obtain ⟨cc, hcc⟩ : ∃ cc, cc = cmpTok y x := ⟨_, rfl⟩
  have ho := fun w => ord_Tok y x w
  simp only [← hcc] at ho
  have HO := Lib.hid ho
  rw [← hcc]
  clear hB h1 h2 hk hcc ho
  go_enter Tryz.func142, Tryz.ntmps142
  go_wp2_with (go_at_call 85; refine (HO.out _).mono ?_; rintro e w' ⟨rfl, hb⟩)
  go_ret
  exact ⟨by first | rfl | (refine congrArg (fun b => Ending.returned (Value.bool b)) ?_; rw [Bool.eq_iff_iff]; simp), below2 HB.out hb⟩
set_option maxRecDepth 100000 in
set_option maxHeartbeats 4000000 in
theorem put_Tok (A : Option Addr) (n c : Nat) (x : ETok) (l : List ETok) (w : World) (S : Nat → Prop) (hl : l.length = n) (hby : (n + 1) * 56 ≤ 140737488355328) (hr : Row w S 6 n (.slice A n c) (l.flatMap encTok)) :
    Calls Tryz.prog 84 #[.slice A n c, .agg #[.int .u64 x.key, .int .u64 x.inst, .int .u64 x.scope, .int .i64 x.node, .int .i64 x.flow, .string x.stuck], .func (.func 85) #[] #[]] w fun e w' => ∃ A' c', e = .returned (.slice A' (putL cmpTok x l).length c') ∧ w'.ownsRow w.heap.size 42 6 (.slice A' (putL cmpTok x l).length c') (putL cmpTok x l).length ((putL cmpTok x l).flatMap encTok) ∧ Below w.heap.size w w' := by
  obtain ⟨N, hN⟩ : ∃ N, N = (w.alloc (.cells #[.int .u64 x.key, .int .u64 x.inst, .int .u64 x.scope, .int .i64 x.node, .int .i64 x.flow, .string x.stuck] 42)).alloc (.cells #[.func (.func 85) #[] #[]] 118) := ⟨_, rfl⟩
  have b0 : N.heap[w.heap.size]? = some (.cells #[.int .u64 x.key, .int .u64 x.inst, .int .u64 x.scope, .int .i64 x.node, .int .i64 x.flow, .string x.stuck] 42 (0, 0)) := by rw [hN]; exact blk_alloc (blk_new _) _
  have b1 : N.heap[w.heap.size + 1]? = some (.cells #[.func (.func 85) #[] #[]] 118 (0, 0)) := by rw [hN]; exact blk_new_of _ (by simp)
  have hB : Below w.heap.size w N := by rw [hN]; exact below_alloc (below_alloc (Below.refl _ _) _) _
  have hsz : N.heap.size = w.heap.size + 2 := by rw [hN]; simp
  have HN := Lib.hid hN
  have HB := Lib.hid hB
  have HSZ := Lib.hid hsz
  have HP1 : Hid (∀ W, Below N.heap.size N W → ∀ y ∈ l, Calls Tryz.prog 141 (#[.agg #[.int .u64 y.key, .int .u64 y.inst, .int .u64 y.scope, .int .i64 y.node, .int .i64 y.flow, .string y.stuck]] ++ #[.pointer (some ⟨w.heap.size + 1, 0, none⟩), .pointer (some ⟨w.heap.size, 0, none⟩)]) W fun e w' => e = .returned (.bool (decide (cmpTok y x = 0))) ∧ Below W.heap.size W w') :=
    Lib.hid (fun W hW y _ => put1_Tok _ _ y x W (cell_of_blk (block_below hW b1) 0) (block_below hW b0))
  have HP2 : Hid (∀ W, Below N.heap.size N W → ∀ y ∈ l, Calls Tryz.prog 142 (#[.agg #[.int .u64 y.key, .int .u64 y.inst, .int .u64 y.scope, .int .i64 y.node, .int .i64 y.flow, .string y.stuck]] ++ #[.pointer (some ⟨w.heap.size + 1, 0, none⟩), .pointer (some ⟨w.heap.size, 0, none⟩)]) W fun e w' => e = .returned (.bool (decide (0 < cmpTok y x))) ∧ Below W.heap.size W w') :=
    Lib.hid (fun W hW y _ => put2_Tok _ _ y x W (cell_of_blk (block_below hW b1) 0) (block_below hW b0))
  have HCL := Lib.hid (clone_Tok A n c l N S hl (by omega) (hr.below (hB)))
  have e1 : ∀ args w, (callFunc 141 args).run Tryz.prog w = .ok (.enter 141 args) w := enters_of Tryz.func141 (by kernel_rfl) rfl
  have e2 : ∀ args w, (callFunc 142 args).run Tryz.prog w = .ok (.enter 142 args) w := enters_of Tryz.func142 (by kernel_rfl) rfl
  have E1 := Lib.hid e1
  have E2 := Lib.hid e2
  have HK := Lib.hid b0
  have HL := Lib.hid hl
  have HBY := Lib.hid hby
  obtain ⟨A0, c0, he0, hnc0, hcm0⟩ := hr.open_
  injection he0 with q1 _ q3
  subst q1 q3
  clear hN b0 b1 hB hr hsz e1 e2
  have HPL : Hid (putL cmpTok x l = if 0 ≤ idxP (fun y => decide (cmpTok y x = 0)) l then l.set (idxP (fun y => decide (cmpTok y x = 0)) l).toNat x else l.take (spotL cmpTok x l) ++ x :: l.drop (spotL cmpTok x l)) := Lib.hid rfl
  generalize putL cmpTok x l = L at *
  have hi1 := idxP_spec (fun y => decide (cmpTok y x = 0)) l
  have hi2 := idxP_spec (fun y => decide (0 < cmpTok y x)) l
  have HSP : Hid (spotL cmpTok x l = if idxP (fun y => decide (0 < cmpTok y x)) l < 0 then l.length else (idxP (fun y => decide (0 < cmpTok y x)) l).toNat) := Lib.hid rfl
  rcases hi1 with ⟨h1, _⟩ | ⟨j, hj, h1, -, -⟩
  · -- a new one
    obtain ⟨sp, hsp⟩ : ∃ sp, sp = spotL cmpTok x l := ⟨_, rfl⟩
    have hLe : Hid (L = l.take sp ++ x :: l.drop sp) := Lib.hid (by rw [HPL.out, h1, if_neg (by decide), hsp])
    have hspn : sp ≤ n := by rw [hsp, ← hl]; exact spotL_le _ _ _
    have HLe := hLe
    have hLL : L.length = n + 1 := by
      rw [hLe.out, List.length_append, List.length_cons, List.length_take, List.length_drop, hl]; omega
    have HINS : Hid (∀ (w5 : World) A5 c5, w5.ownsRow N.heap.size 42 6 (.slice A5 n c5) n (l.flatMap encTok) → Below N.heap.size N w5 → Calls Tryz.prog 143 #[.slice A5 n c5, .int .i64 sp, .slice (some ⟨w5.heap.size, 0, none⟩) 1 1] (w5.alloc (.cells #[.int .u64 x.key, .int .u64 x.inst, .int .u64 x.scope, .int .i64 x.node, .int .i64 x.flow, .string x.stuck] 42)) fun e w' => ∃ A' c', e = .returned (.slice A' (n + 1) c') ∧ w'.ownsRow w.heap.size 42 6 (.slice A' (n + 1) c') (n + 1) (L.flatMap encTok) ∧ Below w.heap.size w w') := Lib.hid (fun w5 A5 c5 hown hb5 => by
      have hb5s := hb5.size
      have hNs := HSZ.out
      refine (ins_one_Tok w.heap.size _ n sp w5.heap.size (l.flatMap encTok) (encTok x) w (w5.alloc (.cells #[.int .u64 x.key, .int .u64 x.inst, .int .u64 x.scope, .int .i64 x.node, .int .i64 x.flow, .string x.stuck] 42)) hspn ((own_base hown (by omega)).alloc _) (blk_new _) (fun g hg => by have := (hown.lt g hg).2; omega) rfl (oneTok x) (flat_one oneTok l) (below_alloc (below2 HB.out hb5) _) (by simp; omega) HBY.out).mono ?_
      rintro e w6 ⟨v6, rfl, hown6, hb6⟩
      rw [flat_ins (enc := encTok) lenTok, ← HLe.out] at hown6
      obtain ⟨A6, c6, rfl, _, _⟩ := (Row.of_own hown6).open_
      exact ⟨A6, c6, rfl, hown6, hb6⟩)
    rw [hLL]
    clear HPL hLe
    rcases hi2 with ⟨h2, _⟩ | ⟨j, hj, h2, -, -⟩
    · have hspv : sp = n := by rw [hsp, HSP.out, h2, if_pos (by decide), hl]
      subst hspv
      clear hsp HSP hLL
      go_enter Tryz.func84, Tryz.ntmps84
      go_wp2_with fail
      rw [show (w.alloc (.cells #[.int .u64 x.key, .int .u64 x.inst, .int .u64 x.scope, .int .i64 x.node, .int .i64 x.flow, .string x.stuck] 42)).alloc (.cells #[.func (.func 85) #[] #[]] 118) = N from HN.out.symm]
      go_wp2_with (go_at_call 24; refine HCL.out.mono ?_; rintro e w1 ⟨A1, c1, rfl, hown, hb⟩; have HO1 := Lib.hid hown; have HB1 := Lib.hid hb; obtain ⟨_, _, _, hnc1, hcm1⟩ := (Row.of_own hown).open_; clear hown hb)
      refine (idx_Tok _ _ _ 141 _ l _ N _ _ E1.out HL.out (Row.of_own HO1.out) HB1.out HP1.out).mono ?_
      rintro e w2 ⟨rfl, hb⟩
      rw [h1]
      have HB2 := Lib.hid (below2 HB1.out hb)
      have HO2 := Lib.hid (own_mut HO1.out (Mut.of_below hb (fun _ => False)) (fun _ _ h => h))
      clear hb
      go_wp2_with fail
      refine (idx_Tok _ _ _ 142 _ l _ N _ _ E2.out HL.out (Row.of_own HO2.out) HB2.out HP2.out).mono ?_
      rintro e w3 ⟨rfl, hb⟩
      rw [h2]
      have HB3 := Lib.hid (below2 HB2.out hb)
      have HO3 := Lib.hid (own_mut HO2.out (Mut.of_below hb (fun _ => False)) (fun _ _ h => h))
      have hk3 := block_below HB3.out HK.out
      have k0 := cell_of_blk hk3 0; have k1 := cell_of_blk hk3 1; have k2 := cell_of_blk hk3 2; have k3 := cell_of_blk hk3 3; have k4 := cell_of_blk hk3 4; have k5 := cell_of_blk hk3 5
      clear hb hk3
      go_wp2_with (go_at_call 143; refine (HINS.out _ _ _ HO3.out HB3.out).mono ?_; rintro e w4 ⟨A4, c4, rfl, hown, hb⟩; have HO4 := Lib.hid hown; have HB4 := Lib.hid hb; clear hown hb)
      go_ret
      exact ⟨A4, c4, rfl, HO4.out, HB4.out⟩
    · have hspv : sp = j := by rw [hsp, HSP.out, h2, if_neg (by omega)]; simp
      subst hspv
      have hj0 : ¬ ((sp : Int) < 0) := by omega
      clear hsp HSP hLL
      go_enter Tryz.func84, Tryz.ntmps84
      go_wp2_with fail
      rw [show (w.alloc (.cells #[.int .u64 x.key, .int .u64 x.inst, .int .u64 x.scope, .int .i64 x.node, .int .i64 x.flow, .string x.stuck] 42)).alloc (.cells #[.func (.func 85) #[] #[]] 118) = N from HN.out.symm]
      go_wp2_with (go_at_call 24; refine HCL.out.mono ?_; rintro e w1 ⟨A1, c1, rfl, hown, hb⟩; have HO1 := Lib.hid hown; have HB1 := Lib.hid hb; obtain ⟨_, _, _, hnc1, hcm1⟩ := (Row.of_own hown).open_; clear hown hb)
      refine (idx_Tok _ _ _ 141 _ l _ N _ _ E1.out HL.out (Row.of_own HO1.out) HB1.out HP1.out).mono ?_
      rintro e w2 ⟨rfl, hb⟩
      rw [h1]
      have HB2 := Lib.hid (below2 HB1.out hb)
      have HO2 := Lib.hid (own_mut HO1.out (Mut.of_below hb (fun _ => False)) (fun _ _ h => h))
      clear hb
      go_wp2_with fail
      refine (idx_Tok _ _ _ 142 _ l _ N _ _ E2.out HL.out (Row.of_own HO2.out) HB2.out HP2.out).mono ?_
      rintro e w3 ⟨rfl, hb⟩
      rw [h2]
      have HB3 := Lib.hid (below2 HB2.out hb)
      have HO3 := Lib.hid (own_mut HO2.out (Mut.of_below hb (fun _ => False)) (fun _ _ h => h))
      have hk3 := block_below HB3.out HK.out
      have k0 := cell_of_blk hk3 0; have k1 := cell_of_blk hk3 1; have k2 := cell_of_blk hk3 2; have k3 := cell_of_blk hk3 3; have k4 := cell_of_blk hk3 4; have k5 := cell_of_blk hk3 5
      clear hb hk3
      go_wp2_with (go_at_call 143; refine (HINS.out _ _ _ HO3.out HB3.out).mono ?_; rintro e w4 ⟨A4, c4, rfl, hown, hb⟩; have HO4 := Lib.hid hown; have HB4 := Lib.hid hb; clear hown hb)
      go_ret
      exact ⟨A4, c4, rfl, HO4.out, HB4.out⟩
  · -- one that is there
    have hLe : Hid (L = l.set j x) := Lib.hid (by rw [HPL.out, h1, if_pos (by omega)]; simp)
    have hLL : L.length = n := by rw [hLe.out, List.length_set, hl]
    have hjn : j < n := by omega
    have hj0 : (0 : Int) ≤ (j : Int) := by omega
    have HFS := Lib.hid (flat_splice (enc := encTok) lenTok hj x)
    have HVL : Hid ((l.flatMap encTok).length = n * 6) := Lib.hid (by rw [flat_len (enc := encTok) lenTok, hl])
    rw [hLL]
    clear HPL hi2 HSP hj HP2
    go_enter Tryz.func84, Tryz.ntmps84
    go_wp2_with fail
    rw [show (w.alloc (.cells #[.int .u64 x.key, .int .u64 x.inst, .int .u64 x.scope, .int .i64 x.node, .int .i64 x.flow, .string x.stuck] 42)).alloc (.cells #[.func (.func 85) #[] #[]] 118) = N from HN.out.symm]
    go_wp2_with (go_at_call 24; refine HCL.out.mono ?_; rintro e w1 ⟨A1, c1, rfl, hown, hb⟩; have HO1 := Lib.hid hown; have HB1 := Lib.hid hb; obtain ⟨_, _, _, hnc1, hcm1⟩ := (Row.of_own hown).open_; clear hown hb)
    refine (idx_Tok _ _ _ 141 _ l _ N _ _ E1.out HL.out (Row.of_own HO1.out) HB1.out HP1.out).mono ?_
    rintro e w2 ⟨rfl, hb⟩
    rw [h1]
    have HB2 := Lib.hid (below2 HB1.out hb)
    have HO2 := Lib.hid (own_mut HO1.out (Mut.of_below hb (fun _ => False)) (fun _ _ h => h))
    have hk3 := block_below HB2.out HK.out
    have k0 := cell_of_blk hk3 0; have k1 := cell_of_blk hk3 1; have k2 := cell_of_blk hk3 2; have k3 := cell_of_blk hk3 3; have k4 := cell_of_blk hk3 4; have k5 := cell_of_blk hk3 5
    clear hb hk3
    obtain ⟨g, cap, cur, hv, hbg, hhg, hnc5, hcm5, hcs5, htk5⟩ := own_some HO2.out (by omega)
    injection hv with hv1 hv2 hv3
    subst hv1 hv3
    obtain ⟨u0, hu0⟩ : ∃ u, cur[j * 6]? = some u := ⟨_, Array.getElem?_eq_getElem (by omega)⟩; have j0 := (cell_of_blk hhg (j * 6)).trans hu0; have f0 := frozen_of_blk hhg (j * 6); clear hu0; obtain ⟨u1, hu1⟩ : ∃ u, cur[j * 6 + 1]? = some u := ⟨_, Array.getElem?_eq_getElem (by omega)⟩; have j1 := (cell_of_blk hhg (j * 6 + 1)).trans hu1; have f1 := frozen_of_blk hhg (j * 6 + 1); clear hu1; obtain ⟨u2, hu2⟩ : ∃ u, cur[j * 6 + 2]? = some u := ⟨_, Array.getElem?_eq_getElem (by omega)⟩; have j2 := (cell_of_blk hhg (j * 6 + 2)).trans hu2; have f2 := frozen_of_blk hhg (j * 6 + 2); clear hu2; obtain ⟨u3, hu3⟩ : ∃ u, cur[j * 6 + 3]? = some u := ⟨_, Array.getElem?_eq_getElem (by omega)⟩; have j3 := (cell_of_blk hhg (j * 6 + 3)).trans hu3; have f3 := frozen_of_blk hhg (j * 6 + 3); clear hu3; obtain ⟨u4, hu4⟩ : ∃ u, cur[j * 6 + 4]? = some u := ⟨_, Array.getElem?_eq_getElem (by omega)⟩; have j4 := (cell_of_blk hhg (j * 6 + 4)).trans hu4; have f4 := frozen_of_blk hhg (j * 6 + 4); clear hu4; obtain ⟨u5, hu5⟩ : ∃ u, cur[j * 6 + 5]? = some u := ⟨_, Array.getElem?_eq_getElem (by omega)⟩; have j5 := (cell_of_blk hhg (j * 6 + 5)).trans hu5; have f5 := frozen_of_blk hhg (j * 6 + 5); clear hu5
    have HG := Lib.hid hhg
    have HTK := Lib.hid htk5
    have HCS := Lib.hid hcs5
    have HBG := Lib.hid hbg
    have HCM := Lib.hid hcm5
    clear hhg htk5 hcs5 hbg hcm5
    go_wp2_with fail
    go_ret
    have hg2 := set_blk (o := j * 6 + 5) (set_blk (o := j * 6 + 4) (set_blk (o := j * 6 + 3) (set_blk (o := j * 6 + 2) (set_blk (o := j * 6 + 1) (set_blk (o := j * 6) (HG.out) (.int .u64 x.key)) (.int .u64 x.inst)) (.int .u64 x.scope)) (.int .i64 x.node)) (.int .i64 x.flow)) (.string x.stuck)
    have hbg := HBG.out
    have hNs := HSZ.out
    refine ⟨_, _, rfl, ?_, ?_⟩
    · refine ⟨by rw [flat_len (enc := encTok) lenTok, hLL], .inr ⟨g, _, _, rfl, by omega, hg2, hnc5, HCM.out, by simp only [Array.size_setIfInBounds]; have := HCS.out; omega, ?_⟩⟩
      rw [hLe.out, ← HFS.out, ← setAll_splice _ _ _ (by rw [HVL.out, lenTok]; omega), ← HTK.out]
      simp only [Array.toList_setIfInBounds, List.take_set]
      rfl
    · exact (((((((below2 HB.out HB2.out)).setCell (p := ⟨g, j * 6, none⟩) (by show _ ≤ g; omega) _).setCell (p := ⟨g, j * 6 + 1, none⟩) (by show _ ≤ g; omega) _).setCell (p := ⟨g, j * 6 + 2, none⟩) (by show _ ≤ g; omega) _).setCell (p := ⟨g, j * 6 + 3, none⟩) (by show _ ≤ g; omega) _).setCell (p := ⟨g, j * 6 + 4, none⟩) (by show _ ≤ g; omega) _).setCell (p := ⟨g, j * 6 + 5, none⟩) (by show _ ≤ g; omega) _
end Go.Proofs.YtgpkmellpllmgaaGreat
