/-
  Merged from Fe_stuck, Fe_more, FdTim, FoG, Fgp, Fe_gone, Fe_left.
-/
import Derived.Test.YtfjdllpacdobdaaGreatQ26e81a7cd2f4
import Derived.Test.YtfjdllpacdobdaaGreatQ336bc39176a5
import Derived.Test.YtfjdllpacdobdaaGreatQb636f8f7ec5f
import Derived.Maps.OwnOps
import Derived.Maps.OwnSet
import Derived.Maps.Views
import Derived.Laws.EntriesVeiled
/-
  The events that make a token stuck, or not. Printed by gfold2.py.
-/
set_option linter.unusedVariables false
set_option linter.unusedSimpArgs false
namespace Go.Proofs.YtfjdllpacdobdaaGreat
open Go Go.RowKit Go.Proofs.Base
open Go.Sort (grow)
set_option maxRecDepth 100000 in
set_option maxHeartbeats 4000000 in
theorem ev_stick (Pp Dd Mm : Int) (A3 : Option Addr) (n3 c3 : Nat) (A4 : Option Addr) (n4 c4 : Nat) (A5 : Option Addr) (n5 c5 : Nat) (A6 : Option Addr) (n6 c6 : Nat) (A7 : Option Addr) (n7 c7 : Nat) (A8 : Option Addr) (n8 c8 : Nat) (A9 : Option Addr) (n9 c9 : Nat) (A10 : Option Addr) (n10 c10 : Nat) (A11 : Option Addr) (n11 c11 : Nat) (q : Int) (why : ByteArray) (l : List ETok) (w : World) (S : Nat → Prop) (hl : l.length = n5) (hby : n5 * 56 ≤ 140737488355328) (hr : Row w S 6 n5 (.slice A5 n5 c5) (l.flatMap encTok)) :
    Calls Tryz.prog 101 #[.agg #[.int .u64 Pp, .int .u64 Dd, .int .u64 Mm, .slice A3 n3 c3, .slice A4 n4 c4, .slice A5 n5 c5, .slice A6 n6 c6, .slice A7 n7 c7, .slice A8 n8 c8, .slice A9 n9 c9, .slice A10 n10 c10, .slice A11 n11 c11], .int .u64 q, .string why] w fun e w' => ∃ A' c', n5 ≤ c' ∧ c' ≤ 9223372036854775807 ∧ e = .returned (.agg #[.int .u64 Pp, .int .u64 Dd, .int .u64 Mm, .slice A3 n3 c3, .slice A4 n4 c4, .slice A' n5 c', .slice A6 n6 c6, .slice A7 n7 c7, .slice A8 n8 c8, .slice A9 n9 c9, .slice A10 n10 c10, .slice A11 n11 c11]) ∧ Row w' (fun b => S b ∨ w.heap.size ≤ b) 6 n5 (.slice A' n5 c') ((changeL (fun x : ETok => x.key == q) (fun x => { x with stuck := why }) l).flatMap encTok) ∧ Below w.heap.size w w' := by
  obtain ⟨N, hN⟩ : ∃ N, N = (((w.alloc (.cells #[.int .u64 Pp, .int .u64 Dd, .int .u64 Mm, .slice A3 n3 c3, .slice A4 n4 c4, .slice A5 n5 c5, .slice A6 n6 c6, .slice A7 n7 c7, .slice A8 n8 c8, .slice A9 n9 c9, .slice A10 n10 c10, .slice A11 n11 c11] 33)).alloc (.cells #[.int .u64 q] 22)).alloc (.cells #[.string why] 9)).alloc (.cells #[.int .u64 0, .int .u64 0, .int .u64 0, .slice none 0 0, .slice none 0 0, .slice none 0 0, .slice none 0 0, .slice none 0 0, .slice none 0 0, .slice none 0 0, .slice none 0 0, .slice none 0 0] 33) := ⟨_, rfl⟩
  have b0 : N.heap[w.heap.size]? = some (.cells #[.int .u64 Pp, .int .u64 Dd, .int .u64 Mm, .slice A3 n3 c3, .slice A4 n4 c4, .slice A5 n5 c5, .slice A6 n6 c6, .slice A7 n7 c7, .slice A8 n8 c8, .slice A9 n9 c9, .slice A10 n10 c10, .slice A11 n11 c11] 33 (0, 0)) := by rw [hN]; exact blk_alloc (blk_alloc (blk_alloc (blk_new _) _) _) _
  have b1 : N.heap[w.heap.size + 1]? = some (.cells #[.int .u64 q] 22 (0, 0)) := by rw [hN]; exact blk_alloc (blk_alloc (blk_new_of _ (by simp)) _) _
  have b3 : N.heap[w.heap.size + 1 + 1]? = some (.cells #[.string why] 9 (0, 0)) := by rw [hN]; exact blk_alloc (blk_new_of _ (by simp)) _
  have b2 : N.heap[w.heap.size + 1 + 1 + 1]? = some (.cells #[.int .u64 0, .int .u64 0, .int .u64 0, .slice none 0 0, .slice none 0 0, .slice none 0 0, .slice none 0 0, .slice none 0 0, .slice none 0 0, .slice none 0 0, .slice none 0 0, .slice none 0 0] 33 (0, 0)) := by rw [hN]; exact blk_new_of _ (by simp)
  have hB : Below w.heap.size w N := by rw [hN]; exact below_alloc (below_alloc (below_alloc (below_alloc (Below.refl _ _) _) _) _) _
  have hsz : N.heap.size = w.heap.size + 4 := by rw [hN]; simp
  have HN := Lib.hid hN
  have HB := Lib.hid hB
  have HSZ := Lib.hid hsz
  have K0 := Lib.hid b0
  have K2 := Lib.hid b2
  have eg : ∀ args w, (callFunc 163 args).run Tryz.prog w = .ok (.enter 163 args) w := enters_of Tryz.func163 (by kernel_rfl) rfl
  have eg2 : ∀ args w, (callFunc 164 args).run Tryz.prog w = .ok (.enter 164 args) w := enters_of Tryz.func164 (by kernel_rfl) rfl
  have HCH := Lib.hid (change_Tok A5 n5 c5 163 164 #[.pointer (some ⟨w.heap.size + 1, 0, none⟩)] #[.pointer (some ⟨w.heap.size + 1 + 1, 0, none⟩)] l (fun x : ETok => x.key == q) (fun _ x y => y = { x with stuck := why }) N (fun b => S b ∧ b < w.heap.size) eg eg2 hl hby ((hr.weaken (S' := fun b => S b ∧ b < w.heap.size) (fun b hb h => ⟨h, hb⟩)).below hB)
    (fun V hV x _ => p_stick_1 _ x q V (cell_of_blk (block_below hV b1) 0))
    (fun V b cur i hi hV hwb hg ht hs => (c_stick_2 b i n5 cur l (w.heap.size + 1 + 1) why (by omega) V (cell_of_blk (block_below hV b3) 0) hi hl hg ht hs).mono (fun e w' ⟨he, cur', h1, h2, h3, hm⟩ => ⟨he, _, cur', rfl, h1, h2, h3, below_mut hV hm (fun b' hb' => hb' ▸ hwb)⟩)))
  clear hN hB hsz b0 b1 b2 b3 hr hl eg eg2
  have k0 := K0.out
  go_enter Tryz.func101, Tryz.ntmps101
  go_wp2_with fail
  rw [show (((w.alloc (.cells #[.int .u64 Pp, .int .u64 Dd, .int .u64 Mm, .slice A3 n3 c3, .slice A4 n4 c4, .slice A5 n5 c5, .slice A6 n6 c6, .slice A7 n7 c7, .slice A8 n8 c8, .slice A9 n9 c9, .slice A10 n10 c10, .slice A11 n11 c11] 33)).alloc (.cells #[.int .u64 q] 22)).alloc (.cells #[.string why] 9)).alloc (.cells #[.int .u64 0, .int .u64 0, .int .u64 0, .slice none 0 0, .slice none 0 0, .slice none 0 0, .slice none 0 0, .slice none 0 0, .slice none 0 0, .slice none 0 0, .slice none 0 0, .slice none 0 0] 33) = N from HN.out.symm]
  have s0 := cell_of_blk k0 0
  have s1 := cell_of_blk k0 1
  have s2 := cell_of_blk k0 2
  have s3 := cell_of_blk k0 3
  have s4 := cell_of_blk k0 4
  have s5 := cell_of_blk k0 5
  have s6 := cell_of_blk k0 6
  have s7 := cell_of_blk k0 7
  have s8 := cell_of_blk k0 8
  have s9 := cell_of_blk k0 9
  have s10 := cell_of_blk k0 10
  have s11 := cell_of_blk k0 11
  clear k0
  go_wp2_with fail
  refine HCH.out.mono ?_
  rintro e w2 ⟨A', c', l', rfl, hrow, hll, hrel, hb⟩
  have HR2 := Lib.hid hrow
  have HRel := Lib.hid hrel
  have HWB := Lib.hid (below2 HB.out hb)
  have k0 := block_below hb K0.out
  have k2 := block_below hb K2.out
  obtain ⟨Ab, cb, heb, hncb, hcmb⟩ := hrow.open_
  injection heb with eb1 _ eb3
  subst eb1 eb3
  clear hrow hll hrel hb s0 s1 s2 s3 s4 s5 s6 s7 s8 s9 s10 s11
  have s0 := cell_of_blk k0 0
  have s1 := cell_of_blk k0 1
  have s2 := cell_of_blk k0 2
  have s3 := cell_of_blk k0 3
  have s4 := cell_of_blk k0 4
  have s5 := cell_of_blk k0 5
  have s6 := cell_of_blk k0 6
  have s7 := cell_of_blk k0 7
  have s8 := cell_of_blk k0 8
  have s9 := cell_of_blk k0 9
  have s10 := cell_of_blk k0 10
  have s11 := cell_of_blk k0 11
  have f0 := frozen_of_blk k0 0
  have f1 := frozen_of_blk k0 1
  have f2 := frozen_of_blk k0 2
  have f3 := frozen_of_blk k0 3
  have f4 := frozen_of_blk k0 4
  have f5 := frozen_of_blk k0 5
  have f6 := frozen_of_blk k0 6
  have f7 := frozen_of_blk k0 7
  have f8 := frozen_of_blk k0 8
  have f9 := frozen_of_blk k0 9
  have f10 := frozen_of_blk k0 10
  have f11 := frozen_of_blk k0 11
  have z0 := cell_of_blk k2 0
  have z1 := cell_of_blk k2 1
  have z2 := cell_of_blk k2 2
  have z3 := cell_of_blk k2 3
  have z4 := cell_of_blk k2 4
  have z5 := cell_of_blk k2 5
  have z6 := cell_of_blk k2 6
  have z7 := cell_of_blk k2 7
  have z8 := cell_of_blk k2 8
  have z9 := cell_of_blk k2 9
  have z10 := cell_of_blk k2 10
  have z11 := cell_of_blk k2 11
  have g0 := frozen_of_blk k2 0
  have g1 := frozen_of_blk k2 1
  have g2 := frozen_of_blk k2 2
  have g3 := frozen_of_blk k2 3
  have g4 := frozen_of_blk k2 4
  have g5 := frozen_of_blk k2 5
  have g6 := frozen_of_blk k2 6
  have g7 := frozen_of_blk k2 7
  have g8 := frozen_of_blk k2 8
  have g9 := frozen_of_blk k2 9
  have g10 := frozen_of_blk k2 10
  have g11 := frozen_of_blk k2 11
  have KZ := Lib.hid k2
  have KS := Lib.hid k0
  clear k0 k2
  go_wp2_with fail
  generalize hWE : World.setCell (World.setCell (World.setCell (World.setCell (World.setCell (World.setCell (World.setCell (World.setCell (World.setCell (World.setCell (World.setCell (World.setCell (World.setCell (_) _ _) _ _) _ _) _ _) _ _) _ _) _ _) _ _) _ _) _ _) _ _) _ _) _ _ = WE
  have ho : WE.heap[w.heap.size + 1 + 1 + 1]? = some (.cells #[.int .u64 Pp, .int .u64 Dd, .int .u64 Mm, .slice A3 n3 c3, .slice A4 n4 c4, .slice A' n5 c', .slice A6 n6 c6, .slice A7 n7 c7, .slice A8 n8 c8, .slice A9 n9 c9, .slice A10 n10 c10, .slice A11 n11 c11] 33 (0, 0)) := by rw [← hWE]; exact set_blk12 (blk_set_other (b := w.heap.size) (o := 5) (KZ.out) (by omega)) (.int .u64 Pp) (.int .u64 Dd) (.int .u64 Mm) (.slice A3 n3 c3) (.slice A4 n4 c4) (.slice A' n5 c') (.slice A6 n6 c6) (.slice A7 n7 c7) (.slice A8 n8 c8) (.slice A9 n9 c9) (.slice A10 n10 c10) (.slice A11 n11 c11)
  have hbe : Below w.heap.size w WE := by rw [← hWE]; exact (((((((((((((HWB.out).setCell (p := ⟨w.heap.size, 5, none⟩) (Nat.le_refl _) _).setCell (p := ⟨w.heap.size + 1 + 1 + 1, 0, none⟩) (by show _ ≤ _ + 1 + 1 + 1; omega) _).setCell (p := ⟨w.heap.size + 1 + 1 + 1, 1, none⟩) (by show _ ≤ _ + 1 + 1 + 1; omega) _).setCell (p := ⟨w.heap.size + 1 + 1 + 1, 2, none⟩) (by show _ ≤ _ + 1 + 1 + 1; omega) _).setCell (p := ⟨w.heap.size + 1 + 1 + 1, 3, none⟩) (by show _ ≤ _ + 1 + 1 + 1; omega) _).setCell (p := ⟨w.heap.size + 1 + 1 + 1, 4, none⟩) (by show _ ≤ _ + 1 + 1 + 1; omega) _).setCell (p := ⟨w.heap.size + 1 + 1 + 1, 5, none⟩) (by show _ ≤ _ + 1 + 1 + 1; omega) _).setCell (p := ⟨w.heap.size + 1 + 1 + 1, 6, none⟩) (by show _ ≤ _ + 1 + 1 + 1; omega) _).setCell (p := ⟨w.heap.size + 1 + 1 + 1, 7, none⟩) (by show _ ≤ _ + 1 + 1 + 1; omega) _).setCell (p := ⟨w.heap.size + 1 + 1 + 1, 8, none⟩) (by show _ ≤ _ + 1 + 1 + 1; omega) _).setCell (p := ⟨w.heap.size + 1 + 1 + 1, 9, none⟩) (by show _ ≤ _ + 1 + 1 + 1; omega) _).setCell (p := ⟨w.heap.size + 1 + 1 + 1, 10, none⟩) (by show _ ≤ _ + 1 + 1 + 1; omega) _).setCell (p := ⟨w.heap.size + 1 + 1 + 1, 11, none⟩) (by show _ ≤ _ + 1 + 1 + 1; omega) _
  have hmu : Mut (fun b => b = w.heap.size ∨ b = w.heap.size + 1 + 1 + 1) w2 WE := by
    rw [← hWE]
    exact Mut.setCell (T := fun b => b = w.heap.size ∨ b = w.heap.size + 1 + 1 + 1) (Mut.setCell (T := fun b => b = w.heap.size ∨ b = w.heap.size + 1 + 1 + 1) (Mut.setCell (T := fun b => b = w.heap.size ∨ b = w.heap.size + 1 + 1 + 1) (Mut.setCell (T := fun b => b = w.heap.size ∨ b = w.heap.size + 1 + 1 + 1) (Mut.setCell (T := fun b => b = w.heap.size ∨ b = w.heap.size + 1 + 1 + 1) (Mut.setCell (T := fun b => b = w.heap.size ∨ b = w.heap.size + 1 + 1 + 1) (Mut.setCell (T := fun b => b = w.heap.size ∨ b = w.heap.size + 1 + 1 + 1) (Mut.setCell (T := fun b => b = w.heap.size ∨ b = w.heap.size + 1 + 1 + 1) (Mut.setCell (T := fun b => b = w.heap.size ∨ b = w.heap.size + 1 + 1 + 1) (Mut.setCell (T := fun b => b = w.heap.size ∨ b = w.heap.size + 1 + 1 + 1) (Mut.setCell (T := fun b => b = w.heap.size ∨ b = w.heap.size + 1 + 1 + 1) (Mut.setCell (T := fun b => b = w.heap.size ∨ b = w.heap.size + 1 + 1 + 1) (Mut.setCell (T := fun b => b = w.heap.size ∨ b = w.heap.size + 1 + 1 + 1) (Mut.refl _ _) (p := ⟨w.heap.size, 5, none⟩) (fun _ => .inl rfl) _) (p := ⟨w.heap.size + 1 + 1 + 1, 0, none⟩) (fun _ => .inr rfl) _) (p := ⟨w.heap.size + 1 + 1 + 1, 1, none⟩) (fun _ => .inr rfl) _) (p := ⟨w.heap.size + 1 + 1 + 1, 2, none⟩) (fun _ => .inr rfl) _) (p := ⟨w.heap.size + 1 + 1 + 1, 3, none⟩) (fun _ => .inr rfl) _) (p := ⟨w.heap.size + 1 + 1 + 1, 4, none⟩) (fun _ => .inr rfl) _) (p := ⟨w.heap.size + 1 + 1 + 1, 5, none⟩) (fun _ => .inr rfl) _) (p := ⟨w.heap.size + 1 + 1 + 1, 6, none⟩) (fun _ => .inr rfl) _) (p := ⟨w.heap.size + 1 + 1 + 1, 7, none⟩) (fun _ => .inr rfl) _) (p := ⟨w.heap.size + 1 + 1 + 1, 8, none⟩) (fun _ => .inr rfl) _) (p := ⟨w.heap.size + 1 + 1 + 1, 9, none⟩) (fun _ => .inr rfl) _) (p := ⟨w.heap.size + 1 + 1 + 1, 10, none⟩) (fun _ => .inr rfl) _) (p := ⟨w.heap.size + 1 + 1 + 1, 11, none⟩) (fun _ => .inr rfl) _
  have r0 := cell_of_blk ho 0
  have r1 := cell_of_blk ho 1
  have r2 := cell_of_blk ho 2
  have r3 := cell_of_blk ho 3
  have r4 := cell_of_blk ho 4
  have r5 := cell_of_blk ho 5
  have r6 := cell_of_blk ho 6
  have r7 := cell_of_blk ho 7
  have r8 := cell_of_blk ho 8
  have r9 := cell_of_blk ho 9
  have r10 := cell_of_blk ho 10
  have r11 := cell_of_blk ho 11
  have hov : Row WE (fun b => S b ∨ w.heap.size ≤ b) 6 n5 (.slice A' n5 c') ((changeL (fun x : ETok => x.key == q) (fun x => { x with stuck := why }) l).flatMap encTok) := by
    rw [← changeL_of (p := fun x : ETok => x.key == q) (f := fun x => { x with stuck := why }) HRel.out]
    have hNs := HSZ.out
    exact (HR2.out.mut hmu (fun b _ hb h => by omega)).weaken (fun b _ h => h.elim (fun h => .inl h.1) (fun h => .inr (by omega)))
  refine bodyPost_ret (v := .agg #[.int .u64 Pp, .int .u64 Dd, .int .u64 Mm, .slice A3 n3 c3, .slice A4 n4 c4, .slice A' n5 c', .slice A6 n6 c6, .slice A7 n7 c7, .slice A8 n8 c8, .slice A9 n9 c9, .slice A10 n10 c10, .slice A11 n11 c11]) (by simp [results, Tryz.results101, go_sem, r0, r1, r2, r3, r4, r5, r6, r7, r8, r9, r10, r11]) rfl ⟨A', c', hncb, hcmb, rfl, hov, hbe⟩
set_option maxRecDepth 100000 in
set_option maxHeartbeats 4000000 in
theorem ev_stuck (Pp Dd Mm : Int) (A3 : Option Addr) (n3 c3 : Nat) (A4 : Option Addr) (n4 c4 : Nat) (A5 : Option Addr) (n5 c5 : Nat) (A6 : Option Addr) (n6 c6 : Nat) (A7 : Option Addr) (n7 c7 : Nat) (A8 : Option Addr) (n8 c8 : Nat) (A9 : Option Addr) (n9 c9 : Nat) (A10 : Option Addr) (n10 c10 : Nat) (A11 : Option Addr) (n11 c11 : Nat) (r : GRec) (vA : Option Addr) (vN vC : Nat) (l : List ETok) (w : World) (S : Nat → Prop) (hl : l.length = n5) (hby : n5 * 56 ≤ 140737488355328) (hr : Row w S 6 n5 (.slice A5 n5 c5) (l.flatMap encTok)) :
    Calls Tryz.prog 62 #[.agg #[.int .u64 Pp, .int .u64 Dd, .int .u64 Mm, .slice A3 n3 c3, .slice A4 n4 c4, .slice A5 n5 c5, .slice A6 n6 c6, .slice A7 n7 c7, .slice A8 n8 c8, .slice A9 n9 c9, .slice A10 n10 c10, .slice A11 n11 c11], .agg #[.int .i64 r.cls, .int .i64 r.kind, .int .u64 r.frm, .int .i64 r.time, .int .u64 r.key, .int .u64 r.key2, .int .u64 r.key3, .int .i64 r.n, .int .i64 r.m, .string r.a, .string r.b, .string r.c, .slice vA vN vC]] w fun e w' => ∃ A' c', e = .returned (.agg #[.int .u64 Pp, .int .u64 Dd, .int .u64 Mm, .slice A3 n3 c3, .slice A4 n4 c4, .slice A' n5 c', .slice A6 n6 c6, .slice A7 n7 c7, .slice A8 n8 c8, .slice A9 n9 c9, .slice A10 n10 c10, .slice A11 n11 c11]) ∧ Row w' (fun b => S b ∨ w.heap.size ≤ b) 6 n5 (.slice A' n5 c') ((changeL (fun x : ETok => x.key == r.key) (fun x => { x with stuck := r.a }) l).flatMap encTok) ∧ Below w.heap.size w w' := by
  obtain ⟨N, hN⟩ : ∃ N, N = ((w.alloc (.cells #[.int .u64 Pp, .int .u64 Dd, .int .u64 Mm, .slice A3 n3 c3, .slice A4 n4 c4, .slice A5 n5 c5, .slice A6 n6 c6, .slice A7 n7 c7, .slice A8 n8 c8, .slice A9 n9 c9, .slice A10 n10 c10, .slice A11 n11 c11] 33)).alloc (.cells #[.int .i64 r.cls, .int .i64 r.kind, .int .u64 r.frm, .int .i64 r.time, .int .u64 r.key, .int .u64 r.key2, .int .u64 r.key3, .int .i64 r.n, .int .i64 r.m, .string r.a, .string r.b, .string r.c, .slice vA vN vC] 71)).alloc (.cells #[.int .u64 0, .int .u64 0, .int .u64 0, .slice none 0 0, .slice none 0 0, .slice none 0 0, .slice none 0 0, .slice none 0 0, .slice none 0 0, .slice none 0 0, .slice none 0 0, .slice none 0 0] 33) := ⟨_, rfl⟩
  have b0 : N.heap[w.heap.size]? = some (.cells #[.int .u64 Pp, .int .u64 Dd, .int .u64 Mm, .slice A3 n3 c3, .slice A4 n4 c4, .slice A5 n5 c5, .slice A6 n6 c6, .slice A7 n7 c7, .slice A8 n8 c8, .slice A9 n9 c9, .slice A10 n10 c10, .slice A11 n11 c11] 33 (0, 0)) := by rw [hN]; exact blk_alloc (blk_alloc (blk_new _) _) _
  have b1 : recB N (w.heap.size + 1) r vA vN vC := by rw [hN]; exact blk_alloc (blk_new_of _ (by simp)) _
  have b2 : N.heap[w.heap.size + 1 + 1]? = some (.cells #[.int .u64 0, .int .u64 0, .int .u64 0, .slice none 0 0, .slice none 0 0, .slice none 0 0, .slice none 0 0, .slice none 0 0, .slice none 0 0, .slice none 0 0, .slice none 0 0, .slice none 0 0] 33 (0, 0)) := by rw [hN]; exact blk_new_of _ (by simp)
  have hB : Below w.heap.size w N := by rw [hN]; exact below_alloc (below_alloc (below_alloc (Below.refl _ _) _) _) _
  have hsz : N.heap.size = w.heap.size + 3 := by rw [hN]; simp
  have HN := Lib.hid hN
  have HB := Lib.hid hB
  have HSZ := Lib.hid hsz
  have K0 := Lib.hid b0
  have K1 := Lib.hid b1
  have K2 := Lib.hid b2
  have HST := Lib.hid (ev_stick Pp Dd Mm A3 n3 c3 A4 n4 c4 A5 n5 c5 A6 n6 c6 A7 n7 c7 A8 n8 c8 A9 n9 c9 A10 n10 c10 A11 n11 c11 r.key (r.a) l N (fun b => S b ∧ b < w.heap.size) hl hby ((hr.weaken (S' := fun b => S b ∧ b < w.heap.size) (fun b hb h => ⟨h, hb⟩)).below hB))
  clear hN hB hsz b0 b1 b2 hr hl
  have k0 := K0.out
  have k1 := K1.out
  go_enter Tryz.func62, Tryz.ntmps62
  go_wp2_with fail
  rw [show ((w.alloc (.cells #[.int .u64 Pp, .int .u64 Dd, .int .u64 Mm, .slice A3 n3 c3, .slice A4 n4 c4, .slice A5 n5 c5, .slice A6 n6 c6, .slice A7 n7 c7, .slice A8 n8 c8, .slice A9 n9 c9, .slice A10 n10 c10, .slice A11 n11 c11] 33)).alloc (.cells #[.int .i64 r.cls, .int .i64 r.kind, .int .u64 r.frm, .int .i64 r.time, .int .u64 r.key, .int .u64 r.key2, .int .u64 r.key3, .int .i64 r.n, .int .i64 r.m, .string r.a, .string r.b, .string r.c, .slice vA vN vC] 71)).alloc (.cells #[.int .u64 0, .int .u64 0, .int .u64 0, .slice none 0 0, .slice none 0 0, .slice none 0 0, .slice none 0 0, .slice none 0 0, .slice none 0 0, .slice none 0 0, .slice none 0 0, .slice none 0 0] 33) = N from HN.out.symm]
  have s0 := cell_of_blk k0 0
  have s1 := cell_of_blk k0 1
  have s2 := cell_of_blk k0 2
  have s3 := cell_of_blk k0 3
  have s4 := cell_of_blk k0 4
  have s5 := cell_of_blk k0 5
  have s6 := cell_of_blk k0 6
  have s7 := cell_of_blk k0 7
  have s8 := cell_of_blk k0 8
  have s9 := cell_of_blk k0 9
  have s10 := cell_of_blk k0 10
  have s11 := cell_of_blk k0 11
  have q0 := cell_of_blk k1 0
  have q1 := cell_of_blk k1 1
  have q2 := cell_of_blk k1 2
  have q3 := cell_of_blk k1 3
  have q4 := cell_of_blk k1 4
  have q5 := cell_of_blk k1 5
  have q6 := cell_of_blk k1 6
  have q7 := cell_of_blk k1 7
  have q8 := cell_of_blk k1 8
  have q9 := cell_of_blk k1 9
  have q10 := cell_of_blk k1 10
  have q11 := cell_of_blk k1 11
  have q12 := cell_of_blk k1 12
  clear k0 k1
  go_wp2_with fail
  refine HST.out.mono ?_
  rintro e w2 ⟨A', c', hncb, hcmb, rfl, hrow, hb⟩
  have HR2 := Lib.hid hrow
  have HWB := Lib.hid (below2 HB.out hb)
  have k2 := block_below hb K2.out
  clear hrow hb s0 s1 s2 s3 s4 s5 s6 s7 s8 s9 s10 s11 q0 q1 q2 q3 q4 q5 q6 q7 q8 q9 q10 q11 q12
  have z0 := cell_of_blk k2 0
  have z1 := cell_of_blk k2 1
  have z2 := cell_of_blk k2 2
  have z3 := cell_of_blk k2 3
  have z4 := cell_of_blk k2 4
  have z5 := cell_of_blk k2 5
  have z6 := cell_of_blk k2 6
  have z7 := cell_of_blk k2 7
  have z8 := cell_of_blk k2 8
  have z9 := cell_of_blk k2 9
  have z10 := cell_of_blk k2 10
  have z11 := cell_of_blk k2 11
  have g0 := frozen_of_blk k2 0
  have g1 := frozen_of_blk k2 1
  have g2 := frozen_of_blk k2 2
  have g3 := frozen_of_blk k2 3
  have g4 := frozen_of_blk k2 4
  have g5 := frozen_of_blk k2 5
  have g6 := frozen_of_blk k2 6
  have g7 := frozen_of_blk k2 7
  have g8 := frozen_of_blk k2 8
  have g9 := frozen_of_blk k2 9
  have g10 := frozen_of_blk k2 10
  have g11 := frozen_of_blk k2 11
  have KZ := Lib.hid k2
  clear k2
  go_wp2_with fail
  generalize hWE : World.setCell (World.setCell (World.setCell (World.setCell (World.setCell (World.setCell (World.setCell (World.setCell (World.setCell (World.setCell (World.setCell (World.setCell (_) _ _) _ _) _ _) _ _) _ _) _ _) _ _) _ _) _ _) _ _) _ _) _ _ = WE
  have ho : WE.heap[w.heap.size + 1 + 1]? = some (.cells #[.int .u64 Pp, .int .u64 Dd, .int .u64 Mm, .slice A3 n3 c3, .slice A4 n4 c4, .slice A' n5 c', .slice A6 n6 c6, .slice A7 n7 c7, .slice A8 n8 c8, .slice A9 n9 c9, .slice A10 n10 c10, .slice A11 n11 c11] 33 (0, 0)) := by rw [← hWE]; exact set_blk12 (KZ.out) (.int .u64 Pp) (.int .u64 Dd) (.int .u64 Mm) (.slice A3 n3 c3) (.slice A4 n4 c4) (.slice A' n5 c') (.slice A6 n6 c6) (.slice A7 n7 c7) (.slice A8 n8 c8) (.slice A9 n9 c9) (.slice A10 n10 c10) (.slice A11 n11 c11)
  have hbe : Below w.heap.size w WE := by rw [← hWE]; exact ((((((((((((HWB.out).setCell (p := ⟨w.heap.size + 1 + 1, 0, none⟩) (by show _ ≤ _ + 1 + 1; omega) _).setCell (p := ⟨w.heap.size + 1 + 1, 1, none⟩) (by show _ ≤ _ + 1 + 1; omega) _).setCell (p := ⟨w.heap.size + 1 + 1, 2, none⟩) (by show _ ≤ _ + 1 + 1; omega) _).setCell (p := ⟨w.heap.size + 1 + 1, 3, none⟩) (by show _ ≤ _ + 1 + 1; omega) _).setCell (p := ⟨w.heap.size + 1 + 1, 4, none⟩) (by show _ ≤ _ + 1 + 1; omega) _).setCell (p := ⟨w.heap.size + 1 + 1, 5, none⟩) (by show _ ≤ _ + 1 + 1; omega) _).setCell (p := ⟨w.heap.size + 1 + 1, 6, none⟩) (by show _ ≤ _ + 1 + 1; omega) _).setCell (p := ⟨w.heap.size + 1 + 1, 7, none⟩) (by show _ ≤ _ + 1 + 1; omega) _).setCell (p := ⟨w.heap.size + 1 + 1, 8, none⟩) (by show _ ≤ _ + 1 + 1; omega) _).setCell (p := ⟨w.heap.size + 1 + 1, 9, none⟩) (by show _ ≤ _ + 1 + 1; omega) _).setCell (p := ⟨w.heap.size + 1 + 1, 10, none⟩) (by show _ ≤ _ + 1 + 1; omega) _).setCell (p := ⟨w.heap.size + 1 + 1, 11, none⟩) (by show _ ≤ _ + 1 + 1; omega) _
  have hmu : Mut (fun b => b = w.heap.size ∨ b = w.heap.size + 1 + 1) w2 WE := by
    rw [← hWE]
    exact Mut.setCell (T := fun b => b = w.heap.size ∨ b = w.heap.size + 1 + 1) (Mut.setCell (T := fun b => b = w.heap.size ∨ b = w.heap.size + 1 + 1) (Mut.setCell (T := fun b => b = w.heap.size ∨ b = w.heap.size + 1 + 1) (Mut.setCell (T := fun b => b = w.heap.size ∨ b = w.heap.size + 1 + 1) (Mut.setCell (T := fun b => b = w.heap.size ∨ b = w.heap.size + 1 + 1) (Mut.setCell (T := fun b => b = w.heap.size ∨ b = w.heap.size + 1 + 1) (Mut.setCell (T := fun b => b = w.heap.size ∨ b = w.heap.size + 1 + 1) (Mut.setCell (T := fun b => b = w.heap.size ∨ b = w.heap.size + 1 + 1) (Mut.setCell (T := fun b => b = w.heap.size ∨ b = w.heap.size + 1 + 1) (Mut.setCell (T := fun b => b = w.heap.size ∨ b = w.heap.size + 1 + 1) (Mut.setCell (T := fun b => b = w.heap.size ∨ b = w.heap.size + 1 + 1) (Mut.setCell (T := fun b => b = w.heap.size ∨ b = w.heap.size + 1 + 1) (Mut.refl _ _) (p := ⟨w.heap.size + 1 + 1, 0, none⟩) (fun _ => .inr rfl) _) (p := ⟨w.heap.size + 1 + 1, 1, none⟩) (fun _ => .inr rfl) _) (p := ⟨w.heap.size + 1 + 1, 2, none⟩) (fun _ => .inr rfl) _) (p := ⟨w.heap.size + 1 + 1, 3, none⟩) (fun _ => .inr rfl) _) (p := ⟨w.heap.size + 1 + 1, 4, none⟩) (fun _ => .inr rfl) _) (p := ⟨w.heap.size + 1 + 1, 5, none⟩) (fun _ => .inr rfl) _) (p := ⟨w.heap.size + 1 + 1, 6, none⟩) (fun _ => .inr rfl) _) (p := ⟨w.heap.size + 1 + 1, 7, none⟩) (fun _ => .inr rfl) _) (p := ⟨w.heap.size + 1 + 1, 8, none⟩) (fun _ => .inr rfl) _) (p := ⟨w.heap.size + 1 + 1, 9, none⟩) (fun _ => .inr rfl) _) (p := ⟨w.heap.size + 1 + 1, 10, none⟩) (fun _ => .inr rfl) _) (p := ⟨w.heap.size + 1 + 1, 11, none⟩) (fun _ => .inr rfl) _
  have r0 := cell_of_blk ho 0
  have r1 := cell_of_blk ho 1
  have r2 := cell_of_blk ho 2
  have r3 := cell_of_blk ho 3
  have r4 := cell_of_blk ho 4
  have r5 := cell_of_blk ho 5
  have r6 := cell_of_blk ho 6
  have r7 := cell_of_blk ho 7
  have r8 := cell_of_blk ho 8
  have r9 := cell_of_blk ho 9
  have r10 := cell_of_blk ho 10
  have r11 := cell_of_blk ho 11
  have hov : Row WE (fun b => S b ∨ w.heap.size ≤ b) 6 n5 (.slice A' n5 c') ((changeL (fun x : ETok => x.key == r.key) (fun x => { x with stuck := r.a }) l).flatMap encTok) := by
    have hNs := HSZ.out
    exact (HR2.out.mut hmu (fun b _ hb h => by omega)).weaken (fun b _ h => h.elim (fun h => .inl h.1) (fun h => .inr (by omega)))
  refine bodyPost_ret (v := .agg #[.int .u64 Pp, .int .u64 Dd, .int .u64 Mm, .slice A3 n3 c3, .slice A4 n4 c4, .slice A' n5 c', .slice A6 n6 c6, .slice A7 n7 c7, .slice A8 n8 c8, .slice A9 n9 c9, .slice A10 n10 c10, .slice A11 n11 c11]) (by simp [results, Tryz.results62, go_sem, r0, r1, r2, r3, r4, r5, r6, r7, r8, r9, r10, r11]) rfl ⟨A', c', rfl, hov, hbe⟩
end Go.Proofs.YtfjdllpacdobdaaGreat
/-
  fold.opened, varsOf, expired, matched. Printed by gfold2.py.
-/
set_option linter.unusedVariables false
set_option linter.unusedSimpArgs false
namespace Go.Proofs.YtfjdllpacdobdaaGreat
open Go Go.RowKit Go.Proofs.Base
open Go.Sort (grow)
end Go.Proofs.YtfjdllpacdobdaaGreat
/-
  slices.DeleteFunc, fold.without of Timer. Printed by gfold.py.
-/
set_option linter.unusedVariables false
set_option linter.unusedSimpArgs false
namespace Go.Proofs.YtfjdllpacdobdaaGreat
open Go Go.RowKit Go.Proofs.Base
open Go.Sort (grow)
end Go.Proofs.YtfjdllpacdobdaaGreat
/-
  The map of keys that are taken away.
-/
set_option linter.unusedVariables false
set_option linter.unusedSimpArgs false
namespace Go.Proofs.Base
open Go Go.RowKit Go.Maps
def deadStep (p : ETok → Bool) (D : DataW Unit) (x : ETok) : DataW Unit := if p x then D.put (.int .u64 x.key) (.lit (.bool true)) else D
def deadD (p : ETok → Bool) (l : List ETok) : DataW Unit := l.foldl (deadStep p) (.map [])
end Go.Proofs.Base
namespace Go.Proofs.YtfjdllpacdobdaaGreat
open Go Go.RowKit Go.Proofs.Base
abbrev Dead (w : World) (b n : Nat) (D : DataW Unit) : Prop := w.ownsMap Tryz.prog 22 (plainElem Tryz.prog 4) b n D
theorem dead_below {w w' : World} {b n : Nat} {D : DataW Unit} (h : Dead w b n D) (hb : Below w.heap.size w w') : Dead w' b n D := h.kept (row := none) (grown_of_below hb none) (by simp)
end Go.Proofs.YtfjdllpacdobdaaGreat
/-
  What goes with tokens. Printed by gfold2.py.
-/
set_option linter.unusedVariables false
set_option linter.unusedSimpArgs false
namespace Go.Proofs.YtfjdllpacdobdaaGreat
open Go Go.RowKit Go.Proofs.Base
open Go.Sort (grow)
end Go.Proofs.YtfjdllpacdobdaaGreat
/-
  fold.gone. Printed by gfold2.py.
-/
set_option linter.unusedVariables false
set_option linter.unusedSimpArgs false
namespace Go.Proofs.YtfjdllpacdobdaaGreat
open Go Go.RowKit Go.Proofs.Base
open Go.Sort (grow)
structure GStage (w : World) (ga : Nat) (lba : Array Value) (p : ETok → Bool) (l : List ETok) (B n : Nat) (W : World) : Prop where
  below : Below w.heap.size w W
  also : W.heap[w.heap.size + 1]? = some (.cells #[.func (.func ga) #[] lba] 55 (0, 0))
  mbox : W.heap[w.heap.size + 1 + 1 + 1 + 1]? = some (.cells #[.map (some (w.heap.size + 1 + 1 + 1))] 188 (0, 0))
  dead : Dead W (w.heap.size + 1 + 1 + 1) n (deadD p l)
  res : W.heap[w.heap.size + 1 + 1]? = some (.cells #[.int .u64 0, .int .u64 0, .int .u64 0, .slice none 0 0, .slice none 0 0, .slice none 0 0, .slice none 0 0, .slice none 0 0, .slice none 0 0, .slice none 0 0, .slice none 0 0, .slice none 0 0] 33 (0, 0))
  tbox : W.heap[B]? = some (.cells #[.func (.func 140) #[] #[.pointer (some ⟨w.heap.size + 1 + 1 + 1 + 1, 0, none⟩), .pointer (some ⟨w.heap.size + 1, 0, none⟩)]] 55 (0, 0))
  far : w.heap.size + 4 < B
theorem GStage.next {w : World} {ga : Nat} {lba : Array Value} {p : ETok → Bool} {l : List ETok} {B n : Nat} {W W' : World} (h : GStage w ga lba p l B n W) (hb : Below W.heap.size W W') : GStage w ga lba p l B n W' :=
  ⟨below2 h.below hb, block_below hb h.also, block_below hb h.mbox, dead_below h.dead hb, block_below hb h.res, block_below hb h.tbox, h.far⟩
theorem GStage.set {w : World} {ga : Nat} {lba : Array Value} {p : ETok → Bool} {l : List ETok} {B n : Nat} {W : World} (h : GStage w ga lba p l B n W) (o : Nat) (u : Value) : GStage w ga lba p l B n (W.setCell ⟨w.heap.size, o, none⟩ u) :=
  ⟨h.below.setCell (p := ⟨w.heap.size, o, none⟩) (Nat.le_refl _) u, blk_set_other h.also (by omega), blk_set_other h.mbox (by omega),
    h.dead.kept (row := some w.heap.size) (⟨rfl, rfl, rfl, by simp [World.setCell], fun b hb hn => Below.heap_setCell W ⟨w.heap.size, o, none⟩ u b (fun e => hn (by show some b = some w.heap.size; rw [show b = w.heap.size from e]))⟩) (by simp; omega), blk_set_other h.res (by omega), blk_set_other h.tbox (by have := h.far; omega), h.far⟩
end Go.Proofs.YtfjdllpacdobdaaGreat
/-
  fold.left, fold.ended. Printed by gfold2.py.
-/
set_option linter.unusedVariables false
set_option linter.unusedSimpArgs false
namespace Go.Proofs.YtfjdllpacdobdaaGreat
open Go Go.RowKit Go.Proofs.Base
open Go.Sort (grow)
end Go.Proofs.YtfjdllpacdobdaaGreat
