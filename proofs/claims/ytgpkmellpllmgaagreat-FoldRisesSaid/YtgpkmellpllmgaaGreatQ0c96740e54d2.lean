/-
  Merged from Fe_send, Fu_late, FoV, FoP, FoR, FfTok, FfJob, FoTk, BoxL, FoBx, FoSh.
-/
import Derived.Test.YtgpkmellpllmgaaGreatQe2b93a41ec54
import Derived.Test.YtgpkmellpllmgaaGreatQ138b23659f84
import Derived.Test.YtgpkmellpllmgaaGreatQ7b67ab243e98
import Derived.Test.YtgpkmellpllmgaaGreatQ39ed21976fe9
import Derived.Test.YtgpkmellpllmgaaGreatQ5ebf1c882415
import Derived.Laws.Rows
import Derived.Laws.Tables
/-
  fold.sending. Printed by gfold2.py.
-/
set_option linter.unusedVariables false
set_option linter.unusedSimpArgs false
namespace Go.Proofs.YtgpkmellpllmgaaGreat
open Go Go.RowKit Go.Proofs.Base
open Go.Sort (grow)
set_option maxRecDepth 100000 in
set_option maxHeartbeats 4000000 in
theorem ev_sending (Pp Dd Mm : Int) (A3 : Option Addr) (n3 c3 : Nat) (A4 : Option Addr) (n4 c4 : Nat) (A5 : Option Addr) (n5 c5 : Nat) (A6 : Option Addr) (n6 c6 : Nat) (A7 : Option Addr) (n7 c7 : Nat) (A8 : Option Addr) (n8 c8 : Nat) (A9 : Option Addr) (n9 c9 : Nat) (A10 : Option Addr) (n10 c10 : Nat) (A11 : Option Addr) (n11 c11 : Nat) (r : GRec) (vA : Option Addr) (vN vC : Nat) (ll : List ELst) (lm : List EMsg) (w : World) (S : Nat → Prop) (hl10 : ll.length = n10) (hby10 : n10 * 88 ≤ 140737488355328) (hr10 : Row w S 7 n10 (.slice A10 n10 c10) (ll.flatMap encLst)) (hl11 : lm.length = n11) (hby11 : n11 * 112 ≤ 140737488355328) (hr11 : Row w S 7 n11 (.slice A11 n11 c11) (lm.flatMap encMsg)) (hvc : vN ≤ vC) (hvm : vC ≤ 9223372036854775807) (him : ∀ x ∈ lm, x.insts.length = x.iN ∧ (x.iN + 1) * 8 ≤ 140737488355328 ∧ Row w S 1 x.iN (.slice x.iA x.iN x.iC) (x.insts.flatMap encU64)) (hiv : ∀ x ∈ lm, x.vars.length = x.vN ∧ x.vN * 48 ≤ 140737488355328 ∧ Row w S 4 x.vN (.slice x.vA x.vN x.vC) (x.vars.flatMap GVar.cells)) :
    Calls Tryz.prog 72 #[.agg #[.int .u64 Pp, .int .u64 Dd, .int .u64 Mm, .slice A3 n3 c3, .slice A4 n4 c4, .slice A5 n5 c5, .slice A6 n6 c6, .slice A7 n7 c7, .slice A8 n8 c8, .slice A9 n9 c9, .slice A10 n10 c10, .slice A11 n11 c11], .agg #[.int .i64 r.cls, .int .i64 r.kind, .int .u64 r.frm, .int .i64 r.time, .int .u64 r.key, .int .u64 r.key2, .int .u64 r.key3, .int .i64 r.n, .int .i64 r.m, .string r.a, .string r.b, .string r.c, .slice vA vN vC]] w fun e w' => (((idxP (fun x : ELst => x.token == r.key && x.node == r.n) ll = -1 ∨ idxP (fun x : EMsg => x.key == r.key2) lm = -1) ∧ e = .returned (.agg #[.int .u64 Pp, .int .u64 Dd, .int .u64 Mm, .slice A3 n3 c3, .slice A4 n4 c4, .slice A5 n5 c5, .slice A6 n6 c6, .slice A7 n7 c7, .slice A8 n8 c8, .slice A9 n9 c9, .slice A10 n10 c10, .slice A11 n11 c11])) ∨ ∃ i, ∃ hi : i < ll.length, ∃ j, ∃ hj : j < lm.length, idxP (fun x : ELst => x.token == r.key && x.node == r.n) ll = (i : Int) ∧ idxP (fun x : EMsg => x.key == r.key2) lm = (j : Int) ∧ ∃ A' c' ll' B' d' lm', e = .returned (.agg #[.int .u64 Pp, .int .u64 Dd, .int .u64 Mm, .slice A3 n3 c3, .slice A4 n4 c4, .slice A5 n5 c5, .slice A6 n6 c6, .slice A7 n7 c7, .slice A8 n8 c8, .slice A9 n9 c9, .slice A' n10 c', .slice B' n11 d']) ∧ Row w' (fun b => S b ∨ w.heap.size ≤ b) 7 n10 (.slice A' n10 c') (ll'.flatMap encLst) ∧ Row w' (fun b => S b ∨ w.heap.size ≤ b) 7 n11 (.slice B' n11 d') (lm'.flatMap encMsg) ∧ (∃ A1 c1, Row w' (fun b => w.heap.size ≤ b) 4 lm[j].vN (.slice A1 lm[j].vN c1) (lm[j].vars.flatMap GVar.cells) ∧ ll' = ll.set i { ll[i] with message := r.key2, vA := A1, vN := lm[j].vN, vC := c1, vars := lm[j].vars }) ∧ (∃ A1 c1, Row w' (fun b => w.heap.size ≤ b) 1 (lm[j].iN + 1) (.slice A1 (lm[j].iN + 1) c1) ((lm[j].insts ++ [ll[i].inst]).flatMap encU64) ∧ lm' = lm.set j { lm[j] with iA := A1, iN := lm[j].iN + 1, iC := c1, insts := lm[j].insts ++ [ll[i].inst] })) ∧ Below w.heap.size w w' := by
  obtain ⟨N, hN⟩ : ∃ N, N = ((w.alloc (.cells #[.int .u64 Pp, .int .u64 Dd, .int .u64 Mm, .slice A3 n3 c3, .slice A4 n4 c4, .slice A5 n5 c5, .slice A6 n6 c6, .slice A7 n7 c7, .slice A8 n8 c8, .slice A9 n9 c9, .slice A10 n10 c10, .slice A11 n11 c11] 35)).alloc (.cells #[.int .i64 r.cls, .int .i64 r.kind, .int .u64 r.frm, .int .i64 r.time, .int .u64 r.key, .int .u64 r.key2, .int .u64 r.key3, .int .i64 r.n, .int .i64 r.m, .string r.a, .string r.b, .string r.c, .slice vA vN vC] 39)).alloc (.cells #[.int .u64 0, .int .u64 0, .int .u64 0, .slice none 0 0, .slice none 0 0, .slice none 0 0, .slice none 0 0, .slice none 0 0, .slice none 0 0, .slice none 0 0, .slice none 0 0, .slice none 0 0] 35) := ⟨_, rfl⟩
  have b0 : N.heap[w.heap.size]? = some (.cells #[.int .u64 Pp, .int .u64 Dd, .int .u64 Mm, .slice A3 n3 c3, .slice A4 n4 c4, .slice A5 n5 c5, .slice A6 n6 c6, .slice A7 n7 c7, .slice A8 n8 c8, .slice A9 n9 c9, .slice A10 n10 c10, .slice A11 n11 c11] 35 (0, 0)) := by rw [hN]; exact blk_alloc (blk_alloc (blk_new _) _) _
  have b1 : recB N (w.heap.size + 1) r vA vN vC := by rw [hN]; exact blk_alloc (blk_new_of _ (by simp)) _
  have b2 : N.heap[w.heap.size + 1 + 1]? = some (.cells #[.int .u64 0, .int .u64 0, .int .u64 0, .slice none 0 0, .slice none 0 0, .slice none 0 0, .slice none 0 0, .slice none 0 0, .slice none 0 0, .slice none 0 0, .slice none 0 0, .slice none 0 0] 35 (0, 0)) := by rw [hN]; exact blk_new_of _ (by simp)
  have hB : Below w.heap.size w N := by rw [hN]; exact below_alloc (below_alloc (below_alloc (Below.refl _ _) _) _) _
  have hsz : N.heap.size = w.heap.size + 3 := by rw [hN]; simp
  have HN := Lib.hid hN
  have HB := Lib.hid hB
  have HSZ := Lib.hid hsz
  have K0 := Lib.hid b0
  have K1 := Lib.hid b1
  have K2 := Lib.hid b2
  have hst : MStage w N r vA vN vC #[.int .u64 Pp, .int .u64 Dd, .int .u64 Mm, .slice A3 n3 c3, .slice A4 n4 c4, .slice A5 n5 c5, .slice A6 n6 c6, .slice A7 n7 c7, .slice A8 n8 c8, .slice A9 n9 c9, .slice A10 n10 c10, .slice A11 n11 c11] := ⟨hB, b0, b1, b2, by omega⟩
  have HST := Lib.hid hst
  have hr10s := hr10.weaken (S' := fun b => S b ∧ b < w.heap.size) (fun b hb h => ⟨h, hb⟩)
  have hr11s := hr11.weaken (S' := fun b => S b ∧ b < w.heap.size) (fun b hb h => ⟨h, hb⟩)
  have egl : ∀ args w, (callFunc 181 args).run Tryz.prog w = .ok (.enter 181 args) w := enters_of Tryz.func181 (by kernel_rfl) rfl
  have egm : ∀ args w, (callFunc 182 args).run Tryz.prog w = .ok (.enter 182 args) w := enters_of Tryz.func182 (by kernel_rfl) rfl
  have eg1 : ∀ args w, (callFunc 124 args).run Tryz.prog w = .ok (.enter 124 args) w := enters_of Tryz.func124 (by kernel_rfl) rfl
  have eg2 : ∀ args w, (callFunc 126 args).run Tryz.prog w = .ok (.enter 126 args) w := enters_of Tryz.func126 (by kernel_rfl) rfl
  have HIX := Lib.hid (fun W bq (hW : Below w.heap.size w W) (hq : recB W bq r vA vN vC) => idx_Lst A10 n10 c10 181 #[.pointer (some ⟨bq, 0, none⟩)] ll (fun x : ELst => x.token == r.key && x.node == r.n) W W (fun b => S b ∧ b < w.heap.size) egl hl10 (hr10s.below hW) (Below.refl _ _) (fun V hV x _ => p_ofListed_1 _ x r vA vN vC V (block_below hV hq)))
  have HIM := Lib.hid (fun W bq (hW : Below w.heap.size w W) (hq : recB W bq r vA vN vC) => idx_Msg A11 n11 c11 182 #[.pointer (some ⟨bq, 0, none⟩)] lm (fun x : EMsg => x.key == r.key2) W W (fun b => S b ∧ b < w.heap.size) egm hl11 (hr11s.below hW) (Below.refl _ _) (fun V hV x _ => p_ofMessage_1 _ x r vA vN vC V (block_below hV hq)))
  have HCL := Lib.hid (fun W bq vb lA lN lC (lv : List GVar) (hW : Below w.heap.size w W) (hq : recB W bq r vA vN vC) (hvb : vb < W.heap.size) (hst : recB W (w.heap.size + 1) r vA vN vC) (hx : W.cell? ⟨vb, 0, none⟩ = some (.slice lA lN lC)) (hv1 : lv.length = lN) (hv2 : lN * 48 ≤ 140737488355328) (hv3 : Row w S 4 lN (.slice lA lN lC) (lv.flatMap GVar.cells)) => change_Lst A10 n10 c10 181 124 #[.pointer (some ⟨bq, 0, none⟩)] #[.pointer (some ⟨w.heap.size + 1, 0, none⟩), .pointer (some ⟨vb, 0, none⟩)] ll (fun x : ELst => x.token == r.key && x.node == r.n) (fun W' x y => ∃ A1 c1, y = { x with message := r.key2, vA := A1, vN := lN, vC := c1, vars := lv } ∧ Row W' (fun b => W.heap.size ≤ b) 4 lN (.slice A1 lN c1) (lv.flatMap GVar.cells)) W (fun b => S b ∧ b < w.heap.size) egl eg1 hl10 hby10 (hr10s.below hW)
    (fun V hV x _ => p_ofListed_1 _ x r vA vN vC V (block_below hV hq))
    (fun V b cur i hi hV hwb hg ht hs => (c_sending_1 b i n10 cur ll (w.heap.size + 1) vb r vA vN vC (by have := lt_of_blk hst; omega) (by omega) V S (block_below hV hst) lA lN lC lv (cell_below hV hx) hv1 hv2 (hv3.below (below2 hW hV)) hi hl10 hg ht hs).mono (fun e w' ⟨he, A1, c1, cur', h1, h2, h3, h4, hm⟩ => ⟨he, _, cur', ⟨A1, c1, rfl, h4.weaken (fun x _ hx => Nat.le_trans hV.size hx)⟩, h1, h2, h3, below_mut hV hm (fun b' hb' => hb' ▸ hwb)⟩)))
  have HCH := Lib.hid (fun W bq xb q (hW : Below w.heap.size w W) (hq : recB W bq r vA vN vC) (hxb : xb < W.heap.size) (hx : W.cell? ⟨xb, 0, none⟩ = some (.int .u64 q)) => change_Msg A11 n11 c11 182 126 #[.pointer (some ⟨bq, 0, none⟩)] #[.pointer (some ⟨xb, 0, none⟩)] lm (fun x : EMsg => x.key == r.key2) (fun W' x y => ∃ A1 c1, y = { x with iA := A1, iN := x.iN + 1, iC := c1, insts := x.insts ++ [q] } ∧ Row W' (fun b => W.heap.size ≤ b) 1 (x.iN + 1) (.slice A1 (x.iN + 1) c1) ((x.insts ++ [q]).flatMap encU64)) W (fun b => S b ∧ b < w.heap.size) egm eg2 hl11 hby11 (hr11s.below hW)
    (fun V hV x _ => p_ofMessage_1 _ x r vA vN vC V (block_below hV hq))
    (fun V b cur i hi hV hwb hg ht hs => (c_sending_2 b i n11 cur lm xb q (by omega) V S (cell_below hV hx) hi hl11 (him _ (List.getElem_mem hi)).2.1 (him _ (List.getElem_mem hi)).1 ((him _ (List.getElem_mem hi)).2.2.below (below2 hW hV)) hg ht hs).mono (fun e w' ⟨he, A1, c1, cur', h1, h2, h3, h4, hm⟩ => ⟨he, _, cur', ⟨A1, c1, rfl, h4.weaken (fun x _ hx => Nat.le_trans hV.size hx)⟩, h1, h2, h3, below_mut hV hm (fun b' hb' => hb' ▸ hwb)⟩)))
  have HMK := Lib.hid (fun W => mk_ofListed r vA vN vC W hvc hvm)
  have HMM := Lib.hid (fun W => mk_ofMessage r vA vN vC W hvc hvm)
  have HR10 := Lib.hid hr10s
  have HR11 := Lib.hid hr11s
  have HL10 := Lib.hid hl10
  have HL11 := Lib.hid hl11
  have HIV := Lib.hid hiv
  obtain ⟨X10, y10, hx10, hnc10, hcm10⟩ := hr10.open_
  injection hx10 with hxa _ hxb
  subst hxa hxb
  obtain ⟨X11, y11, hx11, hnc11, hcm11⟩ := hr11.open_
  injection hx11 with hxa _ hxb
  subst hxa hxb
  clear hN hB hsz b0 b1 b2 hst hr10 hr11 hr10s hr11s hl10 hl11 hby10 hby11 him hiv egl egm eg1 eg2 HB HSZ K0 K1 K2
  have k0 := HST.out.k0
  have k1 := HST.out.k1
  rcases idxP_spec (fun x : ELst => x.token == r.key && x.node == r.n) ll with ⟨h1, -⟩ | ⟨i, hi, h1, -, -⟩
  · rcases idxP_spec (fun x : EMsg => x.key == r.key2) lm with ⟨h2, -⟩ | ⟨j, hj, h2, -, -⟩
    · go_enter Tryz.func72, Tryz.ntmps72
      go_wp2_with fail
      rw [show ((w.alloc (.cells #[.int .u64 Pp, .int .u64 Dd, .int .u64 Mm, .slice A3 n3 c3, .slice A4 n4 c4, .slice A5 n5 c5, .slice A6 n6 c6, .slice A7 n7 c7, .slice A8 n8 c8, .slice A9 n9 c9, .slice A10 n10 c10, .slice A11 n11 c11] 35)).alloc (.cells #[.int .i64 r.cls, .int .i64 r.kind, .int .u64 r.frm, .int .i64 r.time, .int .u64 r.key, .int .u64 r.key2, .int .u64 r.key3, .int .i64 r.n, .int .i64 r.m, .string r.a, .string r.b, .string r.c, .slice vA vN vC] 39)).alloc (.cells #[.int .u64 0, .int .u64 0, .int .u64 0, .slice none 0 0, .slice none 0 0, .slice none 0 0, .slice none 0 0, .slice none 0 0, .slice none 0 0, .slice none 0 0, .slice none 0 0, .slice none 0 0] 35) = N from HN.out.symm]
      clear HN
      have s10 := cell_regrown (cell_of_blk k0 10)
      have s11 := cell_regrown (cell_of_blk k0 11)
      have q0 := cell_regrown (cell_of_blk k1 0)
      have q1 := cell_regrown (cell_of_blk k1 1)
      have q2 := cell_regrown (cell_of_blk k1 2)
      have q3 := cell_regrown (cell_of_blk k1 3)
      have q4 := cell_regrown (cell_of_blk k1 4)
      have q5 := cell_regrown (cell_of_blk k1 5)
      have q6 := cell_regrown (cell_of_blk k1 6)
      have q7 := cell_regrown (cell_of_blk k1 7)
      have q8 := cell_regrown (cell_of_blk k1 8)
      have q9 := cell_regrown (cell_of_blk k1 9)
      have q10 := cell_regrown (cell_of_blk k1 10)
      have q11 := cell_regrown (cell_of_blk k1 11)
      have q12 := cell_regrown (cell_of_blk k1 12)
      clear k0 k1
      refine wp_region_ord [] (n := 12) (listed := #[false, false, false, false, false, false, false, false, false, false, false, false]) (by kernel_rfl) rfl rfl ?_
      ((refine wpK_pure (fuel := 11) (listed' := #[true, false, false, false, false, false, false, false, false, false, false, false]) 0 rfl (by kernel_rfl) rfl ?_; (first | go_big_quiet_step (fail) | quiet_step (fail)); refine wpQuiet_nil ?_); (refine wpK_pure (fuel := 10) (listed' := #[true, false, false, false, false, true, false, false, false, false, false, false]) 5 rfl (by kernel_rfl) rfl ?_; (first | go_big_quiet_step (fail) | quiet_step (fail)); refine wpQuiet_nil ?_))
      ((refine wpK_read (fuel := 9) (listed' := #[true, true, false, false, false, true, false, false, false, false, false, false]) 1 (by first | exact regrown_first _ _ | exact regrown_self _) rfl (by kernel_rfl) rfl ?_; (first | go_big_quiet_step (fail) | quiet_step (fail)); refine wpQuiet_nil ?_); (refine wpK_read (fuel := 8) (listed' := #[true, true, true, false, false, true, false, false, false, false, false, false]) 2 (by first | exact regrown_first _ _ | exact regrown_self _) rfl (by kernel_rfl) rfl ?_; (first | go_big_quiet_step (fail) | quiet_step (fail)); refine wpQuiet_nil ?_); (refine wpK_read (fuel := 7) (listed' := #[true, true, true, false, false, true, true, false, false, false, false, false]) 6 (by first | exact regrown_first _ _ | exact regrown_self _) rfl (by kernel_rfl) rfl ?_; (first | go_big_quiet_step (fail) | quiet_step (fail)); refine wpQuiet_nil ?_); (refine wpK_read (fuel := 6) (listed' := #[true, true, true, false, false, true, true, true, false, false, false, false]) 7 (by first | exact regrown_first _ _ | exact regrown_self _) rfl (by kernel_rfl) rfl ?_; (first | go_big_quiet_step (fail) | quiet_step (fail)); refine wpQuiet_nil ?_))
      refine wpK_one (fuel := 5) (listed' := #[true, true, true, true, false, true, true, true, false, false, false, false]) 3 rfl (by kernel_rfl) rfl ?_
      go_wp2_with (go_at_call 120; refine (HMK.out _).mono ?_; rintro e w0 ⟨rfl, hq, hb⟩; have HQ := Lib.hid hq; have HB1 := Lib.hid (below2 (below_redrawn N (N.drawn + 1)) hb); clear hq hb)
      refine ⟨rfl, fun _ _ => regrown_of_below HB1.out, ?_⟩
      refine wpK_one (fuel := 4) (listed' := #[true, true, true, true, true, true, true, true, false, false, false, false]) 4 rfl (by kernel_rfl) rfl ?_
      go_wp2_with fail
      refine (HIX.out w0 _ (below2 HST.out.below HB1.out) HQ.out).mono ?_
      rintro e w1 ⟨rfl, hb⟩
      rw [h1]
      have HB2 := Lib.hid (below2 HB1.out hb)
      clear hb HB1 HQ
      go_wp2_with fail
      refine ⟨rfl, fun _ _ => regrown_of_below HB2.out, ?_⟩
      refine wpK_one (fuel := 3) (listed' := #[true, true, true, true, true, true, true, true, true, false, false, false]) 8 rfl (by kernel_rfl) rfl ?_
      go_wp2_with (go_at_call 122; refine (HMM.out _).mono ?_; rintro e w2 ⟨rfl, hq, hb⟩; have HQ := Lib.hid hq; have HB3 := Lib.hid (below2 HB2.out hb); clear hq hb)
      refine ⟨rfl, fun _ _ => regrown_of_below HB3.out, ?_⟩
      refine wpK_one (fuel := 2) (listed' := #[true, true, true, true, true, true, true, true, true, true, false, false]) 9 rfl (by kernel_rfl) rfl ?_
      go_wp2_with fail
      refine (HIM.out w2 _ (below2 HST.out.below HB3.out) HQ.out).mono ?_
      rintro e w3 ⟨rfl, hb⟩
      rw [h2]
      have HST1 := Lib.hid (HST.out.more (below2 HB3.out hb))
      have HB4 := Lib.hid (below2 HB3.out hb)
      clear hb s10 s11 q0 q1 q2 q3 q4 q5 q6 q7 q8 q9 q10 q11 q12
      go_wp2_with fail
      refine ⟨rfl, fun _ _ => regrown_of_below HB4.out, ?_⟩
      refine wpK_one (fuel := 1) (listed' := #[true, true, true, true, true, true, true, true, true, true, true, false]) 10 rfl (by kernel_rfl) rfl ?_
      go_wp2_with fail
      refine ⟨rfl, fun _ h => h, ?_⟩
      refine wpK_one (fuel := 0) (listed' := #[true, true, true, true, true, true, true, true, true, true, true, true]) 11 rfl (by kernel_rfl) rfl ?_
      go_wp2_with fail
      refine ⟨rfl, fun _ h => h, ?_⟩
      refine wpK_end rfl ?_
      clear HB2 HB3 HB4 HQ HST HIX HIM
      have k0 := HST1.out.k0
      have k2 := HST1.out.k2
      have KZ := Lib.hid k2
      have HWB := Lib.hid HST1.out.below
      have s0 := cell_of_blk k0 0
      have s1 := cell_of_blk k0 1
      have s2 := cell_of_blk k0 2
      have s3 := cell_of_blk k0 3
      have s4 := cell_of_blk k0 4
      have s5 := cell_of_blk k0 5
      have s6 := cell_of_blk k0 6
      have s7 := cell_of_blk k0 7
      have s8 := cell_of_blk k0 8
      have s9 := cell_of_blk k0 9
      have s10 := cell_of_blk k0 10
      have s11 := cell_of_blk k0 11
      have f0 := frozen_of_blk k0 0
      have f1 := frozen_of_blk k0 1
      have f2 := frozen_of_blk k0 2
      have f3 := frozen_of_blk k0 3
      have f4 := frozen_of_blk k0 4
      have f5 := frozen_of_blk k0 5
      have f6 := frozen_of_blk k0 6
      have f7 := frozen_of_blk k0 7
      have f8 := frozen_of_blk k0 8
      have f9 := frozen_of_blk k0 9
      have f10 := frozen_of_blk k0 10
      have f11 := frozen_of_blk k0 11
      have z0 := cell_of_blk k2 0
      have z1 := cell_of_blk k2 1
      have z2 := cell_of_blk k2 2
      have z3 := cell_of_blk k2 3
      have z4 := cell_of_blk k2 4
      have z5 := cell_of_blk k2 5
      have z6 := cell_of_blk k2 6
      have z7 := cell_of_blk k2 7
      have z8 := cell_of_blk k2 8
      have z9 := cell_of_blk k2 9
      have z10 := cell_of_blk k2 10
      have z11 := cell_of_blk k2 11
      have g0 := frozen_of_blk k2 0
      have g1 := frozen_of_blk k2 1
      have g2 := frozen_of_blk k2 2
      have g3 := frozen_of_blk k2 3
      have g4 := frozen_of_blk k2 4
      have g5 := frozen_of_blk k2 5
      have g6 := frozen_of_blk k2 6
      have g7 := frozen_of_blk k2 7
      have g8 := frozen_of_blk k2 8
      have g9 := frozen_of_blk k2 9
      have g10 := frozen_of_blk k2 10
      have g11 := frozen_of_blk k2 11
      clear k0 k2
      go_wp2_with fail
      generalize hWE : World.setCell (World.setCell (World.setCell (World.setCell (World.setCell (World.setCell (World.setCell (World.setCell (World.setCell (World.setCell (World.setCell (World.setCell (_) _ _) _ _) _ _) _ _) _ _) _ _) _ _) _ _) _ _) _ _) _ _) _ _ = WE
      have ho : WE.heap[w.heap.size + 1 + 1]? = some (.cells #[.int .u64 Pp, .int .u64 Dd, .int .u64 Mm, .slice A3 n3 c3, .slice A4 n4 c4, .slice A5 n5 c5, .slice A6 n6 c6, .slice A7 n7 c7, .slice A8 n8 c8, .slice A9 n9 c9, .slice A10 n10 c10, .slice A11 n11 c11] 35 (0, 0)) := by rw [← hWE]; exact set_blk12 (KZ.out) (.int .u64 Pp) (.int .u64 Dd) (.int .u64 Mm) (.slice A3 n3 c3) (.slice A4 n4 c4) (.slice A5 n5 c5) (.slice A6 n6 c6) (.slice A7 n7 c7) (.slice A8 n8 c8) (.slice A9 n9 c9) (.slice A10 n10 c10) (.slice A11 n11 c11)
      have hbe : Below w.heap.size w WE := by rw [← hWE]; exact ((((((((((((HWB.out).setCell (p := ⟨w.heap.size + 1 + 1, 0, none⟩) (by show _ ≤ _ + 1 + 1; omega) _).setCell (p := ⟨w.heap.size + 1 + 1, 1, none⟩) (by show _ ≤ _ + 1 + 1; omega) _).setCell (p := ⟨w.heap.size + 1 + 1, 2, none⟩) (by show _ ≤ _ + 1 + 1; omega) _).setCell (p := ⟨w.heap.size + 1 + 1, 3, none⟩) (by show _ ≤ _ + 1 + 1; omega) _).setCell (p := ⟨w.heap.size + 1 + 1, 4, none⟩) (by show _ ≤ _ + 1 + 1; omega) _).setCell (p := ⟨w.heap.size + 1 + 1, 5, none⟩) (by show _ ≤ _ + 1 + 1; omega) _).setCell (p := ⟨w.heap.size + 1 + 1, 6, none⟩) (by show _ ≤ _ + 1 + 1; omega) _).setCell (p := ⟨w.heap.size + 1 + 1, 7, none⟩) (by show _ ≤ _ + 1 + 1; omega) _).setCell (p := ⟨w.heap.size + 1 + 1, 8, none⟩) (by show _ ≤ _ + 1 + 1; omega) _).setCell (p := ⟨w.heap.size + 1 + 1, 9, none⟩) (by show _ ≤ _ + 1 + 1; omega) _).setCell (p := ⟨w.heap.size + 1 + 1, 10, none⟩) (by show _ ≤ _ + 1 + 1; omega) _).setCell (p := ⟨w.heap.size + 1 + 1, 11, none⟩) (by show _ ≤ _ + 1 + 1; omega) _
      have hmu : Mut (fun b => b = w.heap.size ∨ b = w.heap.size + 1 + 1) w3 WE := by
        rw [← hWE]
        exact Mut.setCell (T := fun b => b = w.heap.size ∨ b = w.heap.size + 1 + 1) (Mut.setCell (T := fun b => b = w.heap.size ∨ b = w.heap.size + 1 + 1) (Mut.setCell (T := fun b => b = w.heap.size ∨ b = w.heap.size + 1 + 1) (Mut.setCell (T := fun b => b = w.heap.size ∨ b = w.heap.size + 1 + 1) (Mut.setCell (T := fun b => b = w.heap.size ∨ b = w.heap.size + 1 + 1) (Mut.setCell (T := fun b => b = w.heap.size ∨ b = w.heap.size + 1 + 1) (Mut.setCell (T := fun b => b = w.heap.size ∨ b = w.heap.size + 1 + 1) (Mut.setCell (T := fun b => b = w.heap.size ∨ b = w.heap.size + 1 + 1) (Mut.setCell (T := fun b => b = w.heap.size ∨ b = w.heap.size + 1 + 1) (Mut.setCell (T := fun b => b = w.heap.size ∨ b = w.heap.size + 1 + 1) (Mut.setCell (T := fun b => b = w.heap.size ∨ b = w.heap.size + 1 + 1) (Mut.setCell (T := fun b => b = w.heap.size ∨ b = w.heap.size + 1 + 1) (Mut.refl _ _) (p := ⟨w.heap.size + 1 + 1, 0, none⟩) (fun _ => .inr rfl) _) (p := ⟨w.heap.size + 1 + 1, 1, none⟩) (fun _ => .inr rfl) _) (p := ⟨w.heap.size + 1 + 1, 2, none⟩) (fun _ => .inr rfl) _) (p := ⟨w.heap.size + 1 + 1, 3, none⟩) (fun _ => .inr rfl) _) (p := ⟨w.heap.size + 1 + 1, 4, none⟩) (fun _ => .inr rfl) _) (p := ⟨w.heap.size + 1 + 1, 5, none⟩) (fun _ => .inr rfl) _) (p := ⟨w.heap.size + 1 + 1, 6, none⟩) (fun _ => .inr rfl) _) (p := ⟨w.heap.size + 1 + 1, 7, none⟩) (fun _ => .inr rfl) _) (p := ⟨w.heap.size + 1 + 1, 8, none⟩) (fun _ => .inr rfl) _) (p := ⟨w.heap.size + 1 + 1, 9, none⟩) (fun _ => .inr rfl) _) (p := ⟨w.heap.size + 1 + 1, 10, none⟩) (fun _ => .inr rfl) _) (p := ⟨w.heap.size + 1 + 1, 11, none⟩) (fun _ => .inr rfl) _
      have r0 := cell_of_blk ho 0
      have r1 := cell_of_blk ho 1
      have r2 := cell_of_blk ho 2
      have r3 := cell_of_blk ho 3
      have r4 := cell_of_blk ho 4
      have r5 := cell_of_blk ho 5
      have r6 := cell_of_blk ho 6
      have r7 := cell_of_blk ho 7
      have r8 := cell_of_blk ho 8
      have r9 := cell_of_blk ho 9
      have r10 := cell_of_blk ho 10
      have r11 := cell_of_blk ho 11
      refine bodyPost_ret (v := .agg #[.int .u64 Pp, .int .u64 Dd, .int .u64 Mm, .slice A3 n3 c3, .slice A4 n4 c4, .slice A5 n5 c5, .slice A6 n6 c6, .slice A7 n7 c7, .slice A8 n8 c8, .slice A9 n9 c9, .slice A10 n10 c10, .slice A11 n11 c11]) (by simp [results, Tryz.results72, go_sem, r0, r1, r2, r3, r4, r5, r6, r7, r8, r9, r10, r11]) rfl ⟨.inl ⟨.inl h1, rfl⟩, hbe⟩
    · go_enter Tryz.func72, Tryz.ntmps72
      go_wp2_with fail
      rw [show ((w.alloc (.cells #[.int .u64 Pp, .int .u64 Dd, .int .u64 Mm, .slice A3 n3 c3, .slice A4 n4 c4, .slice A5 n5 c5, .slice A6 n6 c6, .slice A7 n7 c7, .slice A8 n8 c8, .slice A9 n9 c9, .slice A10 n10 c10, .slice A11 n11 c11] 35)).alloc (.cells #[.int .i64 r.cls, .int .i64 r.kind, .int .u64 r.frm, .int .i64 r.time, .int .u64 r.key, .int .u64 r.key2, .int .u64 r.key3, .int .i64 r.n, .int .i64 r.m, .string r.a, .string r.b, .string r.c, .slice vA vN vC] 39)).alloc (.cells #[.int .u64 0, .int .u64 0, .int .u64 0, .slice none 0 0, .slice none 0 0, .slice none 0 0, .slice none 0 0, .slice none 0 0, .slice none 0 0, .slice none 0 0, .slice none 0 0, .slice none 0 0] 35) = N from HN.out.symm]
      clear HN
      have s10 := cell_regrown (cell_of_blk k0 10)
      have s11 := cell_regrown (cell_of_blk k0 11)
      have q0 := cell_regrown (cell_of_blk k1 0)
      have q1 := cell_regrown (cell_of_blk k1 1)
      have q2 := cell_regrown (cell_of_blk k1 2)
      have q3 := cell_regrown (cell_of_blk k1 3)
      have q4 := cell_regrown (cell_of_blk k1 4)
      have q5 := cell_regrown (cell_of_blk k1 5)
      have q6 := cell_regrown (cell_of_blk k1 6)
      have q7 := cell_regrown (cell_of_blk k1 7)
      have q8 := cell_regrown (cell_of_blk k1 8)
      have q9 := cell_regrown (cell_of_blk k1 9)
      have q10 := cell_regrown (cell_of_blk k1 10)
      have q11 := cell_regrown (cell_of_blk k1 11)
      have q12 := cell_regrown (cell_of_blk k1 12)
      clear k0 k1
      refine wp_region_ord [] (n := 12) (listed := #[false, false, false, false, false, false, false, false, false, false, false, false]) (by kernel_rfl) rfl rfl ?_
      ((refine wpK_pure (fuel := 11) (listed' := #[true, false, false, false, false, false, false, false, false, false, false, false]) 0 rfl (by kernel_rfl) rfl ?_; (first | go_big_quiet_step (fail) | quiet_step (fail)); refine wpQuiet_nil ?_); (refine wpK_pure (fuel := 10) (listed' := #[true, false, false, false, false, true, false, false, false, false, false, false]) 5 rfl (by kernel_rfl) rfl ?_; (first | go_big_quiet_step (fail) | quiet_step (fail)); refine wpQuiet_nil ?_))
      ((refine wpK_read (fuel := 9) (listed' := #[true, true, false, false, false, true, false, false, false, false, false, false]) 1 (by first | exact regrown_first _ _ | exact regrown_self _) rfl (by kernel_rfl) rfl ?_; (first | go_big_quiet_step (fail) | quiet_step (fail)); refine wpQuiet_nil ?_); (refine wpK_read (fuel := 8) (listed' := #[true, true, true, false, false, true, false, false, false, false, false, false]) 2 (by first | exact regrown_first _ _ | exact regrown_self _) rfl (by kernel_rfl) rfl ?_; (first | go_big_quiet_step (fail) | quiet_step (fail)); refine wpQuiet_nil ?_); (refine wpK_read (fuel := 7) (listed' := #[true, true, true, false, false, true, true, false, false, false, false, false]) 6 (by first | exact regrown_first _ _ | exact regrown_self _) rfl (by kernel_rfl) rfl ?_; (first | go_big_quiet_step (fail) | quiet_step (fail)); refine wpQuiet_nil ?_); (refine wpK_read (fuel := 6) (listed' := #[true, true, true, false, false, true, true, true, false, false, false, false]) 7 (by first | exact regrown_first _ _ | exact regrown_self _) rfl (by kernel_rfl) rfl ?_; (first | go_big_quiet_step (fail) | quiet_step (fail)); refine wpQuiet_nil ?_))
      refine wpK_one (fuel := 5) (listed' := #[true, true, true, true, false, true, true, true, false, false, false, false]) 3 rfl (by kernel_rfl) rfl ?_
      go_wp2_with (go_at_call 120; refine (HMK.out _).mono ?_; rintro e w0 ⟨rfl, hq, hb⟩; have HQ := Lib.hid hq; have HB1 := Lib.hid (below2 (below_redrawn N (N.drawn + 1)) hb); clear hq hb)
      refine ⟨rfl, fun _ _ => regrown_of_below HB1.out, ?_⟩
      refine wpK_one (fuel := 4) (listed' := #[true, true, true, true, true, true, true, true, false, false, false, false]) 4 rfl (by kernel_rfl) rfl ?_
      go_wp2_with fail
      refine (HIX.out w0 _ (below2 HST.out.below HB1.out) HQ.out).mono ?_
      rintro e w1 ⟨rfl, hb⟩
      rw [h1]
      have HB2 := Lib.hid (below2 HB1.out hb)
      clear hb HB1 HQ
      go_wp2_with fail
      refine ⟨rfl, fun _ _ => regrown_of_below HB2.out, ?_⟩
      refine wpK_one (fuel := 3) (listed' := #[true, true, true, true, true, true, true, true, true, false, false, false]) 8 rfl (by kernel_rfl) rfl ?_
      go_wp2_with (go_at_call 122; refine (HMM.out _).mono ?_; rintro e w2 ⟨rfl, hq, hb⟩; have HQ := Lib.hid hq; have HB3 := Lib.hid (below2 HB2.out hb); clear hq hb)
      refine ⟨rfl, fun _ _ => regrown_of_below HB3.out, ?_⟩
      refine wpK_one (fuel := 2) (listed' := #[true, true, true, true, true, true, true, true, true, true, false, false]) 9 rfl (by kernel_rfl) rfl ?_
      go_wp2_with fail
      refine (HIM.out w2 _ (below2 HST.out.below HB3.out) HQ.out).mono ?_
      rintro e w3 ⟨rfl, hb⟩
      rw [h2]
      have HST1 := Lib.hid (HST.out.more (below2 HB3.out hb))
      have HB4 := Lib.hid (below2 HB3.out hb)
      clear hb s10 s11 q0 q1 q2 q3 q4 q5 q6 q7 q8 q9 q10 q11 q12
      go_wp2_with fail
      refine ⟨rfl, fun _ _ => regrown_of_below HB4.out, ?_⟩
      refine wpK_one (fuel := 1) (listed' := #[true, true, true, true, true, true, true, true, true, true, true, false]) 10 rfl (by kernel_rfl) rfl ?_
      go_wp2_with fail
      refine ⟨rfl, fun _ h => h, ?_⟩
      refine wpK_one (fuel := 0) (listed' := #[true, true, true, true, true, true, true, true, true, true, true, true]) 11 rfl (by kernel_rfl) rfl ?_
      go_wp2_with fail
      refine ⟨rfl, fun _ h => h, ?_⟩
      refine wpK_end rfl ?_
      clear HB2 HB3 HB4 HQ HST HIX HIM
      have k0 := HST1.out.k0
      have k2 := HST1.out.k2
      have KZ := Lib.hid k2
      have HWB := Lib.hid HST1.out.below
      have s0 := cell_of_blk k0 0
      have s1 := cell_of_blk k0 1
      have s2 := cell_of_blk k0 2
      have s3 := cell_of_blk k0 3
      have s4 := cell_of_blk k0 4
      have s5 := cell_of_blk k0 5
      have s6 := cell_of_blk k0 6
      have s7 := cell_of_blk k0 7
      have s8 := cell_of_blk k0 8
      have s9 := cell_of_blk k0 9
      have s10 := cell_of_blk k0 10
      have s11 := cell_of_blk k0 11
      have f0 := frozen_of_blk k0 0
      have f1 := frozen_of_blk k0 1
      have f2 := frozen_of_blk k0 2
      have f3 := frozen_of_blk k0 3
      have f4 := frozen_of_blk k0 4
      have f5 := frozen_of_blk k0 5
      have f6 := frozen_of_blk k0 6
      have f7 := frozen_of_blk k0 7
      have f8 := frozen_of_blk k0 8
      have f9 := frozen_of_blk k0 9
      have f10 := frozen_of_blk k0 10
      have f11 := frozen_of_blk k0 11
      have z0 := cell_of_blk k2 0
      have z1 := cell_of_blk k2 1
      have z2 := cell_of_blk k2 2
      have z3 := cell_of_blk k2 3
      have z4 := cell_of_blk k2 4
      have z5 := cell_of_blk k2 5
      have z6 := cell_of_blk k2 6
      have z7 := cell_of_blk k2 7
      have z8 := cell_of_blk k2 8
      have z9 := cell_of_blk k2 9
      have z10 := cell_of_blk k2 10
      have z11 := cell_of_blk k2 11
      have g0 := frozen_of_blk k2 0
      have g1 := frozen_of_blk k2 1
      have g2 := frozen_of_blk k2 2
      have g3 := frozen_of_blk k2 3
      have g4 := frozen_of_blk k2 4
      have g5 := frozen_of_blk k2 5
      have g6 := frozen_of_blk k2 6
      have g7 := frozen_of_blk k2 7
      have g8 := frozen_of_blk k2 8
      have g9 := frozen_of_blk k2 9
      have g10 := frozen_of_blk k2 10
      have g11 := frozen_of_blk k2 11
      clear k0 k2
      go_wp2_with fail
      generalize hWE : World.setCell (World.setCell (World.setCell (World.setCell (World.setCell (World.setCell (World.setCell (World.setCell (World.setCell (World.setCell (World.setCell (World.setCell (_) _ _) _ _) _ _) _ _) _ _) _ _) _ _) _ _) _ _) _ _) _ _) _ _ = WE
      have ho : WE.heap[w.heap.size + 1 + 1]? = some (.cells #[.int .u64 Pp, .int .u64 Dd, .int .u64 Mm, .slice A3 n3 c3, .slice A4 n4 c4, .slice A5 n5 c5, .slice A6 n6 c6, .slice A7 n7 c7, .slice A8 n8 c8, .slice A9 n9 c9, .slice A10 n10 c10, .slice A11 n11 c11] 35 (0, 0)) := by rw [← hWE]; exact set_blk12 (KZ.out) (.int .u64 Pp) (.int .u64 Dd) (.int .u64 Mm) (.slice A3 n3 c3) (.slice A4 n4 c4) (.slice A5 n5 c5) (.slice A6 n6 c6) (.slice A7 n7 c7) (.slice A8 n8 c8) (.slice A9 n9 c9) (.slice A10 n10 c10) (.slice A11 n11 c11)
      have hbe : Below w.heap.size w WE := by rw [← hWE]; exact ((((((((((((HWB.out).setCell (p := ⟨w.heap.size + 1 + 1, 0, none⟩) (by show _ ≤ _ + 1 + 1; omega) _).setCell (p := ⟨w.heap.size + 1 + 1, 1, none⟩) (by show _ ≤ _ + 1 + 1; omega) _).setCell (p := ⟨w.heap.size + 1 + 1, 2, none⟩) (by show _ ≤ _ + 1 + 1; omega) _).setCell (p := ⟨w.heap.size + 1 + 1, 3, none⟩) (by show _ ≤ _ + 1 + 1; omega) _).setCell (p := ⟨w.heap.size + 1 + 1, 4, none⟩) (by show _ ≤ _ + 1 + 1; omega) _).setCell (p := ⟨w.heap.size + 1 + 1, 5, none⟩) (by show _ ≤ _ + 1 + 1; omega) _).setCell (p := ⟨w.heap.size + 1 + 1, 6, none⟩) (by show _ ≤ _ + 1 + 1; omega) _).setCell (p := ⟨w.heap.size + 1 + 1, 7, none⟩) (by show _ ≤ _ + 1 + 1; omega) _).setCell (p := ⟨w.heap.size + 1 + 1, 8, none⟩) (by show _ ≤ _ + 1 + 1; omega) _).setCell (p := ⟨w.heap.size + 1 + 1, 9, none⟩) (by show _ ≤ _ + 1 + 1; omega) _).setCell (p := ⟨w.heap.size + 1 + 1, 10, none⟩) (by show _ ≤ _ + 1 + 1; omega) _).setCell (p := ⟨w.heap.size + 1 + 1, 11, none⟩) (by show _ ≤ _ + 1 + 1; omega) _
      have hmu : Mut (fun b => b = w.heap.size ∨ b = w.heap.size + 1 + 1) w3 WE := by
        rw [← hWE]
        exact Mut.setCell (T := fun b => b = w.heap.size ∨ b = w.heap.size + 1 + 1) (Mut.setCell (T := fun b => b = w.heap.size ∨ b = w.heap.size + 1 + 1) (Mut.setCell (T := fun b => b = w.heap.size ∨ b = w.heap.size + 1 + 1) (Mut.setCell (T := fun b => b = w.heap.size ∨ b = w.heap.size + 1 + 1) (Mut.setCell (T := fun b => b = w.heap.size ∨ b = w.heap.size + 1 + 1) (Mut.setCell (T := fun b => b = w.heap.size ∨ b = w.heap.size + 1 + 1) (Mut.setCell (T := fun b => b = w.heap.size ∨ b = w.heap.size + 1 + 1) (Mut.setCell (T := fun b => b = w.heap.size ∨ b = w.heap.size + 1 + 1) (Mut.setCell (T := fun b => b = w.heap.size ∨ b = w.heap.size + 1 + 1) (Mut.setCell (T := fun b => b = w.heap.size ∨ b = w.heap.size + 1 + 1) (Mut.setCell (T := fun b => b = w.heap.size ∨ b = w.heap.size + 1 + 1) (Mut.setCell (T := fun b => b = w.heap.size ∨ b = w.heap.size + 1 + 1) (Mut.refl _ _) (p := ⟨w.heap.size + 1 + 1, 0, none⟩) (fun _ => .inr rfl) _) (p := ⟨w.heap.size + 1 + 1, 1, none⟩) (fun _ => .inr rfl) _) (p := ⟨w.heap.size + 1 + 1, 2, none⟩) (fun _ => .inr rfl) _) (p := ⟨w.heap.size + 1 + 1, 3, none⟩) (fun _ => .inr rfl) _) (p := ⟨w.heap.size + 1 + 1, 4, none⟩) (fun _ => .inr rfl) _) (p := ⟨w.heap.size + 1 + 1, 5, none⟩) (fun _ => .inr rfl) _) (p := ⟨w.heap.size + 1 + 1, 6, none⟩) (fun _ => .inr rfl) _) (p := ⟨w.heap.size + 1 + 1, 7, none⟩) (fun _ => .inr rfl) _) (p := ⟨w.heap.size + 1 + 1, 8, none⟩) (fun _ => .inr rfl) _) (p := ⟨w.heap.size + 1 + 1, 9, none⟩) (fun _ => .inr rfl) _) (p := ⟨w.heap.size + 1 + 1, 10, none⟩) (fun _ => .inr rfl) _) (p := ⟨w.heap.size + 1 + 1, 11, none⟩) (fun _ => .inr rfl) _
      have r0 := cell_of_blk ho 0
      have r1 := cell_of_blk ho 1
      have r2 := cell_of_blk ho 2
      have r3 := cell_of_blk ho 3
      have r4 := cell_of_blk ho 4
      have r5 := cell_of_blk ho 5
      have r6 := cell_of_blk ho 6
      have r7 := cell_of_blk ho 7
      have r8 := cell_of_blk ho 8
      have r9 := cell_of_blk ho 9
      have r10 := cell_of_blk ho 10
      have r11 := cell_of_blk ho 11
      refine bodyPost_ret (v := .agg #[.int .u64 Pp, .int .u64 Dd, .int .u64 Mm, .slice A3 n3 c3, .slice A4 n4 c4, .slice A5 n5 c5, .slice A6 n6 c6, .slice A7 n7 c7, .slice A8 n8 c8, .slice A9 n9 c9, .slice A10 n10 c10, .slice A11 n11 c11]) (by simp [results, Tryz.results72, go_sem, r0, r1, r2, r3, r4, r5, r6, r7, r8, r9, r10, r11]) rfl ⟨.inl ⟨.inl h1, rfl⟩, hbe⟩
  · have hi0 : ¬ ((i : Int) < 0) := by omega
    rcases idxP_spec (fun x : EMsg => x.key == r.key2) lm with ⟨h2, -⟩ | ⟨j, hj, h2, -, -⟩
    · go_enter Tryz.func72, Tryz.ntmps72
      go_wp2_with fail
      rw [show ((w.alloc (.cells #[.int .u64 Pp, .int .u64 Dd, .int .u64 Mm, .slice A3 n3 c3, .slice A4 n4 c4, .slice A5 n5 c5, .slice A6 n6 c6, .slice A7 n7 c7, .slice A8 n8 c8, .slice A9 n9 c9, .slice A10 n10 c10, .slice A11 n11 c11] 35)).alloc (.cells #[.int .i64 r.cls, .int .i64 r.kind, .int .u64 r.frm, .int .i64 r.time, .int .u64 r.key, .int .u64 r.key2, .int .u64 r.key3, .int .i64 r.n, .int .i64 r.m, .string r.a, .string r.b, .string r.c, .slice vA vN vC] 39)).alloc (.cells #[.int .u64 0, .int .u64 0, .int .u64 0, .slice none 0 0, .slice none 0 0, .slice none 0 0, .slice none 0 0, .slice none 0 0, .slice none 0 0, .slice none 0 0, .slice none 0 0, .slice none 0 0] 35) = N from HN.out.symm]
      clear HN
      have s10 := cell_regrown (cell_of_blk k0 10)
      have s11 := cell_regrown (cell_of_blk k0 11)
      have q0 := cell_regrown (cell_of_blk k1 0)
      have q1 := cell_regrown (cell_of_blk k1 1)
      have q2 := cell_regrown (cell_of_blk k1 2)
      have q3 := cell_regrown (cell_of_blk k1 3)
      have q4 := cell_regrown (cell_of_blk k1 4)
      have q5 := cell_regrown (cell_of_blk k1 5)
      have q6 := cell_regrown (cell_of_blk k1 6)
      have q7 := cell_regrown (cell_of_blk k1 7)
      have q8 := cell_regrown (cell_of_blk k1 8)
      have q9 := cell_regrown (cell_of_blk k1 9)
      have q10 := cell_regrown (cell_of_blk k1 10)
      have q11 := cell_regrown (cell_of_blk k1 11)
      have q12 := cell_regrown (cell_of_blk k1 12)
      clear k0 k1
      refine wp_region_ord [] (n := 12) (listed := #[false, false, false, false, false, false, false, false, false, false, false, false]) (by kernel_rfl) rfl rfl ?_
      ((refine wpK_pure (fuel := 11) (listed' := #[true, false, false, false, false, false, false, false, false, false, false, false]) 0 rfl (by kernel_rfl) rfl ?_; (first | go_big_quiet_step (fail) | quiet_step (fail)); refine wpQuiet_nil ?_); (refine wpK_pure (fuel := 10) (listed' := #[true, false, false, false, false, true, false, false, false, false, false, false]) 5 rfl (by kernel_rfl) rfl ?_; (first | go_big_quiet_step (fail) | quiet_step (fail)); refine wpQuiet_nil ?_))
      ((refine wpK_read (fuel := 9) (listed' := #[true, true, false, false, false, true, false, false, false, false, false, false]) 1 (by first | exact regrown_first _ _ | exact regrown_self _) rfl (by kernel_rfl) rfl ?_; (first | go_big_quiet_step (fail) | quiet_step (fail)); refine wpQuiet_nil ?_); (refine wpK_read (fuel := 8) (listed' := #[true, true, true, false, false, true, false, false, false, false, false, false]) 2 (by first | exact regrown_first _ _ | exact regrown_self _) rfl (by kernel_rfl) rfl ?_; (first | go_big_quiet_step (fail) | quiet_step (fail)); refine wpQuiet_nil ?_); (refine wpK_read (fuel := 7) (listed' := #[true, true, true, false, false, true, true, false, false, false, false, false]) 6 (by first | exact regrown_first _ _ | exact regrown_self _) rfl (by kernel_rfl) rfl ?_; (first | go_big_quiet_step (fail) | quiet_step (fail)); refine wpQuiet_nil ?_); (refine wpK_read (fuel := 6) (listed' := #[true, true, true, false, false, true, true, true, false, false, false, false]) 7 (by first | exact regrown_first _ _ | exact regrown_self _) rfl (by kernel_rfl) rfl ?_; (first | go_big_quiet_step (fail) | quiet_step (fail)); refine wpQuiet_nil ?_))
      refine wpK_one (fuel := 5) (listed' := #[true, true, true, true, false, true, true, true, false, false, false, false]) 3 rfl (by kernel_rfl) rfl ?_
      go_wp2_with (go_at_call 120; refine (HMK.out _).mono ?_; rintro e w0 ⟨rfl, hq, hb⟩; have HQ := Lib.hid hq; have HB1 := Lib.hid (below2 (below_redrawn N (N.drawn + 1)) hb); clear hq hb)
      refine ⟨rfl, fun _ _ => regrown_of_below HB1.out, ?_⟩
      refine wpK_one (fuel := 4) (listed' := #[true, true, true, true, true, true, true, true, false, false, false, false]) 4 rfl (by kernel_rfl) rfl ?_
      go_wp2_with fail
      refine (HIX.out w0 _ (below2 HST.out.below HB1.out) HQ.out).mono ?_
      rintro e w1 ⟨rfl, hb⟩
      rw [h1]
      have HB2 := Lib.hid (below2 HB1.out hb)
      clear hb HB1 HQ
      go_wp2_with fail
      refine ⟨rfl, fun _ _ => regrown_of_below HB2.out, ?_⟩
      refine wpK_one (fuel := 3) (listed' := #[true, true, true, true, true, true, true, true, true, false, false, false]) 8 rfl (by kernel_rfl) rfl ?_
      go_wp2_with (go_at_call 122; refine (HMM.out _).mono ?_; rintro e w2 ⟨rfl, hq, hb⟩; have HQ := Lib.hid hq; have HB3 := Lib.hid (below2 HB2.out hb); clear hq hb)
      refine ⟨rfl, fun _ _ => regrown_of_below HB3.out, ?_⟩
      refine wpK_one (fuel := 2) (listed' := #[true, true, true, true, true, true, true, true, true, true, false, false]) 9 rfl (by kernel_rfl) rfl ?_
      go_wp2_with fail
      refine (HIM.out w2 _ (below2 HST.out.below HB3.out) HQ.out).mono ?_
      rintro e w3 ⟨rfl, hb⟩
      rw [h2]
      have HST1 := Lib.hid (HST.out.more (below2 HB3.out hb))
      have HB4 := Lib.hid (below2 HB3.out hb)
      clear hb s10 s11 q0 q1 q2 q3 q4 q5 q6 q7 q8 q9 q10 q11 q12
      go_wp2_with fail
      refine ⟨rfl, fun _ _ => regrown_of_below HB4.out, ?_⟩
      refine wpK_one (fuel := 1) (listed' := #[true, true, true, true, true, true, true, true, true, true, true, false]) 10 rfl (by kernel_rfl) rfl ?_
      go_wp2_with fail
      refine ⟨rfl, fun _ h => h, ?_⟩
      refine wpK_one (fuel := 0) (listed' := #[true, true, true, true, true, true, true, true, true, true, true, true]) 11 rfl (by kernel_rfl) rfl ?_
      go_wp2_with fail
      refine ⟨rfl, fun _ h => h, ?_⟩
      refine wpK_end rfl ?_
      clear HB2 HB3 HB4 HQ HST HIX HIM
      have k0 := HST1.out.k0
      have k2 := HST1.out.k2
      have KZ := Lib.hid k2
      have HWB := Lib.hid HST1.out.below
      have s0 := cell_of_blk k0 0
      have s1 := cell_of_blk k0 1
      have s2 := cell_of_blk k0 2
      have s3 := cell_of_blk k0 3
      have s4 := cell_of_blk k0 4
      have s5 := cell_of_blk k0 5
      have s6 := cell_of_blk k0 6
      have s7 := cell_of_blk k0 7
      have s8 := cell_of_blk k0 8
      have s9 := cell_of_blk k0 9
      have s10 := cell_of_blk k0 10
      have s11 := cell_of_blk k0 11
      have f0 := frozen_of_blk k0 0
      have f1 := frozen_of_blk k0 1
      have f2 := frozen_of_blk k0 2
      have f3 := frozen_of_blk k0 3
      have f4 := frozen_of_blk k0 4
      have f5 := frozen_of_blk k0 5
      have f6 := frozen_of_blk k0 6
      have f7 := frozen_of_blk k0 7
      have f8 := frozen_of_blk k0 8
      have f9 := frozen_of_blk k0 9
      have f10 := frozen_of_blk k0 10
      have f11 := frozen_of_blk k0 11
      have z0 := cell_of_blk k2 0
      have z1 := cell_of_blk k2 1
      have z2 := cell_of_blk k2 2
      have z3 := cell_of_blk k2 3
      have z4 := cell_of_blk k2 4
      have z5 := cell_of_blk k2 5
      have z6 := cell_of_blk k2 6
      have z7 := cell_of_blk k2 7
      have z8 := cell_of_blk k2 8
      have z9 := cell_of_blk k2 9
      have z10 := cell_of_blk k2 10
      have z11 := cell_of_blk k2 11
      have g0 := frozen_of_blk k2 0
      have g1 := frozen_of_blk k2 1
      have g2 := frozen_of_blk k2 2
      have g3 := frozen_of_blk k2 3
      have g4 := frozen_of_blk k2 4
      have g5 := frozen_of_blk k2 5
      have g6 := frozen_of_blk k2 6
      have g7 := frozen_of_blk k2 7
      have g8 := frozen_of_blk k2 8
      have g9 := frozen_of_blk k2 9
      have g10 := frozen_of_blk k2 10
      have g11 := frozen_of_blk k2 11
      clear k0 k2
      go_wp2_with fail
      generalize hWE : World.setCell (World.setCell (World.setCell (World.setCell (World.setCell (World.setCell (World.setCell (World.setCell (World.setCell (World.setCell (World.setCell (World.setCell (_) _ _) _ _) _ _) _ _) _ _) _ _) _ _) _ _) _ _) _ _) _ _) _ _ = WE
      have ho : WE.heap[w.heap.size + 1 + 1]? = some (.cells #[.int .u64 Pp, .int .u64 Dd, .int .u64 Mm, .slice A3 n3 c3, .slice A4 n4 c4, .slice A5 n5 c5, .slice A6 n6 c6, .slice A7 n7 c7, .slice A8 n8 c8, .slice A9 n9 c9, .slice A10 n10 c10, .slice A11 n11 c11] 35 (0, 0)) := by rw [← hWE]; exact set_blk12 (KZ.out) (.int .u64 Pp) (.int .u64 Dd) (.int .u64 Mm) (.slice A3 n3 c3) (.slice A4 n4 c4) (.slice A5 n5 c5) (.slice A6 n6 c6) (.slice A7 n7 c7) (.slice A8 n8 c8) (.slice A9 n9 c9) (.slice A10 n10 c10) (.slice A11 n11 c11)
      have hbe : Below w.heap.size w WE := by rw [← hWE]; exact ((((((((((((HWB.out).setCell (p := ⟨w.heap.size + 1 + 1, 0, none⟩) (by show _ ≤ _ + 1 + 1; omega) _).setCell (p := ⟨w.heap.size + 1 + 1, 1, none⟩) (by show _ ≤ _ + 1 + 1; omega) _).setCell (p := ⟨w.heap.size + 1 + 1, 2, none⟩) (by show _ ≤ _ + 1 + 1; omega) _).setCell (p := ⟨w.heap.size + 1 + 1, 3, none⟩) (by show _ ≤ _ + 1 + 1; omega) _).setCell (p := ⟨w.heap.size + 1 + 1, 4, none⟩) (by show _ ≤ _ + 1 + 1; omega) _).setCell (p := ⟨w.heap.size + 1 + 1, 5, none⟩) (by show _ ≤ _ + 1 + 1; omega) _).setCell (p := ⟨w.heap.size + 1 + 1, 6, none⟩) (by show _ ≤ _ + 1 + 1; omega) _).setCell (p := ⟨w.heap.size + 1 + 1, 7, none⟩) (by show _ ≤ _ + 1 + 1; omega) _).setCell (p := ⟨w.heap.size + 1 + 1, 8, none⟩) (by show _ ≤ _ + 1 + 1; omega) _).setCell (p := ⟨w.heap.size + 1 + 1, 9, none⟩) (by show _ ≤ _ + 1 + 1; omega) _).setCell (p := ⟨w.heap.size + 1 + 1, 10, none⟩) (by show _ ≤ _ + 1 + 1; omega) _).setCell (p := ⟨w.heap.size + 1 + 1, 11, none⟩) (by show _ ≤ _ + 1 + 1; omega) _
      have hmu : Mut (fun b => b = w.heap.size ∨ b = w.heap.size + 1 + 1) w3 WE := by
        rw [← hWE]
        exact Mut.setCell (T := fun b => b = w.heap.size ∨ b = w.heap.size + 1 + 1) (Mut.setCell (T := fun b => b = w.heap.size ∨ b = w.heap.size + 1 + 1) (Mut.setCell (T := fun b => b = w.heap.size ∨ b = w.heap.size + 1 + 1) (Mut.setCell (T := fun b => b = w.heap.size ∨ b = w.heap.size + 1 + 1) (Mut.setCell (T := fun b => b = w.heap.size ∨ b = w.heap.size + 1 + 1) (Mut.setCell (T := fun b => b = w.heap.size ∨ b = w.heap.size + 1 + 1) (Mut.setCell (T := fun b => b = w.heap.size ∨ b = w.heap.size + 1 + 1) (Mut.setCell (T := fun b => b = w.heap.size ∨ b = w.heap.size + 1 + 1) (Mut.setCell (T := fun b => b = w.heap.size ∨ b = w.heap.size + 1 + 1) (Mut.setCell (T := fun b => b = w.heap.size ∨ b = w.heap.size + 1 + 1) (Mut.setCell (T := fun b => b = w.heap.size ∨ b = w.heap.size + 1 + 1) (Mut.setCell (T := fun b => b = w.heap.size ∨ b = w.heap.size + 1 + 1) (Mut.refl _ _) (p := ⟨w.heap.size + 1 + 1, 0, none⟩) (fun _ => .inr rfl) _) (p := ⟨w.heap.size + 1 + 1, 1, none⟩) (fun _ => .inr rfl) _) (p := ⟨w.heap.size + 1 + 1, 2, none⟩) (fun _ => .inr rfl) _) (p := ⟨w.heap.size + 1 + 1, 3, none⟩) (fun _ => .inr rfl) _) (p := ⟨w.heap.size + 1 + 1, 4, none⟩) (fun _ => .inr rfl) _) (p := ⟨w.heap.size + 1 + 1, 5, none⟩) (fun _ => .inr rfl) _) (p := ⟨w.heap.size + 1 + 1, 6, none⟩) (fun _ => .inr rfl) _) (p := ⟨w.heap.size + 1 + 1, 7, none⟩) (fun _ => .inr rfl) _) (p := ⟨w.heap.size + 1 + 1, 8, none⟩) (fun _ => .inr rfl) _) (p := ⟨w.heap.size + 1 + 1, 9, none⟩) (fun _ => .inr rfl) _) (p := ⟨w.heap.size + 1 + 1, 10, none⟩) (fun _ => .inr rfl) _) (p := ⟨w.heap.size + 1 + 1, 11, none⟩) (fun _ => .inr rfl) _
      have r0 := cell_of_blk ho 0
      have r1 := cell_of_blk ho 1
      have r2 := cell_of_blk ho 2
      have r3 := cell_of_blk ho 3
      have r4 := cell_of_blk ho 4
      have r5 := cell_of_blk ho 5
      have r6 := cell_of_blk ho 6
      have r7 := cell_of_blk ho 7
      have r8 := cell_of_blk ho 8
      have r9 := cell_of_blk ho 9
      have r10 := cell_of_blk ho 10
      have r11 := cell_of_blk ho 11
      refine bodyPost_ret (v := .agg #[.int .u64 Pp, .int .u64 Dd, .int .u64 Mm, .slice A3 n3 c3, .slice A4 n4 c4, .slice A5 n5 c5, .slice A6 n6 c6, .slice A7 n7 c7, .slice A8 n8 c8, .slice A9 n9 c9, .slice A10 n10 c10, .slice A11 n11 c11]) (by simp [results, Tryz.results72, go_sem, r0, r1, r2, r3, r4, r5, r6, r7, r8, r9, r10, r11]) rfl ⟨.inl ⟨.inr h2, rfl⟩, hbe⟩
    · have HI := Lib.hid hi
      have HJ := Lib.hid hj
      have hin : i < n10 := by have := HL10.out; omega
      have hjn : j < n11 := by have := HL11.out; omega
      have hj0 : ¬ ((j : Int) < 0) := by omega
      obtain ⟨b, o, hA, _, hlt, hc⟩ := HR10.out.at_ (by omega)
      have HA := Lib.hid hA
      have c1 : w.cell? ⟨b, o + i * 7 + 1, none⟩ = some (.int .u64 (ll[i]'HI.out).inst) := hc i 1 _ ((flat_at (enc := encLst) lenLst hi 1 (by decide)).trans rfl)
      have C1 := Lib.hid c1
      have HLT := Lib.hid hlt
      clear c1 hc hlt hA
      obtain ⟨b', o', hA, _, hlt, hc⟩ := HR11.out.at_ (by omega)
      have HA2 := Lib.hid hA
      have c2 : w.cell? ⟨b', o' + j * 7 + 5, none⟩ = some (.slice (lm[j]'HJ.out).vA (lm[j]'HJ.out).vN (lm[j]'HJ.out).vC) := hc j 5 _ ((flat_at (enc := encMsg) lenMsg hj 5 (by decide)).trans rfl)
      have C2 := Lib.hid c2
      have HLT2 := Lib.hid hlt
      have HV := Lib.hid (HIV.out (lm[j]'HJ.out) (List.getElem_mem HJ.out))
      clear c2 hc hlt hA hi hj HIV
      go_enter Tryz.func72, Tryz.ntmps72
      go_wp2_with fail
      rw [show ((w.alloc (.cells #[.int .u64 Pp, .int .u64 Dd, .int .u64 Mm, .slice A3 n3 c3, .slice A4 n4 c4, .slice A5 n5 c5, .slice A6 n6 c6, .slice A7 n7 c7, .slice A8 n8 c8, .slice A9 n9 c9, .slice A10 n10 c10, .slice A11 n11 c11] 35)).alloc (.cells #[.int .i64 r.cls, .int .i64 r.kind, .int .u64 r.frm, .int .i64 r.time, .int .u64 r.key, .int .u64 r.key2, .int .u64 r.key3, .int .i64 r.n, .int .i64 r.m, .string r.a, .string r.b, .string r.c, .slice vA vN vC] 39)).alloc (.cells #[.int .u64 0, .int .u64 0, .int .u64 0, .slice none 0 0, .slice none 0 0, .slice none 0 0, .slice none 0 0, .slice none 0 0, .slice none 0 0, .slice none 0 0, .slice none 0 0, .slice none 0 0] 35) = N from HN.out.symm]
      clear HN
      have s10 := cell_regrown (cell_of_blk k0 10)
      have s11 := cell_regrown (cell_of_blk k0 11)
      have q0 := cell_regrown (cell_of_blk k1 0)
      have q1 := cell_regrown (cell_of_blk k1 1)
      have q2 := cell_regrown (cell_of_blk k1 2)
      have q3 := cell_regrown (cell_of_blk k1 3)
      have q4 := cell_regrown (cell_of_blk k1 4)
      have q5 := cell_regrown (cell_of_blk k1 5)
      have q6 := cell_regrown (cell_of_blk k1 6)
      have q7 := cell_regrown (cell_of_blk k1 7)
      have q8 := cell_regrown (cell_of_blk k1 8)
      have q9 := cell_regrown (cell_of_blk k1 9)
      have q10 := cell_regrown (cell_of_blk k1 10)
      have q11 := cell_regrown (cell_of_blk k1 11)
      have q12 := cell_regrown (cell_of_blk k1 12)
      clear k0 k1
      refine wp_region_ord [] (n := 12) (listed := #[false, false, false, false, false, false, false, false, false, false, false, false]) (by kernel_rfl) rfl rfl ?_
      ((refine wpK_pure (fuel := 11) (listed' := #[true, false, false, false, false, false, false, false, false, false, false, false]) 0 rfl (by kernel_rfl) rfl ?_; (first | go_big_quiet_step (fail) | quiet_step (fail)); refine wpQuiet_nil ?_); (refine wpK_pure (fuel := 10) (listed' := #[true, false, false, false, false, true, false, false, false, false, false, false]) 5 rfl (by kernel_rfl) rfl ?_; (first | go_big_quiet_step (fail) | quiet_step (fail)); refine wpQuiet_nil ?_))
      ((refine wpK_read (fuel := 9) (listed' := #[true, true, false, false, false, true, false, false, false, false, false, false]) 1 (by first | exact regrown_first _ _ | exact regrown_self _) rfl (by kernel_rfl) rfl ?_; (first | go_big_quiet_step (fail) | quiet_step (fail)); refine wpQuiet_nil ?_); (refine wpK_read (fuel := 8) (listed' := #[true, true, true, false, false, true, false, false, false, false, false, false]) 2 (by first | exact regrown_first _ _ | exact regrown_self _) rfl (by kernel_rfl) rfl ?_; (first | go_big_quiet_step (fail) | quiet_step (fail)); refine wpQuiet_nil ?_); (refine wpK_read (fuel := 7) (listed' := #[true, true, true, false, false, true, true, false, false, false, false, false]) 6 (by first | exact regrown_first _ _ | exact regrown_self _) rfl (by kernel_rfl) rfl ?_; (first | go_big_quiet_step (fail) | quiet_step (fail)); refine wpQuiet_nil ?_); (refine wpK_read (fuel := 6) (listed' := #[true, true, true, false, false, true, true, true, false, false, false, false]) 7 (by first | exact regrown_first _ _ | exact regrown_self _) rfl (by kernel_rfl) rfl ?_; (first | go_big_quiet_step (fail) | quiet_step (fail)); refine wpQuiet_nil ?_))
      refine wpK_one (fuel := 5) (listed' := #[true, true, true, true, false, true, true, true, false, false, false, false]) 3 rfl (by kernel_rfl) rfl ?_
      go_wp2_with (go_at_call 120; refine (HMK.out _).mono ?_; rintro e w0 ⟨rfl, hq, hb⟩; have HQ := Lib.hid hq; have HB1 := Lib.hid (below2 (below_redrawn N (N.drawn + 1)) hb); clear hq hb)
      refine ⟨rfl, fun _ _ => regrown_of_below HB1.out, ?_⟩
      refine wpK_one (fuel := 4) (listed' := #[true, true, true, true, true, true, true, true, false, false, false, false]) 4 rfl (by kernel_rfl) rfl ?_
      go_wp2_with fail
      refine (HIX.out w0 _ (below2 HST.out.below HB1.out) HQ.out).mono ?_
      rintro e w1 ⟨rfl, hb⟩
      rw [h1]
      have HB2 := Lib.hid (below2 HB1.out hb)
      clear hb HB1 HQ
      go_wp2_with fail
      refine ⟨rfl, fun _ _ => regrown_of_below HB2.out, ?_⟩
      refine wpK_one (fuel := 3) (listed' := #[true, true, true, true, true, true, true, true, true, false, false, false]) 8 rfl (by kernel_rfl) rfl ?_
      go_wp2_with (go_at_call 122; refine (HMM.out _).mono ?_; rintro e w2 ⟨rfl, hq, hb⟩; have HQ := Lib.hid hq; have HB3 := Lib.hid (below2 HB2.out hb); clear hq hb)
      refine ⟨rfl, fun _ _ => regrown_of_below HB3.out, ?_⟩
      refine wpK_one (fuel := 2) (listed' := #[true, true, true, true, true, true, true, true, true, true, false, false]) 9 rfl (by kernel_rfl) rfl ?_
      go_wp2_with fail
      refine (HIM.out w2 _ (below2 HST.out.below HB3.out) HQ.out).mono ?_
      rintro e w3 ⟨rfl, hb⟩
      rw [h2]
      have HST1 := Lib.hid (HST.out.more (below2 HB3.out hb))
      have HB4 := Lib.hid (below2 HB3.out hb)
      clear hb s10 s11 q0 q1 q2 q3 q4 q5 q6 q7 q8 q9 q10 q11 q12
      go_wp2_with fail
      refine ⟨rfl, fun _ _ => regrown_of_below HB4.out, ?_⟩
      refine wpK_one (fuel := 1) (listed' := #[true, true, true, true, true, true, true, true, true, true, true, false]) 10 rfl (by kernel_rfl) rfl ?_
      go_wp2_with fail
      refine ⟨rfl, fun _ h => h, ?_⟩
      refine wpK_one (fuel := 0) (listed' := #[true, true, true, true, true, true, true, true, true, true, true, true]) 11 rfl (by kernel_rfl) rfl ?_
      go_wp2_with fail
      refine ⟨rfl, fun _ h => h, ?_⟩
      refine wpK_end rfl ?_
      clear HB2 HB3 HB4 HQ HST HIX HIM
      have k0 := HST1.out.k0
      go_wp2_with fail
      have s10 := cell_regrown (cell_of_blk k0 10)
      have s11 := cell_regrown (cell_of_blk k0 11)
      have c1 := cell_regrown ((HST1.out.below.cell (p := ⟨b, o + i * 7 + 1, none⟩) HLT.out).trans C1.out)
      have c2 := cell_regrown ((HST1.out.below.cell (p := ⟨b', o' + j * 7 + 5, none⟩) HLT2.out).trans C2.out)
      rw [HA.out] at s10
      rw [HA2.out] at s11
      clear k0 C1 HLT C2 HLT2
      generalize hxx : ll[i]'HI.out = x at *
      have HX := Lib.hid hxx
      clear hxx
      generalize hyy : lm[j]'HJ.out = y at *
      have HY := Lib.hid hyy
      clear hyy
      refine wp_region_ord [15] (n := 16) (listed := #[false, false, false, false, false, false, false, false, false, false, false, false, false, false, false, false]) (by kernel_rfl) rfl rfl ?_
      ((refine wpK_pure (fuel := 15) (listed' := #[true, false, false, false, false, false, false, false, false, false, false, false, false, false, false, false]) 0 rfl (by kernel_rfl) rfl ?_; (first | go_big_quiet_step (fail) | quiet_step (fail)); refine wpQuiet_nil ?_); (refine wpK_pure (fuel := 14) (listed' := #[true, false, true, false, false, false, false, false, false, false, false, false, false, false, false, false]) 2 rfl (by kernel_rfl) rfl ?_; (first | go_big_quiet_step (fail) | quiet_step (fail)); refine wpQuiet_nil ?_); (refine wpK_pure (fuel := 13) (listed' := #[true, false, true, false, false, false, true, false, false, false, false, false, false, false, false, false]) 6 rfl (by kernel_rfl) rfl ?_; (first | go_big_quiet_step (fail) | quiet_step (fail)); refine wpQuiet_nil ?_); (refine wpK_pure (fuel := 12) (listed' := #[true, false, true, false, false, false, true, false, true, false, false, false, false, false, false, false]) 8 rfl (by kernel_rfl) rfl ?_; (first | go_big_quiet_step (fail) | quiet_step (fail)); refine wpQuiet_nil ?_))
      ((refine wpK_read (fuel := 11) (listed' := #[true, true, true, false, false, false, true, false, true, false, false, false, false, false, false, false]) 1 (by first | exact regrown_first _ _ | exact regrown_self _) rfl (by kernel_rfl) rfl ?_; (first | go_big_quiet_step (fail) | quiet_step (fail)); refine wpQuiet_nil ?_); (refine wpK_read (fuel := 10) (listed' := #[true, true, true, false, false, false, true, true, true, false, false, false, false, false, false, false]) 7 (by first | exact regrown_first _ _ | exact regrown_self _) rfl (by kernel_rfl) rfl ?_; (first | go_big_quiet_step (fail) | quiet_step (fail)); refine wpQuiet_nil ?_))
      ((refine wpK_pure (fuel := 9) (listed' := #[true, true, true, true, false, false, true, true, true, false, false, false, false, false, false, false]) 3 rfl (by kernel_rfl) rfl ?_; (first | go_big_quiet_step (fail) | quiet_step (fail)); refine wpQuiet_nil ?_); (refine wpK_pure (fuel := 8) (listed' := #[true, true, true, true, true, false, true, true, true, false, false, false, false, false, false, false]) 4 rfl (by kernel_rfl) rfl ?_; (first | go_big_quiet_step (fail) | quiet_step (fail)); refine wpQuiet_nil ?_); (refine wpK_pure (fuel := 7) (listed' := #[true, true, true, true, true, false, true, true, true, true, false, false, false, false, false, false]) 9 rfl (by kernel_rfl) rfl ?_; (first | go_big_quiet_step (fail) | quiet_step (fail)); refine wpQuiet_nil ?_); (refine wpK_pure (fuel := 6) (listed' := #[true, true, true, true, true, false, true, true, true, true, true, false, false, false, false, false]) 10 rfl (by kernel_rfl) rfl ?_; (first | go_big_quiet_step (fail) | quiet_step (fail)); refine wpQuiet_nil ?_))
      ((refine wpK_read (fuel := 5) (listed' := #[true, true, true, true, true, true, true, true, true, true, true, false, false, false, false, false]) 5 (by first | exact regrown_first _ _ | exact regrown_self _) rfl (by kernel_rfl) rfl ?_; (first | go_big_quiet_step (fail) | quiet_step (fail)); refine wpQuiet_nil ?_); (refine wpK_read (fuel := 4) (listed' := #[true, true, true, true, true, true, true, true, true, true, true, true, false, false, false, false]) 11 (by first | exact regrown_first _ _ | exact regrown_self _) rfl (by kernel_rfl) rfl ?_; (first | go_big_quiet_step (fail) | quiet_step (fail)); refine wpQuiet_nil ?_))
      refine wpK_two (fuel := 3) (l1 := #[true, true, true, true, true, true, true, true, true, true, true, true, true, false, false, false]) (l2 := #[true, true, true, true, true, true, true, true, true, true, true, true, false, true, false, false]) 12 13 rfl rfl (by kernel_rfl) rfl rfl ?_ ?_
      · go_wp2_with fail
        obtain ⟨xb, hxb⟩ : ∃ xb, xb = (redrawn w3 (w3.drawn + 1)).heap.size := ⟨_, rfl⟩
        rw [← hxb]
        have hfar : w.heap.size + 3 ≤ xb := by rw [hxb]; exact HST1.out.far
        have hsz : w3.heap.size ≤ xb := by rw [hxb]; exact Nat.le_refl _
        have HBa := Lib.hid (below_alloc (below_redrawn w3 (w3.drawn + 1)) (.cells #[.int .u64 0] 24))
        have HFa : Hid (((redrawn w3 (w3.drawn + 1)).alloc (.cells #[.int .u64 0] 24)).heap[xb]? = some (.cells #[.int .u64 0] 24 (0, 0))) := Lib.hid (blk_new_of _ hxb)
        have HFR := Lib.hid hfar
        have HSZ := Lib.hid hsz
        clear hxb hfar hsz
        generalize (redrawn w3 (w3.drawn + 1)).alloc (.cells #[.int .u64 0] 24) = V1 at *
        refine ⟨rfl, fun _ _ => regrown_of_below HBa.out, ?_⟩
        refine wpK_one (fuel := 2) (listed' := #[true, true, true, true, true, true, true, true, true, true, true, true, true, true, false, false]) 13 rfl (by kernel_rfl) rfl ?_
        go_wp2_with fail
        obtain ⟨vb, hvb⟩ : ∃ vb, vb = V1.heap.size := ⟨_, rfl⟩
        rw [← hvb]
        have hne : vb ≠ xb := by have := lt_of_blk HFa.out; omega
        have hgt : xb < vb := by have := lt_of_blk HFa.out; omega
        have HBb := Lib.hid (below_alloc HBa.out (.cells #[.slice none 0 0] 37))
        have HFb : Hid ((V1.alloc (.cells #[.slice none 0 0] 37)).heap[vb]? = some (.cells #[.slice none 0 0] 37 (0, 0))) := Lib.hid (blk_new_of _ hvb)
        have HFc := Lib.hid (blk_alloc HFa.out (.cells #[.slice none 0 0] 37))
        have HNE : Hid (xb ≠ vb) := Lib.hid (by omega)
        have HF2 : Hid (w.heap.size + 3 ≤ xb ∧ w.heap.size + 3 ≤ vb ∧ w3.heap.size ≤ xb ∧ w3.heap.size ≤ vb) := Lib.hid (by have := HFR.out; have := HSZ.out; omega)
        have HXV : Hid ((V1.alloc (.cells #[.slice none 0 0] 37)).heap[xb]? = some (.cells #[.int .u64 0] 24 (0, 0))) := Lib.hid (HFc.out)
        have HVV : Hid ((V1.alloc (.cells #[.slice none 0 0] 37)).heap[vb]? = some (.cells #[.slice none 0 0] 37 (0, 0))) := Lib.hid (HFb.out)
        clear hvb hne hgt HFa HFb HFc HBa HFR HSZ
        generalize V1.alloc (.cells #[.slice none 0 0] 37) = V2 at *
        refine ⟨rfl, fun _ _ => regrown_of_below HBb.out, ?_⟩
        clear V1
        refine wpK_one (fuel := 1) (listed' := #[true, true, true, true, true, true, true, true, true, true, true, true, true, true, true, false]) 14 rfl (by kernel_rfl) rfl ?_
        have jx := cell_of_blk HXV.out 0
        have fx := frozen_of_blk HXV.out 0
        have jv := cell_of_blk HVV.out 0
        have fv := frozen_of_blk HVV.out 0
        have hne := HNE.out
        have hne2 := Ne.symm HNE.out
        go_wp2_with fail
        have HBc := Lib.hid (HBb.out.setCell (p := ⟨xb, 0, none⟩) HF2.out.2.2.1 (.int .u64 x.inst))
        refine ⟨rfl, fun _ _ => regrown_of_below HBc.out, ?_⟩
        refine wpK_one (fuel := 0) (listed' := #[true, true, true, true, true, true, true, true, true, true, true, true, true, true, true, true]) 15 rfl (by kernel_rfl) rfl ?_
        go_wp2_with fail
        refine ⟨rfl, fun h => absurd h (by decide), ?_⟩
        refine wpK_end rfl ?_
        go_wp2_with fail
        have HXB : Hid (((V2.setCell ⟨xb, 0, none⟩ (.int .u64 x.inst)).setCell ⟨vb, 0, none⟩ (.slice y.vA y.vN y.vC)).heap[xb]? = some (.cells #[.int .u64 x.inst] 24 (0, 0))) := Lib.hid (blk_set_other (set_blk HXV.out (.int .u64 x.inst)) hne)
        have HVB : Hid (((V2.setCell ⟨xb, 0, none⟩ (.int .u64 x.inst)).setCell ⟨vb, 0, none⟩ (.slice y.vA y.vN y.vC)).heap[vb]? = some (.cells #[.slice y.vA y.vN y.vC] 37 (0, 0))) := Lib.hid (set_blk (blk_set_other HVV.out hne2) (.slice y.vA y.vN y.vC))
        have HSTV := Lib.hid (HST1.out.more (HBc.out.setCell (p := ⟨vb, 0, none⟩) HF2.out.2.2.2 (.slice y.vA y.vN y.vC)))
        clear jx fx jv fv hne hne2 HBc HBb HXV HVV HST1 HNE s10 s11 c1 c2
        generalize (V2.setCell ⟨xb, 0, none⟩ (.int .u64 x.inst)).setCell ⟨vb, 0, none⟩ (.slice y.vA y.vN y.vC) = V at *
        clear V2
        have k0 := HSTV.out.k0
        have k1 := HSTV.out.k1
        have s10 := cell_regrown (cell_of_blk k0 10)
        have q0 := cell_regrown (cell_of_blk k1 0)
        have q1 := cell_regrown (cell_of_blk k1 1)
        have q2 := cell_regrown (cell_of_blk k1 2)
        have q3 := cell_regrown (cell_of_blk k1 3)
        have q4 := cell_regrown (cell_of_blk k1 4)
        have q5 := cell_regrown (cell_of_blk k1 5)
        have q6 := cell_regrown (cell_of_blk k1 6)
        have q7 := cell_regrown (cell_of_blk k1 7)
        have q8 := cell_regrown (cell_of_blk k1 8)
        have q9 := cell_regrown (cell_of_blk k1 9)
        have q10 := cell_regrown (cell_of_blk k1 10)
        have q11 := cell_regrown (cell_of_blk k1 11)
        have q12 := cell_regrown (cell_of_blk k1 12)
        clear k0 k1
        refine wp_region_ord [7] (n := 8) (listed := #[false, false, false, false, false, false, false, false]) (by kernel_rfl) rfl rfl ?_
        ((refine wpK_pure (fuel := 7) (listed' := #[true, false, false, false, false, false, false, false]) 0 rfl (by kernel_rfl) rfl ?_; (first | go_big_quiet_step (fail) | quiet_step (fail)); refine wpQuiet_nil ?_); (refine wpK_pure (fuel := 6) (listed' := #[true, false, false, false, true, false, false, false]) 4 rfl (by kernel_rfl) rfl ?_; (first | go_big_quiet_step (fail) | quiet_step (fail)); refine wpQuiet_nil ?_))
        ((refine wpK_read (fuel := 5) (listed' := #[true, true, false, false, true, false, false, false]) 1 (by first | exact regrown_first _ _ | exact regrown_self _) rfl (by kernel_rfl) rfl ?_; (first | go_big_quiet_step (fail) | quiet_step (fail)); refine wpQuiet_nil ?_); (refine wpK_read (fuel := 4) (listed' := #[true, true, true, false, true, false, false, false]) 2 (by first | exact regrown_first _ _ | exact regrown_self _) rfl (by kernel_rfl) rfl ?_; (first | go_big_quiet_step (fail) | quiet_step (fail)); refine wpQuiet_nil ?_))
        refine wpK_one (fuel := 3) (listed' := #[true, true, true, true, true, false, false, false]) 3 rfl (by kernel_rfl) rfl ?_
        go_wp2_with (go_at_call 120; refine (HMK.out _).mono ?_; rintro e w4 ⟨rfl, hq, hb⟩; have HQ := Lib.hid hq; have HB1 := Lib.hid (below2 (below_redrawn V (V.drawn + 1)) hb); clear hq hb)
        refine ⟨rfl, fun _ _ => regrown_of_below HB1.out, ?_⟩
        refine wpK_one (fuel := 2) (listed' := #[true, true, true, true, true, true, false, false]) 5 rfl (by kernel_rfl) rfl ?_
        go_wp2_with fail
        refine (HCL.out w4 _ vb y.vA y.vN y.vC y.vars (below2 HSTV.out.below HB1.out) HQ.out (lt_of_blk (block_below HB1.out HVB.out)) (block_below HB1.out HSTV.out.k1) (cell_of_blk (block_below HB1.out HVB.out) 0) HV.out.1 HV.out.2.1 HV.out.2.2).mono ?_
        rintro e w5 ⟨A', c', ll', rfl, hrow, hll, hrel, hb⟩
        have HRW := Lib.hid hrow
        have HREL := Lib.hid hrel
        have HB2 := Lib.hid (below2 HB1.out hb)
        have HST3 := Lib.hid (HSTV.out.more (below2 HB1.out hb))
        have HXB3 := Lib.hid (block_below (below2 HB1.out hb) HXB.out)
        have HW4 : Hid (w.heap.size + 3 ≤ w4.heap.size) := Lib.hid (by have := HB1.out.size; have := HSTV.out.far; omega)
        obtain ⟨Ab, cb, heb, hncb, hcmb⟩ := hrow.open_
        injection heb with eb1 _ eb3
        subst eb1 eb3
        clear hrow hll hrel hb s10 q0 q1 q2 q3 q4 q5 q6 q7 q8 q9 q10 q11 q12
        have k0 := HST3.out.k0
        have s10 := cell_of_blk k0 10
        have f10 := frozen_of_blk k0 10
        clear k0
        go_wp2_with fail
        refine ⟨rfl, fun _ _ => regrown_of_below HB2.out, ?_⟩
        ((refine wpK_pure (fuel := 1) (listed' := #[true, true, true, true, true, true, true, false]) 6 rfl (by kernel_rfl) rfl ?_; (first | go_big_quiet_step (fail) | quiet_step (fail)); refine wpQuiet_nil ?_))
        refine wpK_one (fuel := 0) (listed' := #[true, true, true, true, true, true, true, true]) 7 rfl (by kernel_rfl) rfl ?_
        go_wp2_with fail
        refine ⟨rfl, fun h => absurd h (by decide), ?_⟩
        refine wpK_end rfl ?_
        go_wp2_with fail
        have HSTU : Hid (MStage w (w5.setCell ⟨w.heap.size, 10, none⟩ (.slice A' n10 c')) r vA vN vC #[.int .u64 Pp, .int .u64 Dd, .int .u64 Mm, .slice A3 n3 c3, .slice A4 n4 c4, .slice A5 n5 c5, .slice A6 n6 c6, .slice A7 n7 c7, .slice A8 n8 c8, .slice A9 n9 c9, .slice A' n10 c', .slice A11 n11 c11]) := Lib.hid (HST3.out.set 10 (.slice A' n10 c'))
        have HXBU := Lib.hid (blk_set_other (b := w.heap.size) (o := 10) (u := .slice A' n10 c') HXB3.out (by have := HF2.out; omega))
        have hmb : Mut (fun b => b = w.heap.size) w5 (w5.setCell ⟨w.heap.size, 10, none⟩ (.slice A' n10 c')) := Mut.setCell (T := fun b => b = w.heap.size) (Mut.refl _ _) (p := ⟨w.heap.size, 10, none⟩) (fun _ => rfl) (.slice A' n10 c')
        have HRU : Hid (Row (w5.setCell ⟨w.heap.size, 10, none⟩ (.slice A' n10 c')) (fun b => (S b ∧ b < w.heap.size) ∨ w.heap.size + 3 ≤ b) 7 n10 (.slice A' n10 c') (ll'.flatMap encLst)) := Lib.hid ((HRW.out.mut hmb (fun b _ hb h => by have := HW4.out; omega)).weaken (fun b _ h => h.elim .inl (fun h => .inr (by have := HW4.out; omega))))
        have HRELU : Hid (∃ A1 c1, Row (w5.setCell ⟨w.heap.size, 10, none⟩ (.slice A' n10 c')) (fun b => w.heap.size + 3 ≤ b) 4 y.vN (.slice A1 y.vN c1) (y.vars.flatMap GVar.cells) ∧ ll' = ll.set i { ll[i]'HI.out with message := r.key2, vA := A1, vN := y.vN, vC := c1, vars := y.vars }) := Lib.hid (by
          rcases HREL.out with ⟨g1, -⟩ | ⟨i', hi', y', g1, ⟨A1, c1, rfl, g3⟩, g4⟩
          · rw [h1] at g1; omega
          · obtain rfl : i' = i := by rw [h1] at g1; omega
            exact ⟨A1, c1, (g3.mut hmb (fun b _ hb h => by have := HW4.out; omega)).weaken (fun b _ hb => by have := HW4.out; omega), g4⟩)
        clear s10 f10 HST3 HXB3 HB2 HB1 HQ HSTV HXB HRW HREL hmb HVB HW4
        generalize w5.setCell ⟨w.heap.size, 10, none⟩ (.slice A' n10 c') = U at *
        have k0 := HSTU.out.k0
        have k1 := HSTU.out.k1
        have s11 := cell_regrown (cell_of_blk k0 11)
        have q0 := cell_regrown (cell_of_blk k1 0)
        have q1 := cell_regrown (cell_of_blk k1 1)
        have q2 := cell_regrown (cell_of_blk k1 2)
        have q3 := cell_regrown (cell_of_blk k1 3)
        have q4 := cell_regrown (cell_of_blk k1 4)
        have q5 := cell_regrown (cell_of_blk k1 5)
        have q6 := cell_regrown (cell_of_blk k1 6)
        have q7 := cell_regrown (cell_of_blk k1 7)
        have q8 := cell_regrown (cell_of_blk k1 8)
        have q9 := cell_regrown (cell_of_blk k1 9)
        have q10 := cell_regrown (cell_of_blk k1 10)
        have q11 := cell_regrown (cell_of_blk k1 11)
        have q12 := cell_regrown (cell_of_blk k1 12)
        clear k0 k1
        refine wp_region_ord [7] (n := 8) (listed := #[false, false, false, false, false, false, false, false]) (by kernel_rfl) rfl rfl ?_
        ((refine wpK_pure (fuel := 7) (listed' := #[true, false, false, false, false, false, false, false]) 0 rfl (by kernel_rfl) rfl ?_; (first | go_big_quiet_step (fail) | quiet_step (fail)); refine wpQuiet_nil ?_); (refine wpK_pure (fuel := 6) (listed' := #[true, false, false, false, true, false, false, false]) 4 rfl (by kernel_rfl) rfl ?_; (first | go_big_quiet_step (fail) | quiet_step (fail)); refine wpQuiet_nil ?_))
        ((refine wpK_read (fuel := 5) (listed' := #[true, true, false, false, true, false, false, false]) 1 (by first | exact regrown_first _ _ | exact regrown_self _) rfl (by kernel_rfl) rfl ?_; (first | go_big_quiet_step (fail) | quiet_step (fail)); refine wpQuiet_nil ?_); (refine wpK_read (fuel := 4) (listed' := #[true, true, true, false, true, false, false, false]) 2 (by first | exact regrown_first _ _ | exact regrown_self _) rfl (by kernel_rfl) rfl ?_; (first | go_big_quiet_step (fail) | quiet_step (fail)); refine wpQuiet_nil ?_))
        refine wpK_one (fuel := 3) (listed' := #[true, true, true, true, true, false, false, false]) 3 rfl (by kernel_rfl) rfl ?_
        go_wp2_with (go_at_call 122; refine (HMM.out _).mono ?_; rintro e w6 ⟨rfl, hq, hb⟩; have HQ := Lib.hid hq; have HB1 := Lib.hid (below2 (below_redrawn U (U.drawn + 1)) hb); clear hq hb)
        refine ⟨rfl, fun _ _ => regrown_of_below HB1.out, ?_⟩
        refine wpK_one (fuel := 2) (listed' := #[true, true, true, true, true, true, false, false]) 5 rfl (by kernel_rfl) rfl ?_
        go_wp2_with fail
        refine (HCH.out w6 _ xb x.inst (below2 HSTU.out.below HB1.out) HQ.out (lt_of_blk (block_below HB1.out HXBU.out)) (cell_of_blk (block_below HB1.out HXBU.out) 0)).mono ?_
        rintro e w7 ⟨B', d', lm', rfl, hrow, hll, hrel, hb⟩
        have HRW := Lib.hid hrow
        have HREL := Lib.hid hrel
        have HB2 := Lib.hid (below2 HB1.out hb)
        have HST5 := Lib.hid (HSTU.out.more (below2 HB1.out hb))
        have HW4 : Hid (w.heap.size + 3 ≤ w6.heap.size) := Lib.hid (by have := HB1.out.size; have := HSTU.out.far; omega)
        obtain ⟨Ab, cb, heb, hncb, hcmb⟩ := hrow.open_
        injection heb with eb1 _ eb3
        subst eb1 eb3
        clear hrow hll hrel hb s11 q0 q1 q2 q3 q4 q5 q6 q7 q8 q9 q10 q11 q12
        have k0 := HST5.out.k0
        have k2 := HST5.out.k2
        have KZ := Lib.hid k2
        have HWB := Lib.hid HST5.out.below
        have s0 := cell_of_blk k0 0
        have s1 := cell_of_blk k0 1
        have s2 := cell_of_blk k0 2
        have s3 := cell_of_blk k0 3
        have s4 := cell_of_blk k0 4
        have s5 := cell_of_blk k0 5
        have s6 := cell_of_blk k0 6
        have s7 := cell_of_blk k0 7
        have s8 := cell_of_blk k0 8
        have s9 := cell_of_blk k0 9
        have s10 := cell_of_blk k0 10
        have s11 := cell_of_blk k0 11
        have f0 := frozen_of_blk k0 0
        have f1 := frozen_of_blk k0 1
        have f2 := frozen_of_blk k0 2
        have f3 := frozen_of_blk k0 3
        have f4 := frozen_of_blk k0 4
        have f5 := frozen_of_blk k0 5
        have f6 := frozen_of_blk k0 6
        have f7 := frozen_of_blk k0 7
        have f8 := frozen_of_blk k0 8
        have f9 := frozen_of_blk k0 9
        have f10 := frozen_of_blk k0 10
        have f11 := frozen_of_blk k0 11
        have z0 := cell_of_blk k2 0
        have z1 := cell_of_blk k2 1
        have z2 := cell_of_blk k2 2
        have z3 := cell_of_blk k2 3
        have z4 := cell_of_blk k2 4
        have z5 := cell_of_blk k2 5
        have z6 := cell_of_blk k2 6
        have z7 := cell_of_blk k2 7
        have z8 := cell_of_blk k2 8
        have z9 := cell_of_blk k2 9
        have z10 := cell_of_blk k2 10
        have z11 := cell_of_blk k2 11
        have g0 := frozen_of_blk k2 0
        have g1 := frozen_of_blk k2 1
        have g2 := frozen_of_blk k2 2
        have g3 := frozen_of_blk k2 3
        have g4 := frozen_of_blk k2 4
        have g5 := frozen_of_blk k2 5
        have g6 := frozen_of_blk k2 6
        have g7 := frozen_of_blk k2 7
        have g8 := frozen_of_blk k2 8
        have g9 := frozen_of_blk k2 9
        have g10 := frozen_of_blk k2 10
        have g11 := frozen_of_blk k2 11
        clear k0 k2
        go_wp2_with fail
        refine ⟨rfl, fun _ _ => regrown_of_below HB2.out, ?_⟩
        ((refine wpK_pure (fuel := 1) (listed' := #[true, true, true, true, true, true, true, false]) 6 rfl (by kernel_rfl) rfl ?_; (first | go_big_quiet_step (fail) | quiet_step (fail)); refine wpQuiet_nil ?_))
        refine wpK_one (fuel := 0) (listed' := #[true, true, true, true, true, true, true, true]) 7 rfl (by kernel_rfl) rfl ?_
        go_wp2_with fail
        refine ⟨rfl, fun h => absurd h (by decide), ?_⟩
        refine wpK_end rfl ?_
        go_wp2_with fail
        generalize hWE : World.setCell (World.setCell (World.setCell (World.setCell (World.setCell (World.setCell (World.setCell (World.setCell (World.setCell (World.setCell (World.setCell (World.setCell (World.setCell (_) _ _) _ _) _ _) _ _) _ _) _ _) _ _) _ _) _ _) _ _) _ _) _ _) _ _ = WE
        have ho : WE.heap[w.heap.size + 1 + 1]? = some (.cells #[.int .u64 Pp, .int .u64 Dd, .int .u64 Mm, .slice A3 n3 c3, .slice A4 n4 c4, .slice A5 n5 c5, .slice A6 n6 c6, .slice A7 n7 c7, .slice A8 n8 c8, .slice A9 n9 c9, .slice A' n10 c', .slice B' n11 d'] 35 (0, 0)) := by rw [← hWE]; exact set_blk12 (blk_set_other (b := w.heap.size) (o := 11) (KZ.out) (by omega)) (.int .u64 Pp) (.int .u64 Dd) (.int .u64 Mm) (.slice A3 n3 c3) (.slice A4 n4 c4) (.slice A5 n5 c5) (.slice A6 n6 c6) (.slice A7 n7 c7) (.slice A8 n8 c8) (.slice A9 n9 c9) (.slice A' n10 c') (.slice B' n11 d')
        have hbe : Below w.heap.size w WE := by rw [← hWE]; exact (((((((((((((HWB.out).setCell (p := ⟨w.heap.size, 11, none⟩) (Nat.le_refl _) _).setCell (p := ⟨w.heap.size + 1 + 1, 0, none⟩) (by show _ ≤ _ + 1 + 1; omega) _).setCell (p := ⟨w.heap.size + 1 + 1, 1, none⟩) (by show _ ≤ _ + 1 + 1; omega) _).setCell (p := ⟨w.heap.size + 1 + 1, 2, none⟩) (by show _ ≤ _ + 1 + 1; omega) _).setCell (p := ⟨w.heap.size + 1 + 1, 3, none⟩) (by show _ ≤ _ + 1 + 1; omega) _).setCell (p := ⟨w.heap.size + 1 + 1, 4, none⟩) (by show _ ≤ _ + 1 + 1; omega) _).setCell (p := ⟨w.heap.size + 1 + 1, 5, none⟩) (by show _ ≤ _ + 1 + 1; omega) _).setCell (p := ⟨w.heap.size + 1 + 1, 6, none⟩) (by show _ ≤ _ + 1 + 1; omega) _).setCell (p := ⟨w.heap.size + 1 + 1, 7, none⟩) (by show _ ≤ _ + 1 + 1; omega) _).setCell (p := ⟨w.heap.size + 1 + 1, 8, none⟩) (by show _ ≤ _ + 1 + 1; omega) _).setCell (p := ⟨w.heap.size + 1 + 1, 9, none⟩) (by show _ ≤ _ + 1 + 1; omega) _).setCell (p := ⟨w.heap.size + 1 + 1, 10, none⟩) (by show _ ≤ _ + 1 + 1; omega) _).setCell (p := ⟨w.heap.size + 1 + 1, 11, none⟩) (by show _ ≤ _ + 1 + 1; omega) _
        have hmu : Mut (fun b => b = w.heap.size ∨ b = w.heap.size + 1 + 1) w7 WE := by
          rw [← hWE]
          exact Mut.setCell (T := fun b => b = w.heap.size ∨ b = w.heap.size + 1 + 1) (Mut.setCell (T := fun b => b = w.heap.size ∨ b = w.heap.size + 1 + 1) (Mut.setCell (T := fun b => b = w.heap.size ∨ b = w.heap.size + 1 + 1) (Mut.setCell (T := fun b => b = w.heap.size ∨ b = w.heap.size + 1 + 1) (Mut.setCell (T := fun b => b = w.heap.size ∨ b = w.heap.size + 1 + 1) (Mut.setCell (T := fun b => b = w.heap.size ∨ b = w.heap.size + 1 + 1) (Mut.setCell (T := fun b => b = w.heap.size ∨ b = w.heap.size + 1 + 1) (Mut.setCell (T := fun b => b = w.heap.size ∨ b = w.heap.size + 1 + 1) (Mut.setCell (T := fun b => b = w.heap.size ∨ b = w.heap.size + 1 + 1) (Mut.setCell (T := fun b => b = w.heap.size ∨ b = w.heap.size + 1 + 1) (Mut.setCell (T := fun b => b = w.heap.size ∨ b = w.heap.size + 1 + 1) (Mut.setCell (T := fun b => b = w.heap.size ∨ b = w.heap.size + 1 + 1) (Mut.setCell (T := fun b => b = w.heap.size ∨ b = w.heap.size + 1 + 1) (Mut.refl _ _) (p := ⟨w.heap.size, 11, none⟩) (fun _ => .inl rfl) _) (p := ⟨w.heap.size + 1 + 1, 0, none⟩) (fun _ => .inr rfl) _) (p := ⟨w.heap.size + 1 + 1, 1, none⟩) (fun _ => .inr rfl) _) (p := ⟨w.heap.size + 1 + 1, 2, none⟩) (fun _ => .inr rfl) _) (p := ⟨w.heap.size + 1 + 1, 3, none⟩) (fun _ => .inr rfl) _) (p := ⟨w.heap.size + 1 + 1, 4, none⟩) (fun _ => .inr rfl) _) (p := ⟨w.heap.size + 1 + 1, 5, none⟩) (fun _ => .inr rfl) _) (p := ⟨w.heap.size + 1 + 1, 6, none⟩) (fun _ => .inr rfl) _) (p := ⟨w.heap.size + 1 + 1, 7, none⟩) (fun _ => .inr rfl) _) (p := ⟨w.heap.size + 1 + 1, 8, none⟩) (fun _ => .inr rfl) _) (p := ⟨w.heap.size + 1 + 1, 9, none⟩) (fun _ => .inr rfl) _) (p := ⟨w.heap.size + 1 + 1, 10, none⟩) (fun _ => .inr rfl) _) (p := ⟨w.heap.size + 1 + 1, 11, none⟩) (fun _ => .inr rfl) _
        have r0 := cell_of_blk ho 0
        have r1 := cell_of_blk ho 1
        have r2 := cell_of_blk ho 2
        have r3 := cell_of_blk ho 3
        have r4 := cell_of_blk ho 4
        have r5 := cell_of_blk ho 5
        have r6 := cell_of_blk ho 6
        have r7 := cell_of_blk ho 7
        have r8 := cell_of_blk ho 8
        have r9 := cell_of_blk ho 9
        have r10 := cell_of_blk ho 10
        have r11 := cell_of_blk ho 11
        have hw4 := HW4.out
        have hov10 : Row WE (fun b => S b ∨ w.heap.size ≤ b) 7 n10 (.slice A' n10 c') (ll'.flatMap encLst) := ((HRU.out.below HB2.out).mut hmu (fun b _ hb h => by omega)).weaken (fun b _ h => h.elim (fun h => .inl h.1) (fun h => .inr (by omega)))
        have hov : Row WE (fun b => S b ∨ w.heap.size ≤ b) 7 n11 (.slice B' n11 d') (lm'.flatMap encMsg) := (HRW.out.mut hmu (fun b _ hb h => by omega)).weaken (fun b _ h => h.elim (fun h => .inl h.1) (fun h => .inr (by omega)))
        have hq : (ll[i]'HI.out).inst = x.inst := by rw [HX.out]
        have hrl1 : (∃ A1 c1, Row WE (fun b => w.heap.size ≤ b) 4 (lm[j]'HJ.out).vN (.slice A1 (lm[j]'HJ.out).vN c1) ((lm[j]'HJ.out).vars.flatMap GVar.cells) ∧ ll' = ll.set i { ll[i]'HI.out with message := r.key2, vA := A1, vN := (lm[j]'HJ.out).vN, vC := c1, vars := (lm[j]'HJ.out).vars }) := by
          rw [show lm[j]'HJ.out = y from HY.out]
          obtain ⟨A1, c1, g1, g2⟩ := HRELU.out
          exact ⟨A1, c1, ((g1.below HB2.out).mut hmu (fun b _ hb h => by omega)).weaken (fun b _ hb => by omega), g2⟩
        have hrl2 : (∃ A1 c1, Row WE (fun b => w.heap.size ≤ b) 1 ((lm[j]'HJ.out).iN + 1) (.slice A1 ((lm[j]'HJ.out).iN + 1) c1) (((lm[j]'HJ.out).insts ++ [(ll[i]'HI.out).inst]).flatMap encU64) ∧ lm' = lm.set j { (lm[j]'HJ.out) with iA := A1, iN := (lm[j]'HJ.out).iN + 1, iC := c1, insts := (lm[j]'HJ.out).insts ++ [(ll[i]'HI.out).inst] }) := by
          rw [hq]
          rcases HREL.out with ⟨g1, -⟩ | ⟨i', hi', y', g1, ⟨A1, c1, rfl, g3⟩, g4⟩
          · rw [h2] at g1; omega
          · obtain rfl : i' = j := by rw [h2] at g1; omega
            exact ⟨A1, c1, (g3.mut hmu (fun b _ hb h => by omega)).weaken (fun b _ hb => by omega), g4⟩
        refine bodyPost_ret (v := .agg #[.int .u64 Pp, .int .u64 Dd, .int .u64 Mm, .slice A3 n3 c3, .slice A4 n4 c4, .slice A5 n5 c5, .slice A6 n6 c6, .slice A7 n7 c7, .slice A8 n8 c8, .slice A9 n9 c9, .slice A' n10 c', .slice B' n11 d']) (by simp [results, Tryz.results72, go_sem, r0, r1, r2, r3, r4, r5, r6, r7, r8, r9, r10, r11]) rfl ⟨.inr ⟨i, HI.out, j, HJ.out, h1, h2, A', c', ll', B', d', lm', rfl, hov10, hov, hrl1, hrl2⟩, hbe⟩
      · go_wp2_with fail
        obtain ⟨vb, hvb⟩ : ∃ vb, vb = (redrawn w3 (w3.drawn + 1)).heap.size := ⟨_, rfl⟩
        rw [← hvb]
        have hfar : w.heap.size + 3 ≤ vb := by rw [hvb]; exact HST1.out.far
        have hsz : w3.heap.size ≤ vb := by rw [hvb]; exact Nat.le_refl _
        have HBa := Lib.hid (below_alloc (below_redrawn w3 (w3.drawn + 1)) (.cells #[.slice none 0 0] 37))
        have HFa : Hid (((redrawn w3 (w3.drawn + 1)).alloc (.cells #[.slice none 0 0] 37)).heap[vb]? = some (.cells #[.slice none 0 0] 37 (0, 0))) := Lib.hid (blk_new_of _ hvb)
        have HFR := Lib.hid hfar
        have HSZ := Lib.hid hsz
        clear hvb hfar hsz
        generalize (redrawn w3 (w3.drawn + 1)).alloc (.cells #[.slice none 0 0] 37) = V1 at *
        refine ⟨rfl, fun _ _ => regrown_of_below HBa.out, ?_⟩
        refine wpK_one (fuel := 2) (listed' := #[true, true, true, true, true, true, true, true, true, true, true, true, true, true, false, false]) 12 rfl (by kernel_rfl) rfl ?_
        go_wp2_with fail
        obtain ⟨xb, hxb⟩ : ∃ xb, xb = V1.heap.size := ⟨_, rfl⟩
        rw [← hxb]
        have hne : xb ≠ vb := by have := lt_of_blk HFa.out; omega
        have hgt : vb < xb := by have := lt_of_blk HFa.out; omega
        have HBb := Lib.hid (below_alloc HBa.out (.cells #[.int .u64 0] 24))
        have HFb : Hid ((V1.alloc (.cells #[.int .u64 0] 24)).heap[xb]? = some (.cells #[.int .u64 0] 24 (0, 0))) := Lib.hid (blk_new_of _ hxb)
        have HFc := Lib.hid (blk_alloc HFa.out (.cells #[.int .u64 0] 24))
        have HNE : Hid (xb ≠ vb) := Lib.hid (by omega)
        have HF2 : Hid (w.heap.size + 3 ≤ xb ∧ w.heap.size + 3 ≤ vb ∧ w3.heap.size ≤ xb ∧ w3.heap.size ≤ vb) := Lib.hid (by have := HFR.out; have := HSZ.out; omega)
        have HXV : Hid ((V1.alloc (.cells #[.int .u64 0] 24)).heap[xb]? = some (.cells #[.int .u64 0] 24 (0, 0))) := Lib.hid (HFb.out)
        have HVV : Hid ((V1.alloc (.cells #[.int .u64 0] 24)).heap[vb]? = some (.cells #[.slice none 0 0] 37 (0, 0))) := Lib.hid (HFc.out)
        clear hxb hne hgt HFa HFb HFc HBa HFR HSZ
        generalize V1.alloc (.cells #[.int .u64 0] 24) = V2 at *
        refine ⟨rfl, fun _ _ => regrown_of_below HBb.out, ?_⟩
        clear V1
        refine wpK_one (fuel := 1) (listed' := #[true, true, true, true, true, true, true, true, true, true, true, true, true, true, true, false]) 14 rfl (by kernel_rfl) rfl ?_
        have jx := cell_of_blk HXV.out 0
        have fx := frozen_of_blk HXV.out 0
        have jv := cell_of_blk HVV.out 0
        have fv := frozen_of_blk HVV.out 0
        have hne := HNE.out
        have hne2 := Ne.symm HNE.out
        go_wp2_with fail
        have HBc := Lib.hid (HBb.out.setCell (p := ⟨xb, 0, none⟩) HF2.out.2.2.1 (.int .u64 x.inst))
        refine ⟨rfl, fun _ _ => regrown_of_below HBc.out, ?_⟩
        refine wpK_one (fuel := 0) (listed' := #[true, true, true, true, true, true, true, true, true, true, true, true, true, true, true, true]) 15 rfl (by kernel_rfl) rfl ?_
        go_wp2_with fail
        refine ⟨rfl, fun h => absurd h (by decide), ?_⟩
        refine wpK_end rfl ?_
        go_wp2_with fail
        have HXB : Hid (((V2.setCell ⟨xb, 0, none⟩ (.int .u64 x.inst)).setCell ⟨vb, 0, none⟩ (.slice y.vA y.vN y.vC)).heap[xb]? = some (.cells #[.int .u64 x.inst] 24 (0, 0))) := Lib.hid (blk_set_other (set_blk HXV.out (.int .u64 x.inst)) hne)
        have HVB : Hid (((V2.setCell ⟨xb, 0, none⟩ (.int .u64 x.inst)).setCell ⟨vb, 0, none⟩ (.slice y.vA y.vN y.vC)).heap[vb]? = some (.cells #[.slice y.vA y.vN y.vC] 37 (0, 0))) := Lib.hid (set_blk (blk_set_other HVV.out hne2) (.slice y.vA y.vN y.vC))
        have HSTV := Lib.hid (HST1.out.more (HBc.out.setCell (p := ⟨vb, 0, none⟩) HF2.out.2.2.2 (.slice y.vA y.vN y.vC)))
        clear jx fx jv fv hne hne2 HBc HBb HXV HVV HST1 HNE s10 s11 c1 c2
        generalize (V2.setCell ⟨xb, 0, none⟩ (.int .u64 x.inst)).setCell ⟨vb, 0, none⟩ (.slice y.vA y.vN y.vC) = V at *
        clear V2
        have k0 := HSTV.out.k0
        have k1 := HSTV.out.k1
        have s10 := cell_regrown (cell_of_blk k0 10)
        have q0 := cell_regrown (cell_of_blk k1 0)
        have q1 := cell_regrown (cell_of_blk k1 1)
        have q2 := cell_regrown (cell_of_blk k1 2)
        have q3 := cell_regrown (cell_of_blk k1 3)
        have q4 := cell_regrown (cell_of_blk k1 4)
        have q5 := cell_regrown (cell_of_blk k1 5)
        have q6 := cell_regrown (cell_of_blk k1 6)
        have q7 := cell_regrown (cell_of_blk k1 7)
        have q8 := cell_regrown (cell_of_blk k1 8)
        have q9 := cell_regrown (cell_of_blk k1 9)
        have q10 := cell_regrown (cell_of_blk k1 10)
        have q11 := cell_regrown (cell_of_blk k1 11)
        have q12 := cell_regrown (cell_of_blk k1 12)
        clear k0 k1
        refine wp_region_ord [7] (n := 8) (listed := #[false, false, false, false, false, false, false, false]) (by kernel_rfl) rfl rfl ?_
        ((refine wpK_pure (fuel := 7) (listed' := #[true, false, false, false, false, false, false, false]) 0 rfl (by kernel_rfl) rfl ?_; (first | go_big_quiet_step (fail) | quiet_step (fail)); refine wpQuiet_nil ?_); (refine wpK_pure (fuel := 6) (listed' := #[true, false, false, false, true, false, false, false]) 4 rfl (by kernel_rfl) rfl ?_; (first | go_big_quiet_step (fail) | quiet_step (fail)); refine wpQuiet_nil ?_))
        ((refine wpK_read (fuel := 5) (listed' := #[true, true, false, false, true, false, false, false]) 1 (by first | exact regrown_first _ _ | exact regrown_self _) rfl (by kernel_rfl) rfl ?_; (first | go_big_quiet_step (fail) | quiet_step (fail)); refine wpQuiet_nil ?_); (refine wpK_read (fuel := 4) (listed' := #[true, true, true, false, true, false, false, false]) 2 (by first | exact regrown_first _ _ | exact regrown_self _) rfl (by kernel_rfl) rfl ?_; (first | go_big_quiet_step (fail) | quiet_step (fail)); refine wpQuiet_nil ?_))
        refine wpK_one (fuel := 3) (listed' := #[true, true, true, true, true, false, false, false]) 3 rfl (by kernel_rfl) rfl ?_
        go_wp2_with (go_at_call 120; refine (HMK.out _).mono ?_; rintro e w4 ⟨rfl, hq, hb⟩; have HQ := Lib.hid hq; have HB1 := Lib.hid (below2 (below_redrawn V (V.drawn + 1)) hb); clear hq hb)
        refine ⟨rfl, fun _ _ => regrown_of_below HB1.out, ?_⟩
        refine wpK_one (fuel := 2) (listed' := #[true, true, true, true, true, true, false, false]) 5 rfl (by kernel_rfl) rfl ?_
        go_wp2_with fail
        refine (HCL.out w4 _ vb y.vA y.vN y.vC y.vars (below2 HSTV.out.below HB1.out) HQ.out (lt_of_blk (block_below HB1.out HVB.out)) (block_below HB1.out HSTV.out.k1) (cell_of_blk (block_below HB1.out HVB.out) 0) HV.out.1 HV.out.2.1 HV.out.2.2).mono ?_
        rintro e w5 ⟨A', c', ll', rfl, hrow, hll, hrel, hb⟩
        have HRW := Lib.hid hrow
        have HREL := Lib.hid hrel
        have HB2 := Lib.hid (below2 HB1.out hb)
        have HST3 := Lib.hid (HSTV.out.more (below2 HB1.out hb))
        have HXB3 := Lib.hid (block_below (below2 HB1.out hb) HXB.out)
        have HW4 : Hid (w.heap.size + 3 ≤ w4.heap.size) := Lib.hid (by have := HB1.out.size; have := HSTV.out.far; omega)
        obtain ⟨Ab, cb, heb, hncb, hcmb⟩ := hrow.open_
        injection heb with eb1 _ eb3
        subst eb1 eb3
        clear hrow hll hrel hb s10 q0 q1 q2 q3 q4 q5 q6 q7 q8 q9 q10 q11 q12
        have k0 := HST3.out.k0
        have s10 := cell_of_blk k0 10
        have f10 := frozen_of_blk k0 10
        clear k0
        go_wp2_with fail
        refine ⟨rfl, fun _ _ => regrown_of_below HB2.out, ?_⟩
        ((refine wpK_pure (fuel := 1) (listed' := #[true, true, true, true, true, true, true, false]) 6 rfl (by kernel_rfl) rfl ?_; (first | go_big_quiet_step (fail) | quiet_step (fail)); refine wpQuiet_nil ?_))
        refine wpK_one (fuel := 0) (listed' := #[true, true, true, true, true, true, true, true]) 7 rfl (by kernel_rfl) rfl ?_
        go_wp2_with fail
        refine ⟨rfl, fun h => absurd h (by decide), ?_⟩
        refine wpK_end rfl ?_
        go_wp2_with fail
        have HSTU : Hid (MStage w (w5.setCell ⟨w.heap.size, 10, none⟩ (.slice A' n10 c')) r vA vN vC #[.int .u64 Pp, .int .u64 Dd, .int .u64 Mm, .slice A3 n3 c3, .slice A4 n4 c4, .slice A5 n5 c5, .slice A6 n6 c6, .slice A7 n7 c7, .slice A8 n8 c8, .slice A9 n9 c9, .slice A' n10 c', .slice A11 n11 c11]) := Lib.hid (HST3.out.set 10 (.slice A' n10 c'))
        have HXBU := Lib.hid (blk_set_other (b := w.heap.size) (o := 10) (u := .slice A' n10 c') HXB3.out (by have := HF2.out; omega))
        have hmb : Mut (fun b => b = w.heap.size) w5 (w5.setCell ⟨w.heap.size, 10, none⟩ (.slice A' n10 c')) := Mut.setCell (T := fun b => b = w.heap.size) (Mut.refl _ _) (p := ⟨w.heap.size, 10, none⟩) (fun _ => rfl) (.slice A' n10 c')
        have HRU : Hid (Row (w5.setCell ⟨w.heap.size, 10, none⟩ (.slice A' n10 c')) (fun b => (S b ∧ b < w.heap.size) ∨ w.heap.size + 3 ≤ b) 7 n10 (.slice A' n10 c') (ll'.flatMap encLst)) := Lib.hid ((HRW.out.mut hmb (fun b _ hb h => by have := HW4.out; omega)).weaken (fun b _ h => h.elim .inl (fun h => .inr (by have := HW4.out; omega))))
        have HRELU : Hid (∃ A1 c1, Row (w5.setCell ⟨w.heap.size, 10, none⟩ (.slice A' n10 c')) (fun b => w.heap.size + 3 ≤ b) 4 y.vN (.slice A1 y.vN c1) (y.vars.flatMap GVar.cells) ∧ ll' = ll.set i { ll[i]'HI.out with message := r.key2, vA := A1, vN := y.vN, vC := c1, vars := y.vars }) := Lib.hid (by
          rcases HREL.out with ⟨g1, -⟩ | ⟨i', hi', y', g1, ⟨A1, c1, rfl, g3⟩, g4⟩
          · rw [h1] at g1; omega
          · obtain rfl : i' = i := by rw [h1] at g1; omega
            exact ⟨A1, c1, (g3.mut hmb (fun b _ hb h => by have := HW4.out; omega)).weaken (fun b _ hb => by have := HW4.out; omega), g4⟩)
        clear s10 f10 HST3 HXB3 HB2 HB1 HQ HSTV HXB HRW HREL hmb HVB HW4
        generalize w5.setCell ⟨w.heap.size, 10, none⟩ (.slice A' n10 c') = U at *
        have k0 := HSTU.out.k0
        have k1 := HSTU.out.k1
        have s11 := cell_regrown (cell_of_blk k0 11)
        have q0 := cell_regrown (cell_of_blk k1 0)
        have q1 := cell_regrown (cell_of_blk k1 1)
        have q2 := cell_regrown (cell_of_blk k1 2)
        have q3 := cell_regrown (cell_of_blk k1 3)
        have q4 := cell_regrown (cell_of_blk k1 4)
        have q5 := cell_regrown (cell_of_blk k1 5)
        have q6 := cell_regrown (cell_of_blk k1 6)
        have q7 := cell_regrown (cell_of_blk k1 7)
        have q8 := cell_regrown (cell_of_blk k1 8)
        have q9 := cell_regrown (cell_of_blk k1 9)
        have q10 := cell_regrown (cell_of_blk k1 10)
        have q11 := cell_regrown (cell_of_blk k1 11)
        have q12 := cell_regrown (cell_of_blk k1 12)
        clear k0 k1
        refine wp_region_ord [7] (n := 8) (listed := #[false, false, false, false, false, false, false, false]) (by kernel_rfl) rfl rfl ?_
        ((refine wpK_pure (fuel := 7) (listed' := #[true, false, false, false, false, false, false, false]) 0 rfl (by kernel_rfl) rfl ?_; (first | go_big_quiet_step (fail) | quiet_step (fail)); refine wpQuiet_nil ?_); (refine wpK_pure (fuel := 6) (listed' := #[true, false, false, false, true, false, false, false]) 4 rfl (by kernel_rfl) rfl ?_; (first | go_big_quiet_step (fail) | quiet_step (fail)); refine wpQuiet_nil ?_))
        ((refine wpK_read (fuel := 5) (listed' := #[true, true, false, false, true, false, false, false]) 1 (by first | exact regrown_first _ _ | exact regrown_self _) rfl (by kernel_rfl) rfl ?_; (first | go_big_quiet_step (fail) | quiet_step (fail)); refine wpQuiet_nil ?_); (refine wpK_read (fuel := 4) (listed' := #[true, true, true, false, true, false, false, false]) 2 (by first | exact regrown_first _ _ | exact regrown_self _) rfl (by kernel_rfl) rfl ?_; (first | go_big_quiet_step (fail) | quiet_step (fail)); refine wpQuiet_nil ?_))
        refine wpK_one (fuel := 3) (listed' := #[true, true, true, true, true, false, false, false]) 3 rfl (by kernel_rfl) rfl ?_
        go_wp2_with (go_at_call 122; refine (HMM.out _).mono ?_; rintro e w6 ⟨rfl, hq, hb⟩; have HQ := Lib.hid hq; have HB1 := Lib.hid (below2 (below_redrawn U (U.drawn + 1)) hb); clear hq hb)
        refine ⟨rfl, fun _ _ => regrown_of_below HB1.out, ?_⟩
        refine wpK_one (fuel := 2) (listed' := #[true, true, true, true, true, true, false, false]) 5 rfl (by kernel_rfl) rfl ?_
        go_wp2_with fail
        refine (HCH.out w6 _ xb x.inst (below2 HSTU.out.below HB1.out) HQ.out (lt_of_blk (block_below HB1.out HXBU.out)) (cell_of_blk (block_below HB1.out HXBU.out) 0)).mono ?_
        rintro e w7 ⟨B', d', lm', rfl, hrow, hll, hrel, hb⟩
        have HRW := Lib.hid hrow
        have HREL := Lib.hid hrel
        have HB2 := Lib.hid (below2 HB1.out hb)
        have HST5 := Lib.hid (HSTU.out.more (below2 HB1.out hb))
        have HW4 : Hid (w.heap.size + 3 ≤ w6.heap.size) := Lib.hid (by have := HB1.out.size; have := HSTU.out.far; omega)
        obtain ⟨Ab, cb, heb, hncb, hcmb⟩ := hrow.open_
        injection heb with eb1 _ eb3
        subst eb1 eb3
        clear hrow hll hrel hb s11 q0 q1 q2 q3 q4 q5 q6 q7 q8 q9 q10 q11 q12
        have k0 := HST5.out.k0
        have k2 := HST5.out.k2
        have KZ := Lib.hid k2
        have HWB := Lib.hid HST5.out.below
        have s0 := cell_of_blk k0 0
        have s1 := cell_of_blk k0 1
        have s2 := cell_of_blk k0 2
        have s3 := cell_of_blk k0 3
        have s4 := cell_of_blk k0 4
        have s5 := cell_of_blk k0 5
        have s6 := cell_of_blk k0 6
        have s7 := cell_of_blk k0 7
        have s8 := cell_of_blk k0 8
        have s9 := cell_of_blk k0 9
        have s10 := cell_of_blk k0 10
        have s11 := cell_of_blk k0 11
        have f0 := frozen_of_blk k0 0
        have f1 := frozen_of_blk k0 1
        have f2 := frozen_of_blk k0 2
        have f3 := frozen_of_blk k0 3
        have f4 := frozen_of_blk k0 4
        have f5 := frozen_of_blk k0 5
        have f6 := frozen_of_blk k0 6
        have f7 := frozen_of_blk k0 7
        have f8 := frozen_of_blk k0 8
        have f9 := frozen_of_blk k0 9
        have f10 := frozen_of_blk k0 10
        have f11 := frozen_of_blk k0 11
        have z0 := cell_of_blk k2 0
        have z1 := cell_of_blk k2 1
        have z2 := cell_of_blk k2 2
        have z3 := cell_of_blk k2 3
        have z4 := cell_of_blk k2 4
        have z5 := cell_of_blk k2 5
        have z6 := cell_of_blk k2 6
        have z7 := cell_of_blk k2 7
        have z8 := cell_of_blk k2 8
        have z9 := cell_of_blk k2 9
        have z10 := cell_of_blk k2 10
        have z11 := cell_of_blk k2 11
        have g0 := frozen_of_blk k2 0
        have g1 := frozen_of_blk k2 1
        have g2 := frozen_of_blk k2 2
        have g3 := frozen_of_blk k2 3
        have g4 := frozen_of_blk k2 4
        have g5 := frozen_of_blk k2 5
        have g6 := frozen_of_blk k2 6
        have g7 := frozen_of_blk k2 7
        have g8 := frozen_of_blk k2 8
        have g9 := frozen_of_blk k2 9
        have g10 := frozen_of_blk k2 10
        have g11 := frozen_of_blk k2 11
        clear k0 k2
        go_wp2_with fail
        refine ⟨rfl, fun _ _ => regrown_of_below HB2.out, ?_⟩
        ((refine wpK_pure (fuel := 1) (listed' := #[true, true, true, true, true, true, true, false]) 6 rfl (by kernel_rfl) rfl ?_; (first | go_big_quiet_step (fail) | quiet_step (fail)); refine wpQuiet_nil ?_))
        refine wpK_one (fuel := 0) (listed' := #[true, true, true, true, true, true, true, true]) 7 rfl (by kernel_rfl) rfl ?_
        go_wp2_with fail
        refine ⟨rfl, fun h => absurd h (by decide), ?_⟩
        refine wpK_end rfl ?_
        go_wp2_with fail
        generalize hWE : World.setCell (World.setCell (World.setCell (World.setCell (World.setCell (World.setCell (World.setCell (World.setCell (World.setCell (World.setCell (World.setCell (World.setCell (World.setCell (_) _ _) _ _) _ _) _ _) _ _) _ _) _ _) _ _) _ _) _ _) _ _) _ _) _ _ = WE
        have ho : WE.heap[w.heap.size + 1 + 1]? = some (.cells #[.int .u64 Pp, .int .u64 Dd, .int .u64 Mm, .slice A3 n3 c3, .slice A4 n4 c4, .slice A5 n5 c5, .slice A6 n6 c6, .slice A7 n7 c7, .slice A8 n8 c8, .slice A9 n9 c9, .slice A' n10 c', .slice B' n11 d'] 35 (0, 0)) := by rw [← hWE]; exact set_blk12 (blk_set_other (b := w.heap.size) (o := 11) (KZ.out) (by omega)) (.int .u64 Pp) (.int .u64 Dd) (.int .u64 Mm) (.slice A3 n3 c3) (.slice A4 n4 c4) (.slice A5 n5 c5) (.slice A6 n6 c6) (.slice A7 n7 c7) (.slice A8 n8 c8) (.slice A9 n9 c9) (.slice A' n10 c') (.slice B' n11 d')
        have hbe : Below w.heap.size w WE := by rw [← hWE]; exact (((((((((((((HWB.out).setCell (p := ⟨w.heap.size, 11, none⟩) (Nat.le_refl _) _).setCell (p := ⟨w.heap.size + 1 + 1, 0, none⟩) (by show _ ≤ _ + 1 + 1; omega) _).setCell (p := ⟨w.heap.size + 1 + 1, 1, none⟩) (by show _ ≤ _ + 1 + 1; omega) _).setCell (p := ⟨w.heap.size + 1 + 1, 2, none⟩) (by show _ ≤ _ + 1 + 1; omega) _).setCell (p := ⟨w.heap.size + 1 + 1, 3, none⟩) (by show _ ≤ _ + 1 + 1; omega) _).setCell (p := ⟨w.heap.size + 1 + 1, 4, none⟩) (by show _ ≤ _ + 1 + 1; omega) _).setCell (p := ⟨w.heap.size + 1 + 1, 5, none⟩) (by show _ ≤ _ + 1 + 1; omega) _).setCell (p := ⟨w.heap.size + 1 + 1, 6, none⟩) (by show _ ≤ _ + 1 + 1; omega) _).setCell (p := ⟨w.heap.size + 1 + 1, 7, none⟩) (by show _ ≤ _ + 1 + 1; omega) _).setCell (p := ⟨w.heap.size + 1 + 1, 8, none⟩) (by show _ ≤ _ + 1 + 1; omega) _).setCell (p := ⟨w.heap.size + 1 + 1, 9, none⟩) (by show _ ≤ _ + 1 + 1; omega) _).setCell (p := ⟨w.heap.size + 1 + 1, 10, none⟩) (by show _ ≤ _ + 1 + 1; omega) _).setCell (p := ⟨w.heap.size + 1 + 1, 11, none⟩) (by show _ ≤ _ + 1 + 1; omega) _
        have hmu : Mut (fun b => b = w.heap.size ∨ b = w.heap.size + 1 + 1) w7 WE := by
          rw [← hWE]
          exact Mut.setCell (T := fun b => b = w.heap.size ∨ b = w.heap.size + 1 + 1) (Mut.setCell (T := fun b => b = w.heap.size ∨ b = w.heap.size + 1 + 1) (Mut.setCell (T := fun b => b = w.heap.size ∨ b = w.heap.size + 1 + 1) (Mut.setCell (T := fun b => b = w.heap.size ∨ b = w.heap.size + 1 + 1) (Mut.setCell (T := fun b => b = w.heap.size ∨ b = w.heap.size + 1 + 1) (Mut.setCell (T := fun b => b = w.heap.size ∨ b = w.heap.size + 1 + 1) (Mut.setCell (T := fun b => b = w.heap.size ∨ b = w.heap.size + 1 + 1) (Mut.setCell (T := fun b => b = w.heap.size ∨ b = w.heap.size + 1 + 1) (Mut.setCell (T := fun b => b = w.heap.size ∨ b = w.heap.size + 1 + 1) (Mut.setCell (T := fun b => b = w.heap.size ∨ b = w.heap.size + 1 + 1) (Mut.setCell (T := fun b => b = w.heap.size ∨ b = w.heap.size + 1 + 1) (Mut.setCell (T := fun b => b = w.heap.size ∨ b = w.heap.size + 1 + 1) (Mut.setCell (T := fun b => b = w.heap.size ∨ b = w.heap.size + 1 + 1) (Mut.refl _ _) (p := ⟨w.heap.size, 11, none⟩) (fun _ => .inl rfl) _) (p := ⟨w.heap.size + 1 + 1, 0, none⟩) (fun _ => .inr rfl) _) (p := ⟨w.heap.size + 1 + 1, 1, none⟩) (fun _ => .inr rfl) _) (p := ⟨w.heap.size + 1 + 1, 2, none⟩) (fun _ => .inr rfl) _) (p := ⟨w.heap.size + 1 + 1, 3, none⟩) (fun _ => .inr rfl) _) (p := ⟨w.heap.size + 1 + 1, 4, none⟩) (fun _ => .inr rfl) _) (p := ⟨w.heap.size + 1 + 1, 5, none⟩) (fun _ => .inr rfl) _) (p := ⟨w.heap.size + 1 + 1, 6, none⟩) (fun _ => .inr rfl) _) (p := ⟨w.heap.size + 1 + 1, 7, none⟩) (fun _ => .inr rfl) _) (p := ⟨w.heap.size + 1 + 1, 8, none⟩) (fun _ => .inr rfl) _) (p := ⟨w.heap.size + 1 + 1, 9, none⟩) (fun _ => .inr rfl) _) (p := ⟨w.heap.size + 1 + 1, 10, none⟩) (fun _ => .inr rfl) _) (p := ⟨w.heap.size + 1 + 1, 11, none⟩) (fun _ => .inr rfl) _
        have r0 := cell_of_blk ho 0
        have r1 := cell_of_blk ho 1
        have r2 := cell_of_blk ho 2
        have r3 := cell_of_blk ho 3
        have r4 := cell_of_blk ho 4
        have r5 := cell_of_blk ho 5
        have r6 := cell_of_blk ho 6
        have r7 := cell_of_blk ho 7
        have r8 := cell_of_blk ho 8
        have r9 := cell_of_blk ho 9
        have r10 := cell_of_blk ho 10
        have r11 := cell_of_blk ho 11
        have hw4 := HW4.out
        have hov10 : Row WE (fun b => S b ∨ w.heap.size ≤ b) 7 n10 (.slice A' n10 c') (ll'.flatMap encLst) := ((HRU.out.below HB2.out).mut hmu (fun b _ hb h => by omega)).weaken (fun b _ h => h.elim (fun h => .inl h.1) (fun h => .inr (by omega)))
        have hov : Row WE (fun b => S b ∨ w.heap.size ≤ b) 7 n11 (.slice B' n11 d') (lm'.flatMap encMsg) := (HRW.out.mut hmu (fun b _ hb h => by omega)).weaken (fun b _ h => h.elim (fun h => .inl h.1) (fun h => .inr (by omega)))
        have hq : (ll[i]'HI.out).inst = x.inst := by rw [HX.out]
        have hrl1 : (∃ A1 c1, Row WE (fun b => w.heap.size ≤ b) 4 (lm[j]'HJ.out).vN (.slice A1 (lm[j]'HJ.out).vN c1) ((lm[j]'HJ.out).vars.flatMap GVar.cells) ∧ ll' = ll.set i { ll[i]'HI.out with message := r.key2, vA := A1, vN := (lm[j]'HJ.out).vN, vC := c1, vars := (lm[j]'HJ.out).vars }) := by
          rw [show lm[j]'HJ.out = y from HY.out]
          obtain ⟨A1, c1, g1, g2⟩ := HRELU.out
          exact ⟨A1, c1, ((g1.below HB2.out).mut hmu (fun b _ hb h => by omega)).weaken (fun b _ hb => by omega), g2⟩
        have hrl2 : (∃ A1 c1, Row WE (fun b => w.heap.size ≤ b) 1 ((lm[j]'HJ.out).iN + 1) (.slice A1 ((lm[j]'HJ.out).iN + 1) c1) (((lm[j]'HJ.out).insts ++ [(ll[i]'HI.out).inst]).flatMap encU64) ∧ lm' = lm.set j { (lm[j]'HJ.out) with iA := A1, iN := (lm[j]'HJ.out).iN + 1, iC := c1, insts := (lm[j]'HJ.out).insts ++ [(ll[i]'HI.out).inst] }) := by
          rw [hq]
          rcases HREL.out with ⟨g1, -⟩ | ⟨i', hi', y', g1, ⟨A1, c1, rfl, g3⟩, g4⟩
          · rw [h2] at g1; omega
          · obtain rfl : i' = j := by rw [h2] at g1; omega
            exact ⟨A1, c1, (g3.mut hmu (fun b _ hb h => by omega)).weaken (fun b _ hb => by omega), g4⟩
        refine bodyPost_ret (v := .agg #[.int .u64 Pp, .int .u64 Dd, .int .u64 Mm, .slice A3 n3 c3, .slice A4 n4 c4, .slice A5 n5 c5, .slice A6 n6 c6, .slice A7 n7 c7, .slice A8 n8 c8, .slice A9 n9 c9, .slice A' n10 c', .slice B' n11 d']) (by simp [results, Tryz.results72, go_sem, r0, r1, r2, r3, r4, r5, r6, r7, r8, r9, r10, r11]) rfl ⟨.inr ⟨i, HI.out, j, HJ.out, h1, h2, A', c', ll', B', d', lm', rfl, hov10, hov, hrl1, hrl2⟩, hbe⟩
end Go.Proofs.YtgpkmellpllmgaaGreat
/-
  sending, missed, from a state to a state. Printed by gfold2.py.
-/
set_option linter.unusedVariables false
set_option linter.unusedSimpArgs false
namespace Go.Proofs.YtgpkmellpllmgaaGreat
open Go Go.RowKit Go.Proofs.Base
open Go.Sort (grow)
theorem idx_pureL {q : ELst → Bool} (hq : ∀ x, q (pureLst x) = q x) (l : List ELst) : idxP q (l.map pureLst) = idxP q l := idxP_map pureLst _ q hq l
theorem idx_pureM {q : EMsg → Bool} (hq : ∀ x, q (pureMsg x) = q x) (l : List EMsg) : idxP q (l.map pureMsg) = idxP q l := idxP_map pureMsg _ q hq l
theorem missP_none {r : GRec} {g : GSt} (h : idxP (isLst r) g.listed = -1) : missP r g = g := by
  unfold missP
  rw [h]
  split
  · rw [if_pos (by decide)]
  · rfl
theorem missP_some {r : GRec} {g : GSt} {i : Nat} (hi : i < g.listed.length) (h : idxP (isLst r) g.listed = (i : Int)) : missP r g = { g with listed := g.listed.filter fun x => !isLst r x, msgs := changeL (isMsg r) (fun x => { x with insts := x.insts.filter fun k => !(k == g.listed[i].inst) }) g.msgs } := by
  unfold missP
  rw [h, show (i : Int).toNat = i from Int.toNat_natCast i, List.getElem?_eq_getElem hi]
  simp only
  rw [if_neg (by omega)]
theorem sendP_none {r : GRec} {g : GSt} (h : idxP (isLst r) g.listed = -1 ∨ idxP (isMsg r) g.msgs = -1) : sendP r g = g := by
  unfold sendP
  split
  · rw [if_pos (by omega)]
  · rfl
theorem sendP_some {r : GRec} {g : GSt} {i j : Nat} (hi : i < g.listed.length) (hj : j < g.msgs.length) (h : idxP (isLst r) g.listed = (i : Int)) (h2 : idxP (isMsg r) g.msgs = (j : Int)) : sendP r g = { g with listed := g.listed.set i { g.listed[i] with message := r.key2, vars := g.msgs[j].vars }, msgs := g.msgs.set j { g.msgs[j] with insts := g.msgs[j].insts ++ [g.listed[i].inst] } } := by
  unfold sendP
  rw [h, h2, show (i : Int).toNat = i from Int.toNat_natCast i, show (j : Int).toNat = j from Int.toNat_natCast j, List.getElem?_eq_getElem hi, List.getElem?_eq_getElem hj]
  simp only
  rw [if_neg (by omega), changeL_some hi h, changeL_some hj h2]
set_option maxRecDepth 100000 in
set_option maxHeartbeats 4000000 in
theorem u_missed (W : World) (S : Nat → Prop) (v : StV) (g : GSt) (r : GRec) (vA : Option Addr) (vN vC : Nat) (hst : StR W S v g) (hv : VarsR W S vA vN vC r.vars) (hfit : g.fits) (hints : ∀ x ∈ g.msgs, x.insts.length * 8 ≤ 140737488355328) :
    Calls Tryz.prog 74 #[.agg v.vals, .agg #[.int .i64 r.cls, .int .i64 r.kind, .int .u64 r.frm, .int .i64 r.time, .int .u64 r.key, .int .u64 r.key2, .int .u64 r.key3, .int .i64 r.n, .int .i64 r.m, .string r.a, .string r.b, .string r.c, .slice vA vN vC]] W fun e w' => ∃ v' g', e = .returned (.agg v'.vals) ∧ StR w' (fun b => S b ∨ W.heap.size ≤ b) v' g' ∧ g'.pure = missP r g.pure ∧ Below W.heap.size W w' := by
  obtain ⟨_, _, hve, hvc, hvm⟩ := hv.2.2.open_
  injection hve with _ _ hve
  subst hve
  refine (ev_missed v.Pp v.Dd v.Mm v.A3 v.n3 v.c3 v.A4 v.n4 v.c4 v.A5 v.n5 v.c5 v.A6 v.n6 v.c6 v.A7 v.n7 v.c7 v.A8 v.n8 v.c8 v.A9 v.n9 v.c9 v.A10 v.n10 v.c10 v.A11 v.n11 v.c11 r vA vN vC g.listed g.msgs W S hst.listed.1 (by rw [← hst.listed.1]; exact hfit.2.2.2.2.2.2.2.1) hst.listed.2 hst.msgs.1 (by rw [← hst.msgs.1]; exact hfit.2.2.2.2.2.2.2.2) hst.msgs.2 hvc hvm (fun x hx => ⟨(hst.imsg x hx).1, by rw [← (hst.imsg x hx).1]; exact hints x hx, (hst.imsg x hx).2⟩)).mono ?_
  rintro e w' ⟨⟨h1, rfl⟩ | ⟨i, hi, h1, A', Ln, c', B', d', lm', rfl, hLn, hown, hrow, hrel⟩, hb⟩
  · exact ⟨v, g, rfl, (hst.below (S' := fun b => S b ∨ W.heap.size ≤ b) hb (fun b _ h => .inl h)), (missP_none (g := g.pure) ((idx_pureL (q := isLst r) (fun _ => rfl) _).trans h1)).symm, hb⟩
  · have hlm : lm'.length = v.n11 := by
      rcases hrel with ⟨-, rfl⟩ | ⟨j, hj, A1, n1, c1, g1, g2, g3, rfl⟩
      · exact hst.msgs.1
      · rw [List.length_set]; exact hst.msgs.1
    refine ⟨{ v with A10 := A', n10 := Ln, c10 := c', A11 := B', c11 := d' }, { g with listed := g.listed.filter fun x => !isLst r x, msgs := lm' }, rfl, ?_, ?_, hb⟩
    · exact { (hst.below (S' := fun b => S b ∨ W.heap.size ≤ b) hb (fun b _ h => .inl h)) with
        listed := ⟨hLn.symm, (Row.of_own hown).weaken (fun b _ h => .inr h.1)⟩
        msgs := ⟨hlm, hrow⟩
        vlist := fun y hy => (hst.below (S' := fun b => S b ∨ W.heap.size ≤ b) hb (fun b _ h => .inl h)).vlist y (List.mem_filter.1 hy).1
        vmsg := by
          rcases hrel with ⟨-, rfl⟩ | ⟨j, hj, A1, n1, c1, g1, g2, g3, rfl⟩
          · exact (hst.below (S' := fun b => S b ∨ W.heap.size ≤ b) hb (fun b _ h => .inl h)).vmsg
          · exact fun y hy => (List.mem_or_eq_of_mem_set hy).elim (fun h => (hst.below (S' := fun b => S b ∨ W.heap.size ≤ b) hb (fun b _ h => .inl h)).vmsg y h) (fun e => by rw [e]; exact (hst.below (S' := fun b => S b ∨ W.heap.size ≤ b) hb (fun b _ h => .inl h)).vmsg g.msgs[j] (List.getElem_mem hj))
        imsg := by
          rcases hrel with ⟨-, rfl⟩ | ⟨j, hj, A1, n1, c1, g1, g2, g3, rfl⟩
          · exact (hst.below (S' := fun b => S b ∨ W.heap.size ≤ b) hb (fun b _ h => .inl h)).imsg
          · exact fun y hy => (List.mem_or_eq_of_mem_set hy).elim (fun h => (hst.below (S' := fun b => S b ∨ W.heap.size ≤ b) hb (fun b _ h => .inl h)).imsg y h) (fun e => e ▸ ⟨g2.symm, g3.weaken (fun _ _ h => .inr h)⟩) }
    · rw [missP_some (g := g.pure) (i := i) (by show i < (g.listed.map pureLst).length; rw [List.length_map]; exact hi) ((idx_pureL (q := isLst r) (fun _ => rfl) _).trans h1)]
      have hins : (g.pure.listed[i]'(by show i < (g.listed.map pureLst).length; rw [List.length_map]; exact hi)).inst = g.listed[i].inst := by
        show ((g.listed.map pureLst)[i]'_).inst = _
        rw [List.getElem_map]; rfl
      rw [hins]
      rcases hrel with ⟨g0, rfl⟩ | ⟨j, hj, A1, n1, c1, g1, g2, g3, rfl⟩
      · rw [changeL_none (by exact (idx_pureM (q := isMsg r) (fun _ => rfl) _).trans g0)]
        unfold GSt.pure
        simp only
        rw [List.filter_map]
        rfl
      · rw [changeL_some (i := j) (by show j < (g.msgs.map pureMsg).length; rw [List.length_map]; exact hj) (by exact (idx_pureM (q := isMsg r) (fun _ => rfl) _).trans g1)]
        unfold GSt.pure
        simp only
        rw [List.filter_map, List.map_set, List.getElem_map]
        rfl
set_option maxRecDepth 100000 in
set_option maxHeartbeats 4000000 in
theorem u_sending (W : World) (S : Nat → Prop) (v : StV) (g : GSt) (r : GRec) (vA : Option Addr) (vN vC : Nat) (hst : StR W S v g) (hv : VarsR W S vA vN vC r.vars) (hroom : g.room) :
    Calls Tryz.prog 72 #[.agg v.vals, .agg #[.int .i64 r.cls, .int .i64 r.kind, .int .u64 r.frm, .int .i64 r.time, .int .u64 r.key, .int .u64 r.key2, .int .u64 r.key3, .int .i64 r.n, .int .i64 r.m, .string r.a, .string r.b, .string r.c, .slice vA vN vC]] W fun e w' => ∃ v' g', e = .returned (.agg v'.vals) ∧ StR w' (fun b => S b ∨ W.heap.size ≤ b) v' g' ∧ g'.pure = sendP r g.pure ∧ Below W.heap.size W w' := by
  obtain ⟨_, _, hve, hvc, hvm⟩ := hv.2.2.open_
  injection hve with _ _ hve
  subst hve
  refine (ev_sending v.Pp v.Dd v.Mm v.A3 v.n3 v.c3 v.A4 v.n4 v.c4 v.A5 v.n5 v.c5 v.A6 v.n6 v.c6 v.A7 v.n7 v.c7 v.A8 v.n8 v.c8 v.A9 v.n9 v.c9 v.A10 v.n10 v.c10 v.A11 v.n11 v.c11 r vA vN vC g.listed g.msgs W S hst.listed.1 (by have h := hroom.2.2.2.2.2.2.2.1; rw [← hst.listed.1]; omega) hst.listed.2 hst.msgs.1 (by have h := hroom.2.2.2.2.2.2.2.2.1; rw [← hst.msgs.1]; omega) hst.msgs.2 hvc hvm (fun x hx => ⟨(hst.imsg x hx).1, by rw [← (hst.imsg x hx).1]; exact hroom.2.2.2.2.2.2.2.2.2 x hx, (hst.imsg x hx).2⟩) (fun x hx => hst.vmsg x hx)).mono ?_
  rintro e w' ⟨⟨h1, rfl⟩ | ⟨i, hi, j, hj, h1, h2, A', c', ll', B', d', lm', rfl, hrow1, hrow2, ⟨A1, c1, k1, rfl⟩, ⟨A2, c2, k2, rfl⟩⟩, hb⟩
  · exact ⟨v, g, rfl, (hst.below (S' := fun b => S b ∨ W.heap.size ≤ b) hb (fun b _ h => .inl h)), (sendP_none (g := g.pure) (h1.elim (fun h => .inl ((idx_pureL (q := isLst r) (fun _ => rfl) _).trans h)) (fun h => .inr ((idx_pureM (q := isMsg r) (fun _ => rfl) _).trans h)))).symm, hb⟩
  · refine ⟨{ v with A10 := A', c10 := c', A11 := B', c11 := d' }, { g with listed := g.listed.set i { g.listed[i] with message := r.key2, vA := A1, vN := g.msgs[j].vN, vC := c1, vars := g.msgs[j].vars }, msgs := g.msgs.set j { g.msgs[j] with iA := A2, iN := g.msgs[j].iN + 1, iC := c2, insts := g.msgs[j].insts ++ [g.listed[i].inst] } }, rfl, { (hst.below (S' := fun b => S b ∨ W.heap.size ≤ b) hb (fun b _ h => .inl h)) with
        listed := ⟨by rw [List.length_set]; exact hst.listed.1, hrow1⟩
        msgs := ⟨by rw [List.length_set]; exact hst.msgs.1, hrow2⟩
        vlist := fun y hy => (List.mem_or_eq_of_mem_set hy).elim (fun h => (hst.below (S' := fun b => S b ∨ W.heap.size ≤ b) hb (fun b _ h => .inl h)).vlist y h) (fun e => e ▸ ⟨(hst.vmsg _ (List.getElem_mem hj)).1, (hst.vmsg _ (List.getElem_mem hj)).2.1, k1.weaken (fun _ _ h => .inr h)⟩)
        vmsg := fun y hy => (List.mem_or_eq_of_mem_set hy).elim (fun h => (hst.below (S' := fun b => S b ∨ W.heap.size ≤ b) hb (fun b _ h => .inl h)).vmsg y h) (fun e => by rw [e]; exact (hst.below (S' := fun b => S b ∨ W.heap.size ≤ b) hb (fun b _ h => .inl h)).vmsg g.msgs[j] (List.getElem_mem hj))
        imsg := fun y hy => (List.mem_or_eq_of_mem_set hy).elim (fun h => (hst.below (S' := fun b => S b ∨ W.heap.size ≤ b) hb (fun b _ h => .inl h)).imsg y h) (fun e => e ▸ ⟨by show (_ ++ [_]).length = _; rw [List.length_append, (hst.imsg _ (List.getElem_mem hj)).1]; rfl, k2.weaken (fun _ _ h => .inr h)⟩) }, ?_, hb⟩
    have hi2 : i < g.pure.listed.length := by show i < (g.listed.map pureLst).length; rw [List.length_map]; exact hi
    have hj2 : j < g.pure.msgs.length := by show j < (g.msgs.map pureMsg).length; rw [List.length_map]; exact hj
    rw [sendP_some (g := g.pure) hi2 hj2 ((idx_pureL (q := isLst r) (fun _ => rfl) _).trans h1) ((idx_pureM (q := isMsg r) (fun _ => rfl) _).trans h2)]
    have e1 : g.pure.listed[i] = pureLst g.listed[i] := List.getElem_map pureLst
    have e2 : g.pure.msgs[j] = pureMsg g.msgs[j] := List.getElem_map pureMsg
    rw [e1, e2]
    unfold GSt.pure
    simp only
    rw [List.map_set, List.map_set]
    rfl
end Go.Proofs.YtgpkmellpllmgaaGreat
/-
  fold.Apply, whole. Printed by gfold2.py.
-/
set_option linter.unusedVariables false
set_option linter.unusedSimpArgs false
namespace Go.Proofs.YtgpkmellpllmgaaGreat
open Go Go.RowKit Go.Proofs.Base
open Go.Sort (grow)
set_option maxRecDepth 100000 in
set_option maxHeartbeats 4000000 in
theorem u_apply {w : World} {S : Nat → Prop} {v : StV} {g : GSt} {r : GRec} {vA : Option Addr} {vN vC : Nat} (pos : Int) (hst : StR w S v g) (hv : VarsR w S vA vN vC r.vars) (hki : i64 r.kind) (hwf : g.wf) (hfit : g.fits) (hints : ∀ x ∈ g.msgs, x.insts.length * 8 ≤ 140737488355328) (hroom : r.cls = 2 → putKind r.kind → g.room) :
    Calls Tryz.prog 10 #[.agg v.vals, .int .u64 pos, .agg #[.int .i64 r.cls, .int .i64 r.kind, .int .u64 r.frm, .int .i64 r.time, .int .u64 r.key, .int .u64 r.key2, .int .u64 r.key3, .int .i64 r.n, .int .i64 r.m, .string r.a, .string r.b, .string r.c, .slice vA vN vC]] w (Applied w S pos r g) := by
  refine u_apply_but pos hst hv hki hwf hfit hroom (fun hc hk => ?_) (fun hc hk => ?_)
  · refine apply_ev pos hst hv hki hc 72 (by rw [hk]; rfl) (enters_of Tryz.func72 (by kernel_rfl) rfl) (fun W v2 g2 hs2 hv2 hg2 => ?_)
    refine (u_sending W _ v2 g2 r vA vN vC hs2 hv2 (by subst hg2; exact hroom hc (by unfold putKind; omega))).mono ?_
    rintro e w' ⟨v', g', he, hs, hp, hb⟩
    refine ⟨v', g', he, hs, ?_, hb⟩
    rw [hp]
    unfold evP
    simp [hk]
  · refine apply_ev pos hst hv hki hc 74 (by rw [hk]; rfl) (enters_of Tryz.func74 (by kernel_rfl) rfl) (fun W v2 g2 hs2 hv2 hg2 => ?_)
    refine (u_missed W _ v2 g2 r vA vN vC hs2 hv2 (by subst hg2; exact hfit) (by subst hg2; exact hints)).mono ?_
    rintro e w' ⟨v', g', he, hs, hp, hb⟩
    refine ⟨v', g', he, hs, ?_, hb⟩
    rw [hp]
    unfold evP
    simp [hk]
end Go.Proofs.YtgpkmellpllmgaaGreat
/-
  Plain laws of what fold.Apply does: lengths, keys, rising lists, how many keys were given. Printed by gfold11.py.
-/
set_option linter.unusedVariables false
set_option linter.unusedSimpArgs false
namespace Go.Proofs.Base
open Go Go.RowKit
theorem ite_both {α : Type} {P : α → Prop} {c : Prop} [Decidable c] {a b : α} (h1 : c → P a) (h2 : ¬c → P b) : P (if c then a else b) := by
  by_cases h : c
  · rw [if_pos h]; exact h1 h
  · rw [if_neg h]; exact h2 h
theorem memP {α : Type} {c : α → α → Int} {x y : α} {l : List α} (h : y ∈ putL c x l) : y = x ∨ y ∈ l := by
  unfold putL at h
  split at h
  · exact (List.mem_or_eq_of_mem_set h).symm
  · rcases List.mem_append.1 h with h | h
    · exact .inr (List.mem_of_mem_take h)
    · rcases List.mem_cons.1 h with h | h
      · exact .inl h
      · exact .inr (List.mem_of_mem_drop h)
theorem changeP_cases {α : Type} (p : α → Bool) (f : α → α) (l : List α) : changeL p f l = l ∨ ∃ i, ∃ h : i < l.length, changeL p f l = l.set i (f l[i]) := by
  rcases idxP_spec p l with ⟨h1, -⟩ | ⟨j, hj, h1, -, -⟩
  · left; unfold changeL; rw [h1, if_pos (by decide)]
  · right; exact ⟨j, hj, (changeL_of (.inr ⟨j, hj, _, h1, rfl, rfl⟩)).symm⟩
theorem memC {α : Type} {p : α → Bool} {f : α → α} {y : α} {l : List α} (h : y ∈ changeL p f l) : y ∈ l ∨ ∃ x ∈ l, y = f x := by
  rcases changeP_cases p f l with e | ⟨i, hi, e⟩
  · rw [e] at h; exact .inl h
  · rw [e] at h
    exact (List.mem_or_eq_of_mem_set h).elim .inl (fun e => .inr ⟨_, List.getElem_mem hi, e⟩)
structure Small (N : Nat) (g : GSt) : Prop where
  procs : g.procs.length ≤ N
  insts : g.insts.length ≤ N
  tokens : g.tokens.length ≤ N
  jobs : g.jobs.length ≤ N
  timers : g.timers.length ≤ N
  subs : g.subs.length ≤ N
  kept : g.kept.length ≤ N
  listed : g.listed.length ≤ N
  msgs : g.msgs.length ≤ N
  ints : ∀ x ∈ g.msgs, x.insts.length ≤ N
theorem Small.up {N : Nat} {g : GSt} (h : Small N g) : Small (N + 1) g := ⟨Nat.le_succ_of_le h.procs, Nat.le_succ_of_le h.insts, Nat.le_succ_of_le h.tokens, Nat.le_succ_of_le h.jobs, Nat.le_succ_of_le h.timers, Nat.le_succ_of_le h.subs, Nat.le_succ_of_le h.kept, Nat.le_succ_of_le h.listed, Nat.le_succ_of_le h.msgs, fun x hx => Nat.le_succ_of_le (h.ints x hx)⟩
theorem small_goneP {N : Nat} {g : GSt} {p : ETok → Bool} {al : Int → Bool} (h : Small N g) : Small N (goneP p al g) :=
  { h with tokens := Nat.le_trans (List.length_filter_le _ _) h.tokens, jobs := Nat.le_trans (List.length_filter_le _ _) h.jobs, timers := Nat.le_trans (List.length_filter_le _ _) h.timers, subs := Nat.le_trans (List.length_filter_le _ _) h.subs }
theorem small_sendP {N : Nat} {g : GSt} {r : GRec} (h : Small N g) : Small (N + 1) (sendP r g) := by
  unfold sendP
  split
  · split
    · exact h.up
    · refine { h.up with listed := ?_, msgs := ?_, ints := ?_ }
      · simpa only [changeL_len] using h.up.listed
      · simpa only [changeL_len] using h.up.msgs
      · intro x hx
        rcases memC hx with hx | ⟨y, hy, rfl⟩
        · exact h.up.ints x hx
        · have := h.ints y hy
          simp only [List.length_append, List.length_cons, List.length_nil]
          omega
  · exact h.up
theorem small_missP {N : Nat} {g : GSt} {r : GRec} (h : Small N g) : Small N (missP r g) := by
  unfold missP
  split
  · split
    · exact h
    · refine { h with listed := Nat.le_trans (List.length_filter_le _ _) h.listed, msgs := ?_, ints := ?_ }
      · simpa only [changeL_len] using h.msgs
      · intro x hx
        rcases memC hx with hx | ⟨y, hy, rfl⟩
        · exact h.ints x hx
        · exact Nat.le_trans (List.length_filter_le _ _) (h.ints y hy)
  · exact h
theorem small_evP {N : Nat} {g : GSt} {r : GRec} (h : Small N g) : Small (N + 1) (evP r g) := by
  unfold evP
  refine ite_both (P := fun g1 : GSt => Small (N + 1) g1) (fun h1 => ?_) (fun h1 => ?_)
  · exact { h.up with procs := Nat.le_trans (putL_len _ _ _) (Nat.succ_le_succ h.procs) }
  refine ite_both (P := fun g1 : GSt => Small (N + 1) g1) (fun h2 => ?_) (fun h2 => ?_)
  · exact { h.up with insts := Nat.le_trans (putL_len _ _ _) (Nat.succ_le_succ h.insts) }
  refine ite_both (P := fun g1 : GSt => Small (N + 1) g1) (fun h3 => ?_) (fun h3 => ?_)
  · exact { h.up with tokens := Nat.le_trans (putL_len _ _ _) (Nat.succ_le_succ h.tokens) }
  refine ite_both (P := fun g1 : GSt => Small (N + 1) g1) (fun h4 => ?_) (fun h4 => ?_)
  · exact small_goneP h.up
  refine ite_both (P := fun g1 : GSt => Small (N + 1) g1) (fun h6 => ?_) (fun h6 => ?_)
  · exact { h.up with jobs := Nat.le_trans (putL_len _ _ _) (Nat.succ_le_succ h.jobs) }
  refine ite_both (P := fun g1 : GSt => Small (N + 1) g1) (fun h7 => ?_) (fun h7 => ?_)
  · exact { h.up with jobs := by simpa only [changeL_len] using h.up.jobs }
  refine ite_both (P := fun g1 : GSt => Small (N + 1) g1) (fun h8 => ?_) (fun h8 => ?_)
  · exact { h.up with jobs := by simpa only [changeL_len] using h.up.jobs }
  refine ite_both (P := fun g1 : GSt => Small (N + 1) g1) (fun h9 => ?_) (fun h9 => ?_)
  · exact { h.up with insts := by simpa only [changeL_len] using h.up.insts }
  refine ite_both (P := fun g1 : GSt => Small (N + 1) g1) (fun h10 => ?_) (fun h10 => ?_)
  · exact { h.up with timers := Nat.le_trans (putL_len _ _ _) (Nat.succ_le_succ h.timers) }
  refine ite_both (P := fun g1 : GSt => Small (N + 1) g1) (fun h11 => ?_) (fun h11 => ?_)
  · exact { h.up with subs := Nat.le_trans (putL_len _ _ _) (Nat.succ_le_succ h.subs) }
  refine ite_both (P := fun g1 : GSt => Small (N + 1) g1) (fun h12 => ?_) (fun h12 => ?_)
  · exact { h.up with subs := by simpa only [changeL_len] using h.up.subs }
  refine ite_both (P := fun g1 : GSt => Small (N + 1) g1) (fun h13 => ?_) (fun h13 => ?_)
  · exact { h.up with tokens := by simpa only [changeL_len] using h.up.tokens }
  refine ite_both (P := fun g1 : GSt => Small (N + 1) g1) (fun h14 => ?_) (fun h14 => ?_)
  · exact { h.up with tokens := by simpa only [changeL_len] using h.up.tokens }
  refine ite_both (P := fun g1 : GSt => Small (N + 1) g1) (fun h15 => ?_) (fun h15 => ?_)
  · exact small_goneP { h.up with insts := Nat.le_trans (List.length_filter_le _ _) h.up.insts }
  refine ite_both (P := fun g1 : GSt => Small (N + 1) g1) (fun h17 => ?_) (fun h17 => ?_)
  · exact { h.up with kept := Nat.le_trans (putL_len _ _ _) (Nat.succ_le_succ h.kept) }
  refine ite_both (P := fun g1 : GSt => Small (N + 1) g1) (fun h18 => ?_) (fun h18 => ?_)
  · exact { h.up with listed := Nat.le_trans (putL_len _ _ _) (Nat.succ_le_succ h.listed) }
  refine ite_both (P := fun g1 : GSt => Small (N + 1) g1) (fun h19 => ?_) (fun h19 => ?_)
  · exact { h.up with msgs := Nat.le_trans (putL_len _ _ _) (Nat.succ_le_succ h.msgs), ints := fun x hx => (memP hx).elim (fun e => by rw [e]; exact Nat.zero_le _) (fun hx => h.up.ints x hx) }
  refine ite_both (P := fun g1 : GSt => Small (N + 1) g1) (fun h20 => ?_) (fun h20 => ?_)
  · exact { h.up with msgs := Nat.le_trans (List.length_filter_le _ _) h.up.msgs, ints := fun x hx => h.up.ints x (List.mem_filter.1 hx).1 }
  refine ite_both (P := fun g1 : GSt => Small (N + 1) g1) (fun h21 => ?_) (fun h21 => ?_)
  · exact small_sendP h
  refine ite_both (P := fun g1 : GSt => Small (N + 1) g1) (fun h22 => ?_) (fun h22 => ?_)
  · exact { h.up with listed := Nat.le_trans (List.length_filter_le _ _) h.up.listed }
  refine ite_both (P := fun g1 : GSt => Small (N + 1) g1) (fun h23 => ?_) (fun h23 => ?_)
  · exact (small_missP h).up
  exact h.up
theorem small_placed {N : Nat} {g : GSt} (h : Small N g) (p d : Int) : Small N { g with pos := p, done := d } := { h with }
theorem small_applyP {N : Nat} {g : GSt} {r : GRec} (pos : Int) (h : Small N g) : Small (N + 1) (applyP pos r g) := by
  unfold applyP
  split
  · exact (small_placed h pos g.done).up
  · split
    · exact small_evP (small_placed h _ _)
    · exact (small_placed h _ _).up
theorem wf_goneP {g : GSt} {p : ETok → Bool} {al : Int → Bool} (h : g.wf) : (goneP p al g).wf :=
  ⟨fun x hx => h.1 x (List.mem_filter.1 hx).1, fun x hx => h.2.1 x (List.mem_filter.1 hx).1, fun x hx => h.2.2.1 x (List.mem_filter.1 hx).1, fun x hx => h.2.2.2 x (List.mem_filter.1 hx).1⟩
theorem wf_sendP {g : GSt} {r : GRec} (h : g.wf) : (sendP r g).wf := by
  unfold sendP
  split
  · split <;> exact h
  · exact h
theorem wf_missP {g : GSt} {r : GRec} (h : g.wf) : (missP r g).wf := by
  unfold missP
  split
  · split <;> exact h
  · exact h
theorem wf_evP {g : GSt} {r : GRec} (hr : u64 r.key ∧ u64 r.key2) (h : g.wf) : (evP r g).wf := by
  unfold evP
  refine ite_both (P := fun g1 : GSt => g1.wf) (fun h1 => ?_) (fun h1 => ?_)
  · exact h
  refine ite_both (P := fun g1 : GSt => g1.wf) (fun h2 => ?_) (fun h2 => ?_)
  · exact h
  refine ite_both (P := fun g1 : GSt => g1.wf) (fun h3 => ?_) (fun h3 => ?_)
  · exact ⟨fun x hx => (memP hx).elim (fun e => by rw [e]; exact hr.1) (h.1 x), h.2.1, h.2.2.1, h.2.2.2⟩
  refine ite_both (P := fun g1 : GSt => g1.wf) (fun h4 => ?_) (fun h4 => ?_)
  · exact wf_goneP h
  refine ite_both (P := fun g1 : GSt => g1.wf) (fun h6 => ?_) (fun h6 => ?_)
  · exact ⟨h.1, fun x hx => (memP hx).elim (fun e => by rw [e]; exact hr.2) (h.2.1 x), h.2.2.1, h.2.2.2⟩
  refine ite_both (P := fun g1 : GSt => g1.wf) (fun h7 => ?_) (fun h7 => ?_)
  · exact ⟨h.1, fun x hx => (memC hx).elim (h.2.1 x) (fun ⟨y, hy, e⟩ => by rw [e]; exact h.2.1 y hy), h.2.2.1, h.2.2.2⟩
  refine ite_both (P := fun g1 : GSt => g1.wf) (fun h8 => ?_) (fun h8 => ?_)
  · exact ⟨h.1, fun x hx => (memC hx).elim (h.2.1 x) (fun ⟨y, hy, e⟩ => by rw [e]; exact h.2.1 y hy), h.2.2.1, h.2.2.2⟩
  refine ite_both (P := fun g1 : GSt => g1.wf) (fun h9 => ?_) (fun h9 => ?_)
  · exact h
  refine ite_both (P := fun g1 : GSt => g1.wf) (fun h10 => ?_) (fun h10 => ?_)
  · exact ⟨h.1, h.2.1, fun x hx => (memP hx).elim (fun e => by rw [e]; exact hr.1) (h.2.2.1 x), h.2.2.2⟩
  refine ite_both (P := fun g1 : GSt => g1.wf) (fun h11 => ?_) (fun h11 => ?_)
  · exact ⟨h.1, h.2.1, h.2.2.1, fun x hx => (memP hx).elim (fun e => by rw [e]; exact hr.1) (h.2.2.2 x)⟩
  refine ite_both (P := fun g1 : GSt => g1.wf) (fun h12 => ?_) (fun h12 => ?_)
  · exact ⟨h.1, h.2.1, h.2.2.1, fun x hx => (memC hx).elim (h.2.2.2 x) (fun ⟨y, hy, e⟩ => by rw [e]; exact h.2.2.2 y hy)⟩
  refine ite_both (P := fun g1 : GSt => g1.wf) (fun h13 => ?_) (fun h13 => ?_)
  · exact ⟨fun x hx => (memC hx).elim (h.1 x) (fun ⟨y, hy, e⟩ => by rw [e]; exact h.1 y hy), h.2.1, h.2.2.1, h.2.2.2⟩
  refine ite_both (P := fun g1 : GSt => g1.wf) (fun h14 => ?_) (fun h14 => ?_)
  · exact ⟨fun x hx => (memC hx).elim (h.1 x) (fun ⟨y, hy, e⟩ => by rw [e]; exact h.1 y hy), h.2.1, h.2.2.1, h.2.2.2⟩
  refine ite_both (P := fun g1 : GSt => g1.wf) (fun h15 => ?_) (fun h15 => ?_)
  · exact wf_goneP (g := { g with insts := _ }) h
  refine ite_both (P := fun g1 : GSt => g1.wf) (fun h17 => ?_) (fun h17 => ?_)
  · exact h
  refine ite_both (P := fun g1 : GSt => g1.wf) (fun h18 => ?_) (fun h18 => ?_)
  · exact h
  refine ite_both (P := fun g1 : GSt => g1.wf) (fun h19 => ?_) (fun h19 => ?_)
  · exact h
  refine ite_both (P := fun g1 : GSt => g1.wf) (fun h20 => ?_) (fun h20 => ?_)
  · exact h
  refine ite_both (P := fun g1 : GSt => g1.wf) (fun h21 => ?_) (fun h21 => ?_)
  · exact wf_sendP h
  refine ite_both (P := fun g1 : GSt => g1.wf) (fun h22 => ?_) (fun h22 => ?_)
  · exact h
  refine ite_both (P := fun g1 : GSt => g1.wf) (fun h23 => ?_) (fun h23 => ?_)
  · exact wf_missP h
  exact h
theorem wf_applyP {g : GSt} {r : GRec} (pos : Int) (hr : u64 r.key ∧ u64 r.key2) (h : g.wf) : (applyP pos r g).wf := by
  unfold applyP
  split
  · exact h
  · split
    · exact wf_evP hr h
    · exact h
def makes (r : GRec) : Prop := r.cls = 2 ∧ (r.kind = 2 ∨ r.kind = 3 ∨ r.kind = 6 ∨ r.kind = 19)
instance (r : GRec) : Decidable (makes r) := by unfold makes; exact inferInstance
theorem wf_pure {g : GSt} : g.pure.wf ↔ g.wf := Iff.rfl
theorem small_pure {N : Nat} {g : GSt} : Small N g.pure ↔ Small N g := by
  constructor
  · intro h
    exact ⟨h.procs, by simpa [GSt.pure] using h.insts, h.tokens, h.jobs, h.timers, h.subs, h.kept, by simpa [GSt.pure] using h.listed, by simpa [GSt.pure] using h.msgs, fun x hx => h.ints (pureMsg x) (List.mem_map_of_mem hx)⟩
  · intro h
    refine ⟨h.procs, by simpa [GSt.pure] using h.insts, h.tokens, h.jobs, h.timers, h.subs, h.kept, by simpa [GSt.pure] using h.listed, by simpa [GSt.pure] using h.msgs, fun x hx => ?_⟩
    obtain ⟨y, hy, rfl⟩ := List.mem_map.1 hx
    exact h.ints y hy
theorem Small.fits {N : Nat} {g : GSt} (h : Small N g) (hN : N * 144 ≤ 140737488355328) : g.fits := by
  obtain ⟨h0, h1, h2, h3, h4, h5, h6, h7, h8, _⟩ := h
  unfold GSt.fits
  omega
theorem Small.ints8 {N : Nat} {g : GSt} (h : Small N g) (hN : N * 144 ≤ 140737488355328) : ∀ x ∈ g.msgs, x.insts.length * 8 ≤ 140737488355328 := fun x hx => by have := h.ints x hx; omega
theorem Small.room {N : Nat} {g : GSt} (h : Small N g) (hN : (N + 1) * 144 ≤ 140737488355328) : g.room := by
  obtain ⟨h0, h1, h2, h3, h4, h5, h6, h7, h8, hi⟩ := h
  unfold GSt.room
  refine ⟨by omega, by omega, by omega, by omega, by omega, by omega, by omega, by omega, by omega, fun x hx => ?_⟩
  have := hi x hx
  omega
def emptyP : GSt := ⟨0, 0, 0, [], [], [], [], [], [], [], [], []⟩
theorem small_empty : Small 0 emptyP := ⟨Nat.le_refl 0, Nat.le_refl 0, Nat.le_refl 0, Nat.le_refl 0, Nat.le_refl 0, Nat.le_refl 0, Nat.le_refl 0, Nat.le_refl 0, Nat.le_refl 0, fun _ h => by cases h⟩
theorem wf_empty : emptyP.wf := by unfold emptyP GSt.wf; simp
end Go.Proofs.Base
/-
  The lists of a state keep rising; what an instance had is gone when it has ended. Printed by gfold12.py.
-/
set_option linter.unusedVariables false
set_option linter.unusedSimpArgs false
namespace Go.Proofs.Base
open Go Go.RowKit
theorem set_rises {α : Type} {lt : α → α → Prop} {l : List α} {j : Nat} (hj : j < l.length) {y : α} (h1 : ∀ z, lt z l[j] → lt z y) (h2 : ∀ z, lt l[j] z → lt y z) (h : l.Pairwise lt) : (l.set j y).Pairwise lt := by
  rw [List.pairwise_iff_getElem] at h ⊢
  intro a b ha hb hab
  rw [List.getElem_set, List.getElem_set]
  simp only [List.length_set] at ha hb
  split
  · rename_i e
    subst e
    rw [if_neg (by omega)]
    exact h2 _ (h _ _ hj hb hab)
  · split
    · rename_i e
      subst e
      exact h1 _ (h _ _ ha hj hab)
    · exact h _ _ ha hb hab
theorem changeL_rises {α : Type} {lt : α → α → Prop} {p : α → Bool} {f : α → α} (hf : ∀ x z, (lt z x → lt z (f x)) ∧ (lt x z → lt (f x) z)) {l : List α} (h : l.Pairwise lt) : (changeL p f l).Pairwise lt := by
  rcases changeP_cases p f l with e | ⟨i, hi, e⟩
  · rw [e]; exact h
  · rw [e]; exact set_rises hi (fun z => (hf _ z).1) (fun z => (hf _ z).2) h
theorem putL_rises {α : Type} {c : α → α → Int} {lt : α → α → Prop} (tr : ∀ {x y z}, lt x y → lt y z → lt x z) (hz : ∀ x y, c y x = 0 → ∀ z, (lt z y → lt z x) ∧ (lt y z → lt x z)) (hp : ∀ x y, 0 < c y x → lt x y) (hn : ∀ x y, c y x ≠ 0 → ¬ 0 < c y x → lt y x) (x : α) {l : List α} (h : l.Pairwise lt) : (putL c x l).Pairwise lt := by
  unfold putL
  rcases idxP_spec (fun y => decide (c y x = 0)) l with ⟨h1, hno⟩ | ⟨j, hj, h1, hy, -⟩
  · rw [h1, if_neg (by decide)]
    have hne : ∀ y ∈ l, c y x ≠ 0 := fun y hy => of_decide_eq_false (hno y hy)
    unfold spotL
    rcases idxP_spec (fun y => decide (0 < c y x)) l with ⟨h2, hno2⟩ | ⟨k, hk, h2, hy2, hb⟩
    · rw [h2, if_pos (by decide), List.take_length, List.drop_length, List.pairwise_append]
      refine ⟨h, List.pairwise_singleton _ _, fun a ha b hb => ?_⟩
      rw [List.mem_singleton.1 hb]
      exact hn x a (hne a ha) (of_decide_eq_false (hno2 a ha))
    · rw [h2, if_neg (by omega), show (k : Int).toNat = k from Int.toNat_natCast k]
      have hxk : lt x l[k] := hp x _ (of_decide_eq_true hy2)
      have hup : ∀ y ∈ l.drop k, lt x y := by
        intro y hy
        obtain ⟨i, hi, rfl⟩ := List.getElem_of_mem hy
        rw [List.getElem_drop]
        rcases Nat.eq_zero_or_pos i with rfl | hi0
        · exact hxk
        · exact tr hxk (List.pairwise_iff_getElem.1 h _ _ _ _ (by omega))
      have hlo : ∀ y ∈ l.take k, lt y x := by
        intro y hy
        obtain ⟨i, hi, rfl⟩ := List.getElem_of_mem hy
        rw [List.getElem_take]
        rw [List.length_take] at hi
        exact hn x _ (hne _ (List.getElem_mem _)) (of_decide_eq_false (hb i (by omega)))
      rw [List.pairwise_append, List.pairwise_cons]
      refine ⟨h.sublist (List.take_sublist _ _), ⟨hup, h.sublist (List.drop_sublist _ _)⟩, fun a ha b hb => ?_⟩
      rcases List.mem_cons.1 hb with rfl | hb
      · exact hlo a ha
      · exact tr (hlo a ha) (hup b hb)
  · rw [h1, if_pos (by omega), show (j : Int).toNat = j from Int.toNat_natCast j]
    exact set_rises hj (fun z => (hz x _ (of_decide_eq_true hy) z).1) (fun z => (hz x _ (of_decide_eq_true hy) z).2) h
theorem cmpI_ne {a b : Int} (h : cmpI a b ≠ 0) (h2 : ¬ 0 < cmpI a b) : a < b := by
  have h1 := (not_congr cmpI_zero).1 h
  have h3 := (not_congr cmpI_pos).1 h2
  omega
def ltP (a i b k : Int) : Prop := a < b ∨ (a = b ∧ i < k)
theorem aheadI_zero {a i b k : Int} (h : aheadI a i b k = 0) : a = b ∧ i = k := by
  unfold aheadI at h
  split at h
  · rename_i e; exact ⟨cmpI_zero.1 e, cmpI_zero.1 h⟩
  · rename_i e; exact absurd h e
theorem aheadI_pos {a i b k : Int} (h : 0 < aheadI a i b k) : ltP b k a i := by
  unfold aheadI at h
  split at h
  · rename_i e; exact .inr ⟨(cmpI_zero.1 e).symm, cmpI_pos.1 h⟩
  · exact .inl (cmpI_pos.1 h)
theorem aheadI_ne {a i b k : Int} (h : aheadI a i b k ≠ 0) (h2 : ¬ 0 < aheadI a i b k) : ltP a i b k := by
  unfold aheadI at h h2
  split at h
  · rename_i e; rw [if_pos e] at h2; exact .inr ⟨cmpI_zero.1 e, cmpI_ne h h2⟩
  · rename_i e; rw [if_neg e] at h2; exact .inl (cmpI_ne e h2)
theorem ltP_trans {a i b k c m : Int} (h : ltP a i b k) (h2 : ltP b k c m) : ltP a i c m := by unfold ltP at *; omega
theorem put_key {α : Type} {c : α → α → Int} {f : α → Int} (hc : ∀ y x, c y x = cmpI (f y) (f x)) (x : α) {l : List α} (h : l.Pairwise fun a b => f a < f b) : (putL c x l).Pairwise fun a b => f a < f b :=
  putL_rises (lt := fun a b => f a < f b) (fun h1 h2 => Int.lt_trans h1 h2) (fun x y h z => by rw [hc] at h; have := cmpI_zero.1 h; constructor <;> (intro h; omega)) (fun x y h => by rw [hc] at h; exact cmpI_pos.1 h) (fun x y h h2 => by rw [hc] at h h2; exact cmpI_ne h h2) x h
theorem put_pair {α : Type} {c : α → α → Int} {f g : α → Int} (hc : ∀ y x, c y x = aheadI (f y) (g y) (f x) (g x)) (x : α) {l : List α} (h : l.Pairwise fun a b => ltP (f a) (g a) (f b) (g b)) : (putL c x l).Pairwise fun a b => ltP (f a) (g a) (f b) (g b) :=
  putL_rises (lt := fun a b => ltP (f a) (g a) (f b) (g b)) ltP_trans (fun x y h z => by rw [hc] at h; have := aheadI_zero h; rw [this.1, this.2]; exact ⟨id, id⟩) (fun x y h => by rw [hc] at h; exact aheadI_pos h) (fun x y h h2 => by rw [hc] at h h2; exact aheadI_ne h h2) x h
structure Rises (g : GSt) : Prop where
  insts : g.insts.Pairwise fun a b => a.key < b.key
  tokens : g.tokens.Pairwise fun a b => a.key < b.key
  jobs : g.jobs.Pairwise fun a b => a.key < b.key
  msgs : g.msgs.Pairwise fun a b => a.key < b.key
  timers : g.timers.Pairwise fun a b => ltP a.token a.node b.token b.node
  listed : g.listed.Pairwise fun a b => ltP a.token a.node b.token b.node
theorem rises_goneP {g : GSt} {p : ETok → Bool} {al : Int → Bool} (h : Rises g) : Rises (goneP p al g) :=
  ⟨h.insts, h.tokens.sublist List.filter_sublist, h.jobs.sublist List.filter_sublist, h.msgs, h.timers.sublist List.filter_sublist, h.listed⟩
theorem rises_sendP {g : GSt} {r : GRec} (h : Rises g) : Rises (sendP r g) := by
  unfold sendP
  split
  · split
    · exact h
    · exact { h with listed := (by refine changeL_rises ?_ h.listed; exact fun _ _ => ⟨id, id⟩), msgs := (by refine changeL_rises ?_ h.msgs; exact fun _ _ => ⟨id, id⟩) }
  · exact h
theorem rises_missP {g : GSt} {r : GRec} (h : Rises g) : Rises (missP r g) := by
  unfold missP
  split
  · split
    · exact h
    · exact { h with listed := h.listed.sublist List.filter_sublist, msgs := (by refine changeL_rises ?_ h.msgs; exact fun _ _ => ⟨id, id⟩) }
  · exact h
theorem rises_evP {g : GSt} {r : GRec} (h : Rises g) : Rises (evP r g) := by
  unfold evP
  refine ite_both (P := fun g1 : GSt => Rises g1) (fun h1 => ?_) (fun h1 => ?_)
  · exact { h with }
  refine ite_both (P := fun g1 : GSt => Rises g1) (fun h2 => ?_) (fun h2 => ?_)
  · exact { h with insts := put_key (f := fun x : EInst => x.key) (fun _ _ => rfl) _ h.insts }
  refine ite_both (P := fun g1 : GSt => Rises g1) (fun h3 => ?_) (fun h3 => ?_)
  · exact { h with tokens := put_key (f := fun x : ETok => x.key) (fun _ _ => rfl) _ h.tokens }
  refine ite_both (P := fun g1 : GSt => Rises g1) (fun h4 => ?_) (fun h4 => ?_)
  · exact rises_goneP h
  refine ite_both (P := fun g1 : GSt => Rises g1) (fun h6 => ?_) (fun h6 => ?_)
  · exact { h with jobs := put_key (f := fun x : EJob => x.key) (fun _ _ => rfl) _ h.jobs }
  refine ite_both (P := fun g1 : GSt => Rises g1) (fun h7 => ?_) (fun h7 => ?_)
  · exact { h with jobs := by refine changeL_rises ?_ h.jobs; exact fun _ _ => ⟨id, id⟩ }
  refine ite_both (P := fun g1 : GSt => Rises g1) (fun h8 => ?_) (fun h8 => ?_)
  · exact { h with jobs := by refine changeL_rises ?_ h.jobs; exact fun _ _ => ⟨id, id⟩ }
  refine ite_both (P := fun g1 : GSt => Rises g1) (fun h9 => ?_) (fun h9 => ?_)
  · exact { h with insts := by refine changeL_rises ?_ h.insts; exact fun _ _ => ⟨id, id⟩ }
  refine ite_both (P := fun g1 : GSt => Rises g1) (fun h10 => ?_) (fun h10 => ?_)
  · exact { h with timers := put_pair (f := fun x : ETim => x.token) (g := fun x : ETim => x.node) (fun _ _ => rfl) _ h.timers }
  refine ite_both (P := fun g1 : GSt => Rises g1) (fun h11 => ?_) (fun h11 => ?_)
  · exact { h with }
  refine ite_both (P := fun g1 : GSt => Rises g1) (fun h12 => ?_) (fun h12 => ?_)
  · exact { h with }
  refine ite_both (P := fun g1 : GSt => Rises g1) (fun h13 => ?_) (fun h13 => ?_)
  · exact { h with tokens := by refine changeL_rises ?_ h.tokens; exact fun _ _ => ⟨id, id⟩ }
  refine ite_both (P := fun g1 : GSt => Rises g1) (fun h14 => ?_) (fun h14 => ?_)
  · exact { h with tokens := by refine changeL_rises ?_ h.tokens; exact fun _ _ => ⟨id, id⟩ }
  refine ite_both (P := fun g1 : GSt => Rises g1) (fun h15 => ?_) (fun h15 => ?_)
  · exact rises_goneP { h with insts := h.insts.sublist List.filter_sublist }
  refine ite_both (P := fun g1 : GSt => Rises g1) (fun h17 => ?_) (fun h17 => ?_)
  · exact { h with }
  refine ite_both (P := fun g1 : GSt => Rises g1) (fun h18 => ?_) (fun h18 => ?_)
  · exact { h with listed := put_pair (f := fun x : ELst => x.token) (g := fun x : ELst => x.node) (fun _ _ => rfl) _ h.listed }
  refine ite_both (P := fun g1 : GSt => Rises g1) (fun h19 => ?_) (fun h19 => ?_)
  · exact { h with msgs := put_key (f := fun x : EMsg => x.key) (fun _ _ => rfl) _ h.msgs }
  refine ite_both (P := fun g1 : GSt => Rises g1) (fun h20 => ?_) (fun h20 => ?_)
  · exact { h with msgs := h.msgs.sublist List.filter_sublist }
  refine ite_both (P := fun g1 : GSt => Rises g1) (fun h21 => ?_) (fun h21 => ?_)
  · exact rises_sendP h
  refine ite_both (P := fun g1 : GSt => Rises g1) (fun h22 => ?_) (fun h22 => ?_)
  · exact { h with listed := h.listed.sublist List.filter_sublist }
  refine ite_both (P := fun g1 : GSt => Rises g1) (fun h23 => ?_) (fun h23 => ?_)
  · exact rises_missP h
  exact h
theorem rises_applyP {g : GSt} {r : GRec} (pos : Int) (h : Rises g) : Rises (applyP pos r g) := by
  unfold applyP
  split
  · exact { h with }
  · split
    · exact rises_evP { h with }
    · exact { h with }
theorem rises_empty : Rises emptyP := ⟨.nil, .nil, .nil, .nil, .nil, .nil⟩
theorem pos_sendP (r : GRec) (g : GSt) : (sendP r g).pos = g.pos := by
  unfold sendP
  split
  · split <;> rfl
  · rfl
theorem pos_missP (r : GRec) (g : GSt) : (missP r g).pos = g.pos := by
  unfold missP
  split
  · split <;> rfl
  · rfl
theorem pos_evP (r : GRec) (g : GSt) : (evP r g).pos = g.pos := by
  unfold evP
  refine ite_both (P := fun g1 : GSt => g1.pos = g.pos) (fun h1 => ?_) (fun h1 => ?_)
  · rfl
  refine ite_both (P := fun g1 : GSt => g1.pos = g.pos) (fun h2 => ?_) (fun h2 => ?_)
  · rfl
  refine ite_both (P := fun g1 : GSt => g1.pos = g.pos) (fun h3 => ?_) (fun h3 => ?_)
  · rfl
  refine ite_both (P := fun g1 : GSt => g1.pos = g.pos) (fun h4 => ?_) (fun h4 => ?_)
  · rfl
  refine ite_both (P := fun g1 : GSt => g1.pos = g.pos) (fun h6 => ?_) (fun h6 => ?_)
  · rfl
  refine ite_both (P := fun g1 : GSt => g1.pos = g.pos) (fun h7 => ?_) (fun h7 => ?_)
  · rfl
  refine ite_both (P := fun g1 : GSt => g1.pos = g.pos) (fun h8 => ?_) (fun h8 => ?_)
  · rfl
  refine ite_both (P := fun g1 : GSt => g1.pos = g.pos) (fun h9 => ?_) (fun h9 => ?_)
  · rfl
  refine ite_both (P := fun g1 : GSt => g1.pos = g.pos) (fun h10 => ?_) (fun h10 => ?_)
  · rfl
  refine ite_both (P := fun g1 : GSt => g1.pos = g.pos) (fun h11 => ?_) (fun h11 => ?_)
  · rfl
  refine ite_both (P := fun g1 : GSt => g1.pos = g.pos) (fun h12 => ?_) (fun h12 => ?_)
  · rfl
  refine ite_both (P := fun g1 : GSt => g1.pos = g.pos) (fun h13 => ?_) (fun h13 => ?_)
  · rfl
  refine ite_both (P := fun g1 : GSt => g1.pos = g.pos) (fun h14 => ?_) (fun h14 => ?_)
  · rfl
  refine ite_both (P := fun g1 : GSt => g1.pos = g.pos) (fun h15 => ?_) (fun h15 => ?_)
  · rfl
  refine ite_both (P := fun g1 : GSt => g1.pos = g.pos) (fun h17 => ?_) (fun h17 => ?_)
  · rfl
  refine ite_both (P := fun g1 : GSt => g1.pos = g.pos) (fun h18 => ?_) (fun h18 => ?_)
  · rfl
  refine ite_both (P := fun g1 : GSt => g1.pos = g.pos) (fun h19 => ?_) (fun h19 => ?_)
  · rfl
  refine ite_both (P := fun g1 : GSt => g1.pos = g.pos) (fun h20 => ?_) (fun h20 => ?_)
  · rfl
  refine ite_both (P := fun g1 : GSt => g1.pos = g.pos) (fun h21 => ?_) (fun h21 => ?_)
  · exact pos_sendP r g
  refine ite_both (P := fun g1 : GSt => g1.pos = g.pos) (fun h22 => ?_) (fun h22 => ?_)
  · rfl
  refine ite_both (P := fun g1 : GSt => g1.pos = g.pos) (fun h23 => ?_) (fun h23 => ?_)
  · exact pos_missP r g
  rfl
theorem pos_applyP (pos : Int) (r : GRec) (g : GSt) : (applyP pos r g).pos = pos := by
  unfold applyP
  split
  · rfl
  · split
    · exact pos_evP _ _
    · rfl
theorem ended_applyP (pos : Int) (r : GRec) (g : GSt) (hc : r.cls = 2) (hk : r.kind = 15 ∨ r.kind = 16) : ∀ x ∈ (applyP pos r g).tokens, x.inst ≠ r.key := by
  unfold applyP
  rw [if_neg (by omega), if_pos hc]
  unfold evP
  iterate 13 rw [if_neg (by omega)]
  rw [if_pos hk]
  intro x hx
  have h := (List.mem_filter.1 hx).2
  simpa using h
end Go.Proofs.Base
/-
  fold.find of Token. Printed by gfold.py.
-/
set_option linter.unusedVariables false
set_option linter.unusedSimpArgs false
namespace Go.Proofs.YtgpkmellpllmgaaGreat
open Go Go.RowKit Go.Proofs.Base
open Go.Sort (grow)
def zeroTok : ETok := ⟨0, 0, 0, 0, 0, ⟨#[]⟩⟩
set_option maxRecDepth 100000 in
set_option maxHeartbeats 4000000 in
theorem find_Tok (A : Option Addr) (n c g : Nat) (lb : Array Value) (l : List ETok) (p : ETok → Bool) (w : World) (S : Nat → Prop) (eg : ∀ args w, (callFunc g args).run Tryz.prog w = .ok (.enter g args) w)
    (hl : l.length = n) (hr : Row w S 6 n (.slice A n c) (l.flatMap encTok))
    (hp : ∀ W, Below w.heap.size w W → ∀ x ∈ l, Calls Tryz.prog g (#[.agg #[.int .u64 x.key, .int .u64 x.inst, .int .u64 x.scope, .int .i64 x.node, .int .i64 x.flow, .string x.stuck]] ++ lb) W fun e w' => e = .returned (.bool (p x)) ∧ Below W.heap.size W w') :
    Calls Tryz.prog 48 #[.slice A n c, .func (.func g) #[] lb] w fun e w' => ∃ x : ETok, ∃ ok, findP zeroTok p l = (x, ok) ∧ e = .returned (.tuple #[.agg #[.int .u64 x.key, .int .u64 x.inst, .int .u64 x.scope, .int .i64 x.node, .int .i64 x.flow, .string x.stuck], .bool ok]) ∧ Below w.heap.size w w' := by
  have hB : Below w.heap.size w ((w.alloc (.cells #[.int .u64 0, .int .u64 0, .int .u64 0, .int .i64 0, .int .i64 0, .string ⟨#[]⟩] 42)).alloc (.cells #[.int .u64 0, .int .u64 0, .int .u64 0, .int .i64 0, .int .i64 0, .string ⟨#[]⟩] 42)) := below_alloc (below_alloc (Below.refl _ _) _) _
  obtain ⟨N, hN⟩ : ∃ N, N = (w.alloc (.cells #[.int .u64 0, .int .u64 0, .int .u64 0, .int .i64 0, .int .i64 0, .string ⟨#[]⟩] 42)).alloc (.cells #[.int .u64 0, .int .u64 0, .int .u64 0, .int .i64 0, .int .i64 0, .string ⟨#[]⟩] 42) := ⟨_, rfl⟩
  rw [← hN] at hB
  have b0 : N.heap[w.heap.size]? = some (.cells #[.int .u64 0, .int .u64 0, .int .u64 0, .int .i64 0, .int .i64 0, .string ⟨#[]⟩] 42 (0, 0)) := by rw [hN]; exact blk_alloc (blk_new _) _
  have b1 : N.heap[w.heap.size + 1]? = some (.cells #[.int .u64 0, .int .u64 0, .int .u64 0, .int .i64 0, .int .i64 0, .string ⟨#[]⟩] 42 (0, 0)) := by rw [hN]; exact blk_new_of _ (by simp)
  have HIX := Lib.hid (idx_Tok A n c g lb l p w N S eg hl (hr.below hB) hB hp)
  have HR := Lib.hid (hr.below hB)
  have HL := Lib.hid hl
  have HN := Lib.hid hN
  have HB := Lib.hid hB
  have HK0 := Lib.hid b0
  have HK1 := Lib.hid b1
  obtain ⟨A0, c0, he0, hnc0, hcm0⟩ := hr.open_
  injection he0 with q1 _ q3
  subst q1 q3
  clear hr hl hp eg b0 b1 hB hN
  rcases idxP_spec p l with ⟨h1, -⟩ | ⟨j, hj, h1, -, -⟩
  · go_enter Tryz.func48, Tryz.ntmps48
    go_wp2_with fail
    rw [show (w.alloc (.cells #[.int .u64 0, .int .u64 0, .int .u64 0, .int .i64 0, .int .i64 0, .string ⟨#[]⟩] 42)).alloc (.cells #[.int .u64 0, .int .u64 0, .int .u64 0, .int .i64 0, .int .i64 0, .string ⟨#[]⟩] 42) = N from HN.out.symm]
    refine HIX.out.mono ?_
    rintro e w1 ⟨rfl, hb⟩
    rw [h1]
    have k0 := block_below hb HK0.out
    have k1 := block_below hb HK1.out
    have z0 := cell_of_blk k1 0
    have y0 := cell_of_blk k0 0
    have f0 := frozen_of_blk k0 0
    have z1 := cell_of_blk k1 1
    have y1 := cell_of_blk k0 1
    have f1 := frozen_of_blk k0 1
    have z2 := cell_of_blk k1 2
    have y2 := cell_of_blk k0 2
    have f2 := frozen_of_blk k0 2
    have z3 := cell_of_blk k1 3
    have y3 := cell_of_blk k0 3
    have f3 := frozen_of_blk k0 3
    have z4 := cell_of_blk k1 4
    have y4 := cell_of_blk k0 4
    have f4 := frozen_of_blk k0 4
    have z5 := cell_of_blk k1 5
    have y5 := cell_of_blk k0 5
    have f5 := frozen_of_blk k0 5
    have HB1 := Lib.hid (below2 HB.out hb)
    have HK := Lib.hid k0
    clear hb k0 k1
    go_wp2_with fail
    generalize hWE : World.setCell (World.setCell (World.setCell (World.setCell (World.setCell (World.setCell (_) _ _) _ _) _ _) _ _) _ _) _ _ = WE
    have ho : WE.heap[w.heap.size]? = some (.cells #[.int .u64 0, .int .u64 0, .int .u64 0, .int .i64 0, .int .i64 0, .string ⟨#[]⟩] 42 (0, 0)) := by rw [← hWE]; exact set_blk (o := 5) (set_blk (o := 4) (set_blk (o := 3) (set_blk (o := 2) (set_blk (o := 1) (set_blk (o := 0) (HK.out) (.int .u64 0)) (.int .u64 0)) (.int .u64 0)) (.int .i64 0)) (.int .i64 0)) (.string ⟨#[]⟩)
    have hbe : Below w.heap.size w WE := by rw [← hWE]; exact ((((((HB1.out).setCell (p := ⟨w.heap.size, 0, none⟩) (Nat.le_refl _) _).setCell (p := ⟨w.heap.size, 1, none⟩) (Nat.le_refl _) _).setCell (p := ⟨w.heap.size, 2, none⟩) (Nat.le_refl _) _).setCell (p := ⟨w.heap.size, 3, none⟩) (Nat.le_refl _) _).setCell (p := ⟨w.heap.size, 4, none⟩) (Nat.le_refl _) _).setCell (p := ⟨w.heap.size, 5, none⟩) (Nat.le_refl _) _
    have r0 := cell_of_blk ho 0
    have r1 := cell_of_blk ho 1
    have r2 := cell_of_blk ho 2
    have r3 := cell_of_blk ho 3
    have r4 := cell_of_blk ho 4
    have r5 := cell_of_blk ho 5
    refine bodyPost_ret (v := .tuple #[.agg #[.int .u64 0, .int .u64 0, .int .u64 0, .int .i64 0, .int .i64 0, .string ⟨#[]⟩], .bool false]) (by simp [results, Tryz.results48, go_sem, r0, r1, r2, r3, r4, r5]) rfl ⟨zeroTok, false, ?_, rfl, hbe⟩
    unfold findP; rw [h1]; rfl
  · have hjn : j < n := by have := HL.out; omega
    have hj0 : ¬ ((j : Int) < 0) := by omega
    have HF : Hid (findP zeroTok p l = (l[j], true)) := Lib.hid (by unfold findP; rw [h1, if_neg hj0]; simp [List.getD_eq_getElem?_getD, hj])
    have hc0 : ∃ b o, A = some ⟨b, o, none⟩ ∧ b < N.heap.size ∧ ∀ t u, (encTok l[j])[t]? = some u → t < 6 → N.cell? ⟨b, o + j * 6 + t, none⟩ = some u := by
      obtain ⟨b, o, hA, _, hlt, hc⟩ := HR.out.at_ (by omega)
      exact ⟨b, o, hA, hlt, fun t u hu ht => hc j t u ((flat_at (enc := encTok) lenTok hj t ht).trans hu)⟩
    obtain ⟨b, o, rfl, hlt, hc⟩ := hc0
    generalize l[j] = x at *
    have HC := Lib.hid hc
    clear hc hj
    go_enter Tryz.func48, Tryz.ntmps48
    go_wp2_with fail
    rw [show (w.alloc (.cells #[.int .u64 0, .int .u64 0, .int .u64 0, .int .i64 0, .int .i64 0, .string ⟨#[]⟩] 42)).alloc (.cells #[.int .u64 0, .int .u64 0, .int .u64 0, .int .i64 0, .int .i64 0, .string ⟨#[]⟩] 42) = N from HN.out.symm]
    refine HIX.out.mono ?_
    rintro e w1 ⟨rfl, hb⟩
    rw [h1]
    have k0 := block_below hb HK0.out
    have k1 := block_below hb HK1.out
    have z0 := cell_of_blk k1 0
    have y0 := cell_of_blk k0 0
    have f0 := frozen_of_blk k0 0
    have z1 := cell_of_blk k1 1
    have y1 := cell_of_blk k0 1
    have f1 := frozen_of_blk k0 1
    have z2 := cell_of_blk k1 2
    have y2 := cell_of_blk k0 2
    have f2 := frozen_of_blk k0 2
    have z3 := cell_of_blk k1 3
    have y3 := cell_of_blk k0 3
    have f3 := frozen_of_blk k0 3
    have z4 := cell_of_blk k1 4
    have y4 := cell_of_blk k0 4
    have f4 := frozen_of_blk k0 4
    have z5 := cell_of_blk k1 5
    have y5 := cell_of_blk k0 5
    have f5 := frozen_of_blk k0 5
    have x0 : w1.cell? ⟨b, o + j * 6, none⟩ = some (.int .u64 x.key) := (hb.cell (p := ⟨b, o + j * 6, none⟩) hlt).trans (by simpa using HC.out 0 _ rfl (by decide))
    have x1 : w1.cell? ⟨b, o + j * 6 + 1, none⟩ = some (.int .u64 x.inst) := (hb.cell (p := ⟨b, o + j * 6 + 1, none⟩) hlt).trans (by simpa using HC.out 1 _ rfl (by decide))
    have x2 : w1.cell? ⟨b, o + j * 6 + 2, none⟩ = some (.int .u64 x.scope) := (hb.cell (p := ⟨b, o + j * 6 + 2, none⟩) hlt).trans (by simpa using HC.out 2 _ rfl (by decide))
    have x3 : w1.cell? ⟨b, o + j * 6 + 3, none⟩ = some (.int .i64 x.node) := (hb.cell (p := ⟨b, o + j * 6 + 3, none⟩) hlt).trans (by simpa using HC.out 3 _ rfl (by decide))
    have x4 : w1.cell? ⟨b, o + j * 6 + 4, none⟩ = some (.int .i64 x.flow) := (hb.cell (p := ⟨b, o + j * 6 + 4, none⟩) hlt).trans (by simpa using HC.out 4 _ rfl (by decide))
    have x5 : w1.cell? ⟨b, o + j * 6 + 5, none⟩ = some (.string x.stuck) := (hb.cell (p := ⟨b, o + j * 6 + 5, none⟩) hlt).trans (by simpa using HC.out 5 _ rfl (by decide))
    have HB1 := Lib.hid (below2 HB.out hb)
    have HK := Lib.hid k0
    clear hb k0 k1
    go_wp2_with fail
    generalize hWE : World.setCell (World.setCell (World.setCell (World.setCell (World.setCell (World.setCell (_) _ _) _ _) _ _) _ _) _ _) _ _ = WE
    have ho : WE.heap[w.heap.size]? = some (.cells #[.int .u64 x.key, .int .u64 x.inst, .int .u64 x.scope, .int .i64 x.node, .int .i64 x.flow, .string x.stuck] 42 (0, 0)) := by rw [← hWE]; exact set_blk (o := 5) (set_blk (o := 4) (set_blk (o := 3) (set_blk (o := 2) (set_blk (o := 1) (set_blk (o := 0) (HK.out) (.int .u64 x.key)) (.int .u64 x.inst)) (.int .u64 x.scope)) (.int .i64 x.node)) (.int .i64 x.flow)) (.string x.stuck)
    have hbe : Below w.heap.size w WE := by rw [← hWE]; exact ((((((HB1.out).setCell (p := ⟨w.heap.size, 0, none⟩) (Nat.le_refl _) _).setCell (p := ⟨w.heap.size, 1, none⟩) (Nat.le_refl _) _).setCell (p := ⟨w.heap.size, 2, none⟩) (Nat.le_refl _) _).setCell (p := ⟨w.heap.size, 3, none⟩) (Nat.le_refl _) _).setCell (p := ⟨w.heap.size, 4, none⟩) (Nat.le_refl _) _).setCell (p := ⟨w.heap.size, 5, none⟩) (Nat.le_refl _) _
    have r0 := cell_of_blk ho 0
    have r1 := cell_of_blk ho 1
    have r2 := cell_of_blk ho 2
    have r3 := cell_of_blk ho 3
    have r4 := cell_of_blk ho 4
    have r5 := cell_of_blk ho 5
    refine bodyPost_ret (v := .tuple #[.agg #[.int .u64 x.key, .int .u64 x.inst, .int .u64 x.scope, .int .i64 x.node, .int .i64 x.flow, .string x.stuck], .bool true]) (by simp [results, Tryz.results48, go_sem, r0, r1, r2, r3, r4, r5]) rfl ⟨x, true, HF.out, rfl, hbe⟩
end Go.Proofs.YtgpkmellpllmgaaGreat
/-
  fold.find of Job. Printed by gfold.py.
-/
set_option linter.unusedVariables false
set_option linter.unusedSimpArgs false
namespace Go.Proofs.YtgpkmellpllmgaaGreat
open Go Go.RowKit Go.Proofs.Base
open Go.Sort (grow)
end Go.Proofs.YtgpkmellpllmgaaGreat
/-
  fold.Token, fold.Job. Printed by gfold2.py.
-/
set_option linter.unusedVariables false
set_option linter.unusedSimpArgs false
namespace Go.Proofs.YtgpkmellpllmgaaGreat
open Go Go.RowKit Go.Proofs.Base
open Go.Sort (grow)
set_option maxRecDepth 100000 in
set_option maxHeartbeats 4000000 in
theorem ask_Tok (Pp Dd Mm : Int) (A3 : Option Addr) (n3 c3 : Nat) (A4 : Option Addr) (n4 c4 : Nat) (A5 : Option Addr) (n5 c5 : Nat) (A6 : Option Addr) (n6 c6 : Nat) (A7 : Option Addr) (n7 c7 : Nat) (A8 : Option Addr) (n8 c8 : Nat) (A9 : Option Addr) (n9 c9 : Nat) (A10 : Option Addr) (n10 c10 : Nat) (A11 : Option Addr) (n11 c11 : Nat) (q : Int) (l : List ETok) (w : World) (S : Nat → Prop) (hl : l.length = n5) (hr : Row w S 6 n5 (.slice A5 n5 c5) (l.flatMap encTok)) :
    Calls Tryz.prog 16 #[.agg #[.int .u64 Pp, .int .u64 Dd, .int .u64 Mm, .slice A3 n3 c3, .slice A4 n4 c4, .slice A5 n5 c5, .slice A6 n6 c6, .slice A7 n7 c7, .slice A8 n8 c8, .slice A9 n9 c9, .slice A10 n10 c10, .slice A11 n11 c11], .int .u64 q] w fun e w' => ∃ x : ETok, ∃ ok, findP zeroTok (fun x : ETok => x.key == q) l = (x, ok) ∧ e = .returned (.tuple #[.agg #[.int .u64 x.key, .int .u64 x.inst, .int .u64 x.scope, .int .i64 x.node, .int .i64 x.flow, .string x.stuck], .bool ok]) ∧ Below w.heap.size w w' := by
  obtain ⟨N, hN⟩ : ∃ N, N = ((w.alloc (.cells #[.int .u64 Pp, .int .u64 Dd, .int .u64 Mm, .slice A3 n3 c3, .slice A4 n4 c4, .slice A5 n5 c5, .slice A6 n6 c6, .slice A7 n7 c7, .slice A8 n8 c8, .slice A9 n9 c9, .slice A10 n10 c10, .slice A11 n11 c11] 35)).alloc (.cells #[.int .u64 q] 24)).alloc (.cells #[.int .u64 0, .int .u64 0, .int .u64 0, .int .i64 0, .int .i64 0, .string ⟨#[]⟩] 42) := ⟨_, rfl⟩
  have b0 : N.heap[w.heap.size]? = some (.cells #[.int .u64 Pp, .int .u64 Dd, .int .u64 Mm, .slice A3 n3 c3, .slice A4 n4 c4, .slice A5 n5 c5, .slice A6 n6 c6, .slice A7 n7 c7, .slice A8 n8 c8, .slice A9 n9 c9, .slice A10 n10 c10, .slice A11 n11 c11] 35 (0, 0)) := by rw [hN]; exact blk_alloc (blk_alloc (blk_new _) _) _
  have b1 : N.heap[w.heap.size + 1]? = some (.cells #[.int .u64 q] 24 (0, 0)) := by rw [hN]; exact blk_alloc (blk_new_of _ (by simp)) _
  have b2 : N.heap[w.heap.size + 1 + 1]? = some (.cells #[.int .u64 0, .int .u64 0, .int .u64 0, .int .i64 0, .int .i64 0, .string ⟨#[]⟩] 42 (0, 0)) := by rw [hN]; exact blk_new_of _ (by simp)
  have hB : Below w.heap.size w N := by rw [hN]; exact below_alloc (below_alloc (below_alloc (Below.refl _ _) _) _) _
  have HN := Lib.hid hN
  have HB := Lib.hid hB
  have K0 := Lib.hid b0
  have K2 := Lib.hid b2
  have eg : ∀ args w, (callFunc 49 args).run Tryz.prog w = .ok (.enter 49 args) w := enters_of Tryz.func49 (by kernel_rfl) rfl
  have HF := Lib.hid (find_Tok A5 n5 c5 49 #[.pointer (some ⟨w.heap.size + 1, 0, none⟩)] l (fun x : ETok => x.key == q) N S eg hl (hr.below hB) (fun V hV x _ => p_Token_1 _ x q V (cell_of_blk (block_below hV b1) 0)))
  obtain ⟨X0, y0, hx0, hnc0, hcm0⟩ := hr.open_
  injection hx0 with hxa _ hxb
  subst hxa hxb
  clear hN hB b0 b1 b2 hr hl eg
  have k0 := K0.out
  go_enter Tryz.func16, Tryz.ntmps16
  go_wp2_with fail
  rw [show ((w.alloc (.cells #[.int .u64 Pp, .int .u64 Dd, .int .u64 Mm, .slice A3 n3 c3, .slice A4 n4 c4, .slice A5 n5 c5, .slice A6 n6 c6, .slice A7 n7 c7, .slice A8 n8 c8, .slice A9 n9 c9, .slice A10 n10 c10, .slice A11 n11 c11] 35)).alloc (.cells #[.int .u64 q] 24)).alloc (.cells #[.int .u64 0, .int .u64 0, .int .u64 0, .int .i64 0, .int .i64 0, .string ⟨#[]⟩] 42) = N from HN.out.symm]
  have s5 := cell_of_blk k0 5
  clear k0
  go_wp2_with fail
  refine HF.out.mono ?_
  rintro e w1 ⟨x, ok, hf, rfl, hb⟩
  have HFD := Lib.hid hf
  have k2 := block_below hb K2.out
  have HB1 := Lib.hid (below2 HB.out hb)
  clear hf hb s5
  have z0 := cell_of_blk k2 0
  have z1 := cell_of_blk k2 1
  have z2 := cell_of_blk k2 2
  have z3 := cell_of_blk k2 3
  have z4 := cell_of_blk k2 4
  have z5 := cell_of_blk k2 5
  have g0 := frozen_of_blk k2 0
  have g1 := frozen_of_blk k2 1
  have g2 := frozen_of_blk k2 2
  have g3 := frozen_of_blk k2 3
  have g4 := frozen_of_blk k2 4
  have g5 := frozen_of_blk k2 5
  have KZ := Lib.hid k2
  clear k2
  go_wp2_with fail
  generalize hWE : World.setCell (World.setCell (World.setCell (World.setCell (World.setCell (World.setCell (_) _ _) _ _) _ _) _ _) _ _) _ _ = WE
  have ho : WE.heap[w.heap.size + 1 + 1]? = some (.cells #[.int .u64 x.key, .int .u64 x.inst, .int .u64 x.scope, .int .i64 x.node, .int .i64 x.flow, .string x.stuck] 42 (0, 0)) := by rw [← hWE]; exact set_blk (o := 5) (set_blk (o := 4) (set_blk (o := 3) (set_blk (o := 2) (set_blk (o := 1) (set_blk (o := 0) (KZ.out) (.int .u64 x.key)) (.int .u64 x.inst)) (.int .u64 x.scope)) (.int .i64 x.node)) (.int .i64 x.flow)) (.string x.stuck)
  have hbe : Below w.heap.size w WE := by rw [← hWE]; exact ((((((HB1.out).setCell (p := ⟨w.heap.size + 1 + 1, 0, none⟩) (by show _ ≤ _ + 1 + 1; omega) _).setCell (p := ⟨w.heap.size + 1 + 1, 1, none⟩) (by show _ ≤ _ + 1 + 1; omega) _).setCell (p := ⟨w.heap.size + 1 + 1, 2, none⟩) (by show _ ≤ _ + 1 + 1; omega) _).setCell (p := ⟨w.heap.size + 1 + 1, 3, none⟩) (by show _ ≤ _ + 1 + 1; omega) _).setCell (p := ⟨w.heap.size + 1 + 1, 4, none⟩) (by show _ ≤ _ + 1 + 1; omega) _).setCell (p := ⟨w.heap.size + 1 + 1, 5, none⟩) (by show _ ≤ _ + 1 + 1; omega) _
  have r0 := cell_of_blk ho 0
  have r1 := cell_of_blk ho 1
  have r2 := cell_of_blk ho 2
  have r3 := cell_of_blk ho 3
  have r4 := cell_of_blk ho 4
  have r5 := cell_of_blk ho 5
  refine bodyPost_ret (v := .tuple #[.agg #[.int .u64 x.key, .int .u64 x.inst, .int .u64 x.scope, .int .i64 x.node, .int .i64 x.flow, .string x.stuck], .bool ok]) (by simp [results, Tryz.results16, go_sem, r0, r1, r2, r3, r4, r5]) rfl ⟨x, ok, HFD.out, rfl, hbe⟩
end Go.Proofs.YtgpkmellpllmgaaGreat
/-
  Whole structs in a box of their own: laws that load and store them in one step, in a plain walk and in a region that draws its order. Nothing of a program.
-/
set_option linter.unusedVariables false
set_option linter.unusedSimpArgs false
namespace Go.Proofs.Base
open Go Go.RowKit
open Go.Sort (grow grow_empty)
def aggB (d : TypeDesc) : Bool := match d with | .struct _ | .array _ _ => true | _ => false
structure BoxT (P : Program) (ty : TypeId) (n : Nat) : Prop where
  agg : (P.underlying ty).any aggB = true
  size : (P.info? ty).map (·.size) = some n
theorem mut_row {w : World} {g : Nat} {cs : Array Value} : Mut (fun b => b = g) w (w.setRow g cs) :=
  ⟨rfl, rfl, rfl, by simp, fun k _ hk => by
    unfold World.setRow
    simp only [Array.getElem?_modify]
    rw [if_neg (fun h => hk h.symm)]⟩
theorem row_blk {w : World} {g : Nat} {cur cs : Array Value} {t : TypeId} {f : Nat × Nat} (h : w.heap[g]? = some (.cells cur t f)) : (w.setRow g cs).heap[g]? = some (.cells cs t f) := by
  unfold World.setRow
  simp [Array.getElem?_modify, h]
theorem below_of_mut {B : Nat} {w0 w V : World} {T : Nat → Prop} (h : Below B w0 w) (hB : B ≤ w.heap.size) (k : Mut T w V) (hT : ∀ b, T b → B ≤ b) : Below B w0 V :=
  ⟨k.os.trans h.os, k.tape.trans h.tape, k.output.trans h.output, Nat.le_trans h.size k.size, fun b hb => (k.block b (Nat.lt_of_lt_of_le hb hB) (fun ht => by have := hT b ht; omega)).trans (h.block b hb)⟩
section
variable {P : Program}
theorem run_load_at {w : World} {g o n : Nat} {ty : TypeId} (hT : BoxT P ty n) (cs : List Value) (hn : cs.length = n) (hc : ∀ j v, cs[j]? = some v → w.cell? ⟨g, o + j, none⟩ = some v) :
    (loadVar ty ⟨g, o, none⟩).run P w = .ok (.agg cs.toArray) w := by
  have hl : (loadCells ⟨g, o, none⟩ cs.length).run P w = .ok cs.toArray w :=
    run_loadCells_list (P := P) w ⟨g, o, none⟩ cs (fun j v hv => by rw [add_plain]; exact hc j v hv)
  obtain ⟨hu, hs⟩ := hT
  cases hq : P.info? ty with
  | none => simp [hq] at hs
  | some i =>
    have hs : i.size = cs.length := by rw [hn]; simpa [hq] using hs
    cases hu' : P.underlying ty with
    | none => rw [hu'] at hu; cases hu
    | some d =>
      rw [hu'] at hu
      have hagg : (isAgg ty).run P w = .ok true w := by
        unfold isAgg
        rw [Sem.run_bind, run_underlying hu' w]
        cases d <;> simp_all [aggB]
      simp [loadVar, Sem.run_bind, hagg, sizeOf, typeInfo, hq, hs, hl]
theorem run_load_box {w : World} {g n : Nat} {ty t : TypeId} {f : Nat × Nat} {cs : Array Value} (hT : BoxT P ty n) (hg : w.heap[g]? = some (.cells cs t f)) (hn : cs.size = n) :
    (loadVar ty ⟨g, 0, none⟩).run P w = .ok (.agg cs) w := by
  have := run_load_at (w := w) (g := g) (o := 0) hT cs.toList (by simpa using hn) (fun j v hv => by rw [Nat.zero_add, cell_of_blk hg j]; simpa using hv)
  simpa using this
theorem wpList_load_agg {ops : Array Oper} {rest : List Oper} {o : Oper} {a : Act} {w : World} {Q : Exit → Act → World → Prop} (ty : TypeId) (x : Operand) {ad : Addr} {v : Value} (hgd : o.guard = none) (ho : o.op = .load ty x)
    (hx : a.eval x = .pointer (some ad)) (hr : (loadVar ty ad).run P w = .ok v w) (h : wpList P ops Q rest (a.put o.dst v) w) : wpList P ops Q (o :: rest) a w :=
  wpList_plain hgd fun _ hK => by
    unfold Oper.wp execOp
    simp only [ho, hx, Instr.loadAt, Instr.sureAddr, Sem.run_bind, Sem.run_pure, Result.andThen_ok, hr]
    exact hK _ _ h
theorem wpList_load_box {ops : Array Oper} {rest : List Oper} {o : Oper} {a : Act} {w : World} {Q : Exit → Act → World → Prop} (ty : TypeId) (x : Operand) {g n : Nat} {t : TypeId} {f : Nat × Nat} {cs : Array Value} (hgd : o.guard = none) (ho : o.op = .load ty x)
    (hx : a.eval x = .pointer (some ⟨g, 0, none⟩)) (hT : BoxT P ty n) (hg : w.heap[g]? = some (.cells cs t f)) (hn : cs.size = n) (h : wpList P ops Q rest (a.put o.dst (.agg cs)) w) : wpList P ops Q (o :: rest) a w :=
  wpList_load_agg ty x hgd ho hx (run_load_box hT hg hn) h
theorem wpList_store_box {ops : Array Oper} {rest : List Oper} {o : Oper} {a : Act} {w : World} {Q : Exit → Act → World → Prop} (ty : TypeId) (x y : Operand) {g n : Nat} {t : TypeId} {old cells : Array Value} (hgd : o.guard = none) (ho : o.op = .store ty x y)
    (hx : a.eval x = .pointer (some ⟨g, 0, none⟩)) (hy : a.eval y = .agg cells) (hT : BoxT P ty n) (hg : w.heap[g]? = some (.cells old t (0, 0))) (hold : old.size = n) (hn : cells.size = n) (h1 : cells.all (·.oneCell') = true)
    (h : ∀ V : World, V.heap[g]? = some (.cells cells t (0, 0)) → Mut (fun b => b = g) w V → wpList P ops Q rest (a.put o.dst undef) V) : wpList P ops Q (o :: rest) a w :=
  wpList_store_row hgd ty x y ho g cells hx hy t old hg (by rw [hn]; exact hT.size) (by rw [hold, hn]) h1 (h _ (row_blk hg) mut_row)
theorem wpQuiet_load {ops : Array Oper} {C : World → Prop} {Q : Act → Prop} {o : Oper} {rest : List Oper} {a : Act} (ty : TypeId) (x : Operand) {ad : Addr} {v : Value} (hgd : o.guard = none) (ho : o.op = .load ty x) (hx : a.eval x = .pointer (some ad))
    (hr : ∀ w, C w → (loadVar ty ad).run P w = .ok v w) (h : wpQuiet P ops C Q rest (a.put o.dst v)) : wpQuiet P ops C Q (o :: rest) a := by
  unfold wpQuiet
  have hw : Region.wanted o (yielded ops a.tmps) = true := by unfold Region.wanted; rw [hgd]
  rw [if_pos hw]
  refine ⟨v, fun w hC => ?_, h⟩
  unfold Oper.quietAt execOp
  simp only [ho, hx, Instr.loadAt, Instr.sureAddr, Sem.run_bind, Sem.run_pure, Result.andThen_ok, hr w hC]
  exact ⟨rfl, rfl⟩
theorem block_regrown {w : World} {b : Nat} {o : Obj} (h : w.heap[b]? = some o) (d : Nat) (os : Array Obj) : (grow (redrawn w d) os).heap[b]? = some o :=
  ((below_regrown w d os).block b (lt_of_blk h)).trans h
theorem load_box_re {w : World} {g n : Nat} {ty t : TypeId} {f : Nat × Nat} {cs : Array Value} (hT : BoxT P ty n) (hg : w.heap[g]? = some (.cells cs t f)) (hn : cs.size = n) :
    ∀ w', (∃ p : Regrown, w' = grow (redrawn w p.d) p.os) → (loadVar ty ⟨g, 0, none⟩).run P w' = .ok (.agg cs) w' := by
  rintro w' ⟨p, rfl⟩
  exact run_load_box hT (block_regrown hg p.d p.os) hn
theorem load_at_re {w : World} {g o n : Nat} {ty : TypeId} (hT : BoxT P ty n) (cs : List Value) (hn : cs.length = n) (hc : ∀ j v, cs[j]? = some v → w.cell? ⟨g, o + j, none⟩ = some v) :
    ∀ w', (∃ p : Regrown, w' = grow (redrawn w p.d) p.os) → (loadVar ty ⟨g, o, none⟩).run P w' = .ok (.agg cs.toArray) w' := by
  rintro w' ⟨p, rfl⟩
  exact run_load_at hT cs hn (fun j v hv => cell_regrown (hc j v hv) p.d p.os)
end
end Go.Proofs.Base
/-
  A state's box, stored and loaded whole; Apply on short lists.
-/
set_option linter.unusedVariables false
set_option linter.unusedSimpArgs false
namespace Go.Proofs.Base
open Go Go.RowKit
theorem VarsR.below {w w' : World} {S S' : Nat → Prop} {A : Option Addr} {n c : Nat} {l : List GVar} (h : VarsR w S A n c l) (hb : Below w.heap.size w w') (hS : ∀ b, b < w.heap.size → S b → S' b) : VarsR w' S' A n c l :=
  h.mut (T := fun _ => False) (Mut.of_below hb _) (fun _ _ _ h => h) hS
theorem ListR.elem {α : Type} {w : World} {S : Nat → Prop} {K : Nat} {enc : α → List Value} {A : Option Addr} {n c : Nat} {l : List α} (h : ListR w S K enc A n c l) (hlen : ∀ x, (enc x).length = K) (h0 : 0 < n) :
    ∃ B O, A = some ⟨B, O, none⟩ ∧ S B ∧ ∀ (k : Nat) (hk : k < l.length), ∀ j u, (enc l[k])[j]? = some u → w.cell? ⟨B, O + k * K + j, none⟩ = some u := by
  obtain ⟨B, O, hA, hS, _, hc⟩ := h.2.at_ h0
  refine ⟨B, O, hA, hS, fun k hk j u hu => hc k j u ?_⟩
  have hj : j < K := by have := (List.getElem?_eq_some_iff.1 hu).1; rwa [hlen] at this
  rw [flat_at (enc := enc) hlen hk j hj]
  exact hu
end Go.Proofs.Base
namespace Go.Proofs.YtgpkmellpllmgaaGreat
open Go Go.RowKit Go.Proofs.Base
open Go.Sort (grow)
def vZ : StV := ⟨0, 0, 0, none, 0, 0, none, 0, 0, none, 0, 0, none, 0, 0, none, 0, 0, none, 0, 0, none, 0, 0, none, 0, 0, none, 0, 0⟩
def recZ : GRec := ⟨0, 0, 0, 0, 0, 0, 0, 0, 0, ⟨#[]⟩, ⟨#[]⟩, ⟨#[]⟩, []⟩
theorem st_zero (w : World) (S : Nat → Prop) : StR w S vZ emptyP :=
  ⟨rfl, rfl, rfl, ⟨rfl, Row.nil _ _ _⟩, ⟨rfl, Row.nil _ _ _⟩, ⟨rfl, Row.nil _ _ _⟩, ⟨rfl, Row.nil _ _ _⟩, ⟨rfl, Row.nil _ _ _⟩, ⟨rfl, Row.nil _ _ _⟩, ⟨rfl, Row.nil _ _ _⟩, ⟨rfl, Row.nil _ _ _⟩, ⟨rfl, Row.nil _ _ _⟩, fun x h => absurd h List.not_mem_nil, fun x h => absurd h List.not_mem_nil, fun x h => absurd h List.not_mem_nil, fun x h => absurd h List.not_mem_nil⟩
theorem vars_zero (w : World) (S : Nat → Prop) : VarsR w S none 0 0 [] := ⟨rfl, by decide, Row.nil _ _ _⟩
theorem u_apply_small {w : World} {S : Nat → Prop} {v : StV} {g : GSt} {r : GRec} {vA : Option Addr} {vN vC : Nat} (N : Nat) (pos : Int) (hst : StR w S v g) (hv : VarsR w S vA vN vC r.vars) (hki : i64 r.kind) (hwf : g.pure.wf) (hs : Small N g.pure) (hN : (N + 1) * 144 ≤ 140737488355328) :
    Calls Tryz.prog 10 #[.agg v.vals, .int .u64 pos, .agg #[.int .i64 r.cls, .int .i64 r.kind, .int .u64 r.frm, .int .i64 r.time, .int .u64 r.key, .int .u64 r.key2, .int .u64 r.key3, .int .i64 r.n, .int .i64 r.m, .string r.a, .string r.b, .string r.c, .slice vA vN vC]] w (Applied w S pos r g) :=
  u_apply pos hst hv hki (wf_pure.1 hwf) ((small_pure.1 hs).fits (by omega)) ((small_pure.1 hs).ints8 (by omega)) (fun _ _ => (small_pure.1 hs).room hN)
structure BoxSt (b : Nat) (W : World) (v : StV) (g : GSt) : Prop where
  box : W.heap[b]? = some (.cells v.vals 35 (0, 0))
  st : StR W (fun x => x ≠ b) v g
theorem bSt : BoxT Tryz.prog 35 12 := ⟨by kernel_rfl, by kernel_rfl⟩
theorem bRec : BoxT Tryz.prog 39 13 := ⟨by kernel_rfl, by kernel_rfl⟩
theorem vals_one (v : StV) : v.vals.all (·.oneCell') = true := by simp [StV.vals, Value.oneCell']
theorem BoxSt.lt {b : Nat} {W : World} {v : StV} {g : GSt} (h : BoxSt b W v g) : b < W.heap.size := lt_of_blk h.box
theorem BoxSt.below {b : Nat} {W W' : World} {v : StV} {g : GSt} (h : BoxSt b W v g) (hb : Below W.heap.size W W') : BoxSt b W' v g := ⟨block_below hb h.box, h.st.below hb (fun _ _ h => h)⟩
theorem BoxSt.start {w W V : World} {S : Nat → Prop} {v : StV} {g : GSt} (h : StR w S v g) (hb : Below w.heap.size w W) (hV : V.heap[W.heap.size]? = some (.cells v.vals 35 (0, 0))) {z : Obj} (hM : Mut (fun x => x = W.heap.size) (W.alloc z) V) : BoxSt W.heap.size V v g :=
  ⟨hV, (h.below (S' := fun x => x < W.heap.size) hb (fun x hx _ => by have := hb.size; omega)).mut (T := fun x => x = W.heap.size) (Mut.trans (T := fun x => x = W.heap.size) ((Mut.refl _ W).alloc z) hM (fun _ _ h => h)) (fun x hx hs e => by omega) (fun x hx _ => by omega)⟩
theorem BoxSt.put {b : Nat} {W w' V : World} {u v : StV} {g0 g : GSt} (h : BoxSt b W u g0) (hs : StR w' (fun x => x ≠ b ∨ W.heap.size ≤ x) v g) (hV : V.heap[b]? = some (.cells v.vals 35 (0, 0))) (hM : Mut (fun x => x = b) w' V) : BoxSt b V v g :=
  ⟨hV, hs.mut hM (fun x _ hx e => by have := h.lt; omega) (fun x _ hx => by have := h.lt; omega)⟩
theorem BoxSt.alloc {b : Nat} {W : World} {v : StV} {g : GSt} (h : BoxSt b W v g) (o : Obj) : BoxSt b (W.alloc o) v g := h.below (below_alloc (Below.refl _ _) o)
theorem ask_TokV (v : StV) (q : Int) (l : List ETok) (w : World) (S : Nat → Prop) (h : ListR w S 6 encTok v.A5 v.n5 v.c5 l) :
    Calls Tryz.prog 16 #[.agg v.vals, .int .u64 q] w fun e w' => ∃ x : ETok, ∃ ok, findP zeroTok (fun x : ETok => x.key == q) l = (x, ok) ∧ e = .returned (.tuple #[.agg #[.int .u64 x.key, .int .u64 x.inst, .int .u64 x.scope, .int .i64 x.node, .int .i64 x.flow, .string x.stuck], .bool ok]) ∧ Below w.heap.size w w' :=
  ask_Tok _ _ _ _ _ _ _ _ _ _ _ _ _ _ _ _ _ _ _ _ _ _ _ _ _ _ _ _ _ _ q l w S h.1 h.2
end Go.Proofs.YtgpkmellpllmgaaGreat
/-
  The document's example of chapter 13: shown returns true.
-/
set_option linter.unusedVariables false
set_option linter.unusedSimpArgs false
namespace Go.Proofs.YtgpkmellpllmgaaGreat
open Go Go.RowKit Go.Proofs.Base
open Go.Sort (grow)
def shR1 : GRec := ⟨2, 2, 1, 0, 7, 0, 0, 0, 0, ⟨#[112]⟩, ⟨#[]⟩, ⟨#[]⟩, []⟩
def shR2 : GRec := ⟨2, 3, 1, 0, 8, 7, 0, 2, -1, ⟨#[]⟩, ⟨#[]⟩, ⟨#[]⟩, []⟩
def shR3 : GRec := ⟨2, 4, 1, 0, 8, 0, 0, 0, 0, ⟨#[]⟩, ⟨#[]⟩, ⟨#[]⟩, []⟩
def shS2 : GSt := applyP 2 shR2 (applyP 1 shR1 emptyP.pure)
def shS3 : GSt := applyP 3 shR3 shS2
theorem shS3_eq : shS3.pos = 3 ∧ shS3.done = 1 ∧ shS3.made = 2 ∧ shS3.insts.length = 1 ∧ shS3.tokens.length = 0 := by decide
theorem shS2_tok : findP zeroTok (fun x : ETok => x.key == 8) shS2.tokens = (⟨8, 7, 0, 2, -1, ⟨#[]⟩⟩, true) := rfl
theorem sh_out {v : StV} {g : GSt} {w : World} {S : Nat → Prop} (h : StR w S v g) (hp : g.pure = shS3) : v.Pp = 3 ∧ v.Dd = 1 ∧ v.Mm = 2 ∧ v.n4 = 1 ∧ v.n5 = 0 := by
  obtain ⟨h1, h2, h3, h4, h5⟩ := shS3_eq
  rw [← hp] at h1 h2 h3 h4 h5
  refine ⟨h.pos.trans h1, h.done.trans h2, h.made.trans h3, ?_, ?_⟩
  · rw [← h.insts.1, ← h4]; simp [GSt.pure]
  · rw [← h.tokens.1]; exact h5
set_option maxRecDepth 100000 in
set_option maxHeartbeats 4000000 in
theorem c_shown (w : World) : Calls Tryz.prog 9 #[] w fun e w' => e = .returned (.bool true) ∧ Below w.heap.size w w' := by
  have HA1 := Lib.hid (fun w => u_apply_small (w := w) (S := fun _ => False) (v := vZ) (g := emptyP) (r := shR1) (vA := none) (vN := 0) (vC := 0) 0 1 (st_zero _ _) (vars_zero _ _) (by unfold shR1 i64; decide) wf_empty small_empty (by decide))
  go_enter Tryz.func9, Tryz.ntmps9
  go_wp2_with fail
  refine (HA1.out _).mono ?_
  rintro e w1 ⟨v1, g1, rfl, hs, hp1, hb⟩
  have HP1 := Lib.hid hp1
  clear hp1
  go_wp2_with (first
    | (refine wpList_store_box _ _ _ rfl rfl rfl rfl bSt (heap_alloc_new _ _) rfl rfl (vals_one _) ?_; intro V1 hV1 hM1; have HX1 := Lib.hid (BoxSt.start hs (Below.refl _ _) hV1 hM1); have HB1 := Lib.hid (below_of_mut (below_alloc hb _) (by simp; have := hb.size; omega) hM1 (fun x hx => by have := hb.size; omega)); have HBB := Lib.hid hb.size; clear hs hb HA1 hV1 hM1; generalize w1.heap.size = b at *)
    | (refine wpList_load_box _ _ rfl rfl rfl bSt HX1.out.box rfl ?_))
  have HA2 := u_apply_small (r := shR2) (vA := none) (vN := 0) (vC := 0) 1 2 HX1.out.st (vars_zero _ _) (by unfold shR2 i64; decide) (by rw [HP1.out]; exact wf_applyP _ (by unfold shR1 u64; decide) wf_empty) (by rw [HP1.out]; exact small_applyP _ small_empty) (by decide)
  refine HA2.mono ?_
  clear HA2
  rintro e w2 ⟨v2, g2, rfl, hs, hp2, hb⟩
  have HP2 : Hid (g2.pure = shS2) := Lib.hid (by rw [hp2, HP1.out]; rfl)
  clear hp2 HP1
  go_wp2_with (first
    | (refine wpList_store_box _ _ _ rfl rfl rfl rfl bSt (block_below hb HX1.out.box) rfl rfl (vals_one _) ?_; intro V2 hV2 hM2; have HX2 := Lib.hid (HX1.out.put hs hV2 hM2); have HB2 := Lib.hid (below_of_mut (below2 HB1.out hb) (Nat.le_trans HB1.out.size hb.size) hM2 (fun x hx => hx ▸ HBB.out)); clear hs hb HX1 HB1 hV2 hM2)
    | (refine wpList_load_box _ _ rfl rfl rfl bSt HX2.out.box rfl ?_))
  refine (ask_TokV v2 8 g2.tokens V2 _ HX2.out.st.tokens).mono ?_
  rintro e w3 ⟨x, ok, hf, rfl, hb⟩
  obtain ⟨rfl, rfl⟩ : x = ⟨8, 7, 0, 2, -1, ⟨#[]⟩⟩ ∧ ok = true := by
    have e := shS2_tok
    rw [← HP2.out] at e
    have e2 := hf.symm.trans e
    injection e2 with e3 e4
    exact ⟨e3, e4⟩
  have HX3 := Lib.hid (HX2.out.below hb)
  have HB3 := Lib.hid (below2 HB2.out hb)
  clear hf hb HX2 HB2
  go_wp2_with (refine wpList_load_box _ _ rfl rfl rfl bSt (BoxSt.alloc HX3.out _).box rfl ?_)
  have HX4 : Hid (BoxSt b (w3.alloc (.cells #[.int .u64 8, .int .u64 7, .int .u64 0, .int .i64 2, .int .i64 (-1), .string ⟨#[]⟩] 42)) v2 g2) := Lib.hid (HX3.out.alloc _)
  have HB4 : Hid (Below w.heap.size w (w3.alloc (.cells #[.int .u64 8, .int .u64 7, .int .u64 0, .int .i64 2, .int .i64 (-1), .string ⟨#[]⟩] 42))) := Lib.hid (below_alloc HB3.out _)
  have HT4 : Hid ((w3.alloc (.cells #[.int .u64 8, .int .u64 7, .int .u64 0, .int .i64 2, .int .i64 (-1), .string ⟨#[]⟩] 42)).heap[w3.heap.size]? = some (.cells #[.int .u64 8, .int .u64 7, .int .u64 0, .int .i64 2, .int .i64 (-1), .string ⟨#[]⟩] 42 (0, 0))) := Lib.hid (blk_new _)
  have HN4 : Hid (w3.heap.size ≠ b) := Lib.hid (by have := HX3.out.lt; omega)
  clear HX3 HB3
  generalize w3.alloc (.cells #[.int .u64 8, .int .u64 7, .int .u64 0, .int .i64 2, .int .i64 (-1), .string ⟨#[]⟩] 42) = V3 at *
  generalize w3.heap.size = tb at *
  have HA3 := u_apply_small (r := shR3) (vA := none) (vN := 0) (vC := 0) 2 3 HX4.out.st (vars_zero _ _) (by unfold shR3 i64; decide) (by rw [HP2.out]; exact wf_applyP _ (by unfold shR2 u64; decide) (wf_applyP _ (by unfold shR1 u64; decide) wf_empty)) (by rw [HP2.out]; exact small_applyP _ (small_applyP _ small_empty)) (by decide)
  refine HA3.mono ?_
  clear HA3
  rintro e w4 ⟨v3, g3, rfl, hs, hp3, hb⟩
  have HP3 : Hid (g3.pure = shS3) := Lib.hid (by rw [hp3, HP2.out]; rfl)
  clear hp3 HP2
  obtain ⟨P3, D3, M3, A3, n3, c3, A4, n4, c4, A5, n5, c5, A6, n6, c6, A7, n7, c7, A8, n8, c8, A9, n9, c9, A10, n10, c10, A11, n11, c11⟩ := v3
  obtain ⟨h1, h2, h3, h4, h5⟩ := sh_out hs HP3.out
  simp only at h1 h2 h3 h4 h5
  subst h1 h2 h3 h4 h5
  go_wp2_with (refine wpList_store_box _ _ _ rfl rfl rfl rfl bSt (block_below hb HX4.out.box) rfl rfl (vals_one _) ?_; intro V4 hV4 hM4; have HB5 := Lib.hid (below_of_mut (below2 HB4.out hb) (Nat.le_trans HB4.out.size hb.size) hM4 (fun x hx => hx ▸ HBB.out)); have ht := hM4.blk (block_below hb HT4.out) HN4.out; have t3 := cell_of_blk ht 3; have s0 := cell_of_blk hV4 0; have s1 := cell_of_blk hV4 1; have s2 := cell_of_blk hV4 2; have s4 := cell_of_blk hV4 4; have s5 := cell_of_blk hV4 5; simp only [StV.vals] at s0 s1 s2 s4 s5; clear hs hb HX4 HB4 HT4 HN4 hV4 hM4 ht)
  go_ret
  exact ⟨rfl, HB5.out⟩
end Go.Proofs.YtgpkmellpllmgaaGreat
