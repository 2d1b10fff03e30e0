/-
  Merged from Fu_put, FdJob, FcJob, FdInst, FcInst, FdSub, FcSub, FdTok, FcTok, FdLst, FcLst, FdMsg, FcMsg, Fe_change.
-/
import Derived.Test.YtfjdllpacdobdaaGreatQ245e79bc840b
import Derived.Test.YtfjdllpacdobdaaGreatQ5e0e1d795d88
import Derived.Test.YtfjdllpacdobdaaGreatQ454fd6378163
import Derived.Test.YtfjdllpacdobdaaGreatQ95306dab299a
/-
  The events that put, from a state to a state. Printed by gfold2.py.
-/
set_option linter.unusedVariables false
set_option linter.unusedSimpArgs false
namespace Go.Proofs.YtfjdllpacdobdaaGreat
open Go Go.RowKit Go.Proofs.Base
open Go.Sort (grow)
end Go.Proofs.YtfjdllpacdobdaaGreat
/-
  slices.DeleteFunc, fold.without of Job. Printed by gfold.py.
-/
set_option linter.unusedVariables false
set_option linter.unusedSimpArgs false
namespace Go.Proofs.YtfjdllpacdobdaaGreat
open Go Go.RowKit Go.Proofs.Base
open Go.Sort (grow)
theorem rowb_Job {g cap i : Nat} {cur : Array Value} {w : World} {base : Nat} {l : List EJob} (hbg : base ≤ g) (hh : w.heap[g]? = some (.cells cur 45 (0, 0))) (hnc : i ≤ cap) (hcm : cap ≤ maxLen) (hcs : cap * 6 = cur.size) (hl : l.length = i) (ht : cur.toList.take (i * 6) = l.flatMap encJob) :
    w.ownsRow base 45 6 (.slice (some ⟨g, 0, none⟩) i cap) i (l.flatMap encJob) :=
  ⟨by rw [flat_len (enc := encJob) lenJob, hl], .inr ⟨g, cap, cur, rfl, hbg, hh, hnc, hcm, by omega, ht⟩⟩
end Go.Proofs.YtfjdllpacdobdaaGreat
/-
  fold.change of Job. Printed by gfold.py.
-/
set_option linter.unusedVariables false
set_option linter.unusedSimpArgs false
namespace Go.Proofs.YtfjdllpacdobdaaGreat
open Go Go.RowKit Go.Proofs.Base
open Go.Sort (grow)
set_option maxRecDepth 100000 in
set_option maxHeartbeats 4000000 in
theorem change_Job (A : Option Addr) (n c g g2 : Nat) (lb lb2 : Array Value) (l : List EJob) (p : EJob → Bool) (F : World → EJob → EJob → Prop) (w : World) (S : Nat → Prop) (eg : ∀ args w, (callFunc g args).run Tryz.prog w = .ok (.enter g args) w) (eg2 : ∀ args w, (callFunc g2 args).run Tryz.prog w = .ok (.enter g2 args) w)
    (hl : l.length = n) (hby : n * 64 ≤ 140737488355328) (hr : Row w S 6 n (.slice A n c) (l.flatMap encJob))
    (hp : ∀ W, Below w.heap.size w W → ∀ x ∈ l, Calls Tryz.prog g (#[.agg #[.int .u64 x.key, .int .u64 x.token, .string x.typ, .int .i64 x.retries, .string x.worker, .int .i64 x.till]] ++ lb) W fun e w' => e = .returned (.bool (p x)) ∧ Below W.heap.size W w')
    (hf : ∀ (W : World) (b : Nat) (cur : Array Value) (i : Nat) (hi : i < l.length), Below w.heap.size w W → w.heap.size ≤ b → W.heap[b]? = some (.cells cur 45 (0, 0)) → cur.toList.take (n * 6) = l.flatMap encJob → n * 6 ≤ cur.size →
      Calls Tryz.prog g2 (#[.pointer (some ⟨b, i * 6, none⟩)] ++ lb2) W fun e w' => e = .returned (.tuple #[]) ∧ ∃ y, ∃ cur' : Array Value, F w' l[i] y ∧ w'.heap[b]? = some (.cells cur' 45 (0, 0)) ∧ cur'.size = cur.size ∧ cur'.toList.take (n * 6) = (l.set i y).flatMap encJob ∧ Below w.heap.size w w') :
    Calls Tryz.prog 86 #[.slice A n c, .func (.func g) #[] lb, .func (.func g2) #[] lb2] w fun e w' => ∃ A' c', ∃ l' : List EJob, e = .returned (.slice A' n c') ∧ Row w' (fun b => S b ∨ w.heap.size ≤ b) 6 n (.slice A' n c') (l'.flatMap encJob) ∧ l'.length = n ∧
      ((idxP p l = -1 ∧ l' = l) ∨ ∃ i, ∃ hi : i < l.length, ∃ y, idxP p l = (i : Int) ∧ F w' l[i] y ∧ l' = l.set i y) ∧ Below w.heap.size w w' := by
  have HIX := Lib.hid (idx_Job A n c g lb l p w w S eg hl hr (Below.refl _ _) hp)
  have HR := Lib.hid hr
  have HL := Lib.hid hl
  have HBY := Lib.hid hby
  have HF := Lib.hid hf
  obtain ⟨A0, c0, he0, hnc0, hcm0⟩ := hr.open_
  injection he0 with q1 _ q3
  subst q1 q3
  clear hr hl hf hp eg hby
  rcases idxP_spec p l with ⟨h1, -⟩ | ⟨j, hj, h1, -, -⟩
  · go_enter Tryz.func86, Tryz.ntmps86
    go_wp2_with (go_at_call 72; refine HIX.out.mono ?_; rintro e w1 ⟨rfl, hb⟩; rw [h1]; have HB1 := Lib.hid hb; clear hb)
    go_ret
    exact ⟨A, c, l, rfl, (HR.out.below HB1.out).weaken (fun _ _ h => .inl h), HL.out, .inl ⟨h1, rfl⟩, HB1.out⟩
  · have HJ := Lib.hid hj
    have hjn : j < n := by have := HL.out; omega
    have hj0 : ¬ ((j : Int) < 0) := by omega
    clear hj
    go_enter Tryz.func86, Tryz.ntmps86
    go_wp2_with (go_at_call 72; refine HIX.out.mono ?_; rintro e w1 ⟨rfl, hb⟩; rw [h1]; have HB1 := Lib.hid hb; clear hb)
    refine (clone_Job A n c l w1 S HL.out HBY.out (HR.out.below HB1.out)).mono ?_
    rintro e w2 ⟨A2, c2, rfl, hown, hb⟩
    have HB2 := Lib.hid (below2 HB1.out hb)
    have HB12 := Lib.hid hb
    obtain ⟨gb, cap, cur, hv, hbg, hhg, hnc5, hcm5, hcs5, htk5⟩ := own_some hown (by omega)
    injection hv with hv1 hv2 hv3
    subst hv1 hv3
    have HG := Lib.hid hhg
    have HTK := Lib.hid htk5
    have HCS := Lib.hid hcs5
    have hws := HB1.out.size
    have HBG : Hid (w.heap.size ≤ gb) := Lib.hid (by omega)
    have HCM := Lib.hid hcm5
    clear hown hb hhg htk5 hcs5 hbg hcm5 hws
    go_wp2_with fail
    refine (HF.out w2 gb cur j HJ.out HB2.out HBG.out HG.out HTK.out (by have := HCS.out; have := Nat.mul_le_mul_right 6 hnc5; omega)).mono ?_
    rintro e w3 ⟨rfl, y, cur', hy, hh3, hcs3, htk3, hb3⟩
    have HY := Lib.hid (And.intro hy (And.intro hh3 (And.intro hcs3 (And.intro htk3 hb3))))
    clear hy hh3 hcs3 htk3 hb3
    go_wp2_with fail
    go_ret
    obtain ⟨hy, hh3, hcs3, htk3, hb3⟩ := HY.out
    have hll : (l.set j y).length = n := by rw [List.length_set, HL.out]
    refine ⟨_, _, l.set j y, rfl, (Row.of_own (rowb_Job (base := w.heap.size) HBG.out hh3 hnc5 HCM.out (by rw [hcs3]; have := HCS.out; omega) hll htk3)).weaken (fun _ _ h => .inr h.1), hll, .inr ⟨j, HJ.out, y, h1, hy, rfl⟩, hb3⟩
end Go.Proofs.YtfjdllpacdobdaaGreat
/-
  slices.DeleteFunc, fold.without of Instance. Printed by gfold.py.
-/
set_option linter.unusedVariables false
set_option linter.unusedSimpArgs false
namespace Go.Proofs.YtfjdllpacdobdaaGreat
open Go Go.RowKit Go.Proofs.Base
open Go.Sort (grow)
end Go.Proofs.YtfjdllpacdobdaaGreat
/-
  fold.change of Instance. Printed by gfold.py.
-/
set_option linter.unusedVariables false
set_option linter.unusedSimpArgs false
namespace Go.Proofs.YtfjdllpacdobdaaGreat
open Go Go.RowKit Go.Proofs.Base
open Go.Sort (grow)
end Go.Proofs.YtfjdllpacdobdaaGreat
/-
  slices.DeleteFunc, fold.without of Sub. Printed by gfold.py.
-/
set_option linter.unusedVariables false
set_option linter.unusedSimpArgs false
namespace Go.Proofs.YtfjdllpacdobdaaGreat
open Go Go.RowKit Go.Proofs.Base
open Go.Sort (grow)
end Go.Proofs.YtfjdllpacdobdaaGreat
/-
  fold.change of Sub. Printed by gfold.py.
-/
set_option linter.unusedVariables false
set_option linter.unusedSimpArgs false
namespace Go.Proofs.YtfjdllpacdobdaaGreat
open Go Go.RowKit Go.Proofs.Base
open Go.Sort (grow)
end Go.Proofs.YtfjdllpacdobdaaGreat
/-
  slices.DeleteFunc, fold.without of Token. Printed by gfold.py.
-/
set_option linter.unusedVariables false
set_option linter.unusedSimpArgs false
namespace Go.Proofs.YtfjdllpacdobdaaGreat
open Go Go.RowKit Go.Proofs.Base
open Go.Sort (grow)
end Go.Proofs.YtfjdllpacdobdaaGreat
/-
  fold.change of Token. Printed by gfold.py.
-/
set_option linter.unusedVariables false
set_option linter.unusedSimpArgs false
namespace Go.Proofs.YtfjdllpacdobdaaGreat
open Go Go.RowKit Go.Proofs.Base
open Go.Sort (grow)
end Go.Proofs.YtfjdllpacdobdaaGreat
/-
  slices.DeleteFunc, fold.without of Listed. Printed by gfold.py.
-/
set_option linter.unusedVariables false
set_option linter.unusedSimpArgs false
namespace Go.Proofs.YtfjdllpacdobdaaGreat
open Go Go.RowKit Go.Proofs.Base
open Go.Sort (grow)
end Go.Proofs.YtfjdllpacdobdaaGreat
/-
  fold.change of Listed. Printed by gfold.py.
-/
set_option linter.unusedVariables false
set_option linter.unusedSimpArgs false
namespace Go.Proofs.YtfjdllpacdobdaaGreat
open Go Go.RowKit Go.Proofs.Base
open Go.Sort (grow)
end Go.Proofs.YtfjdllpacdobdaaGreat
/-
  slices.DeleteFunc, fold.without of Message. Printed by gfold.py.
-/
set_option linter.unusedVariables false
set_option linter.unusedSimpArgs false
namespace Go.Proofs.YtfjdllpacdobdaaGreat
open Go Go.RowKit Go.Proofs.Base
open Go.Sort (grow)
end Go.Proofs.YtfjdllpacdobdaaGreat
/-
  fold.change of Message. Printed by gfold.py.
-/
set_option linter.unusedVariables false
set_option linter.unusedSimpArgs false
namespace Go.Proofs.YtfjdllpacdobdaaGreat
open Go Go.RowKit Go.Proofs.Base
open Go.Sort (grow)
end Go.Proofs.YtfjdllpacdobdaaGreat
/-
  The events that change one element. Printed by gfold2.py.
-/
set_option linter.unusedVariables false
set_option linter.unusedSimpArgs false
namespace Go.Proofs.YtfjdllpacdobdaaGreat
open Go Go.RowKit Go.Proofs.Base
open Go.Sort (grow)
set_option maxRecDepth 100000 in
theorem mk_ofJob (r : GRec) (vA : Option Addr) (vN vC : Nat) (w : World) (hvc : vN ≤ vC) (hvm : vC ≤ 9223372036854775807) :
    Calls Tryz.prog 87 #[.agg #[.int .i64 r.cls, .int .i64 r.kind, .int .u64 r.frm, .int .i64 r.time, .int .u64 r.key, .int .u64 r.key2, .int .u64 r.key3, .int .i64 r.n, .int .i64 r.m, .string r.a, .string r.b, .string r.c, .slice vA vN vC]] w fun e w' => e = .returned (.func (.func 151) #[] #[.pointer (some ⟨w.heap.size, 0, none⟩)]) ∧ recB w' w.heap.size r vA vN vC ∧ Below w.heap.size w w' := by
  go_enter Tryz.func87, Tryz.ntmps87
  go_wp2
  go_ret
  exact ⟨rfl, blk_new _, below_alloc (Below.refl _ _) _⟩
set_option maxRecDepth 100000 in
set_option maxHeartbeats 4000000 in
theorem ev_taken (Pp Dd Mm : Int) (A3 : Option Addr) (n3 c3 : Nat) (A4 : Option Addr) (n4 c4 : Nat) (A5 : Option Addr) (n5 c5 : Nat) (A6 : Option Addr) (n6 c6 : Nat) (A7 : Option Addr) (n7 c7 : Nat) (A8 : Option Addr) (n8 c8 : Nat) (A9 : Option Addr) (n9 c9 : Nat) (A10 : Option Addr) (n10 c10 : Nat) (A11 : Option Addr) (n11 c11 : Nat) (r : GRec) (vA : Option Addr) (vN vC : Nat) (l : List EJob) (w : World) (S : Nat → Prop) (hl : l.length = n6) (hby : n6 * 64 ≤ 140737488355328) (hr : Row w S 6 n6 (.slice A6 n6 c6) (l.flatMap encJob)) (hvc : vN ≤ vC) (hvm : vC ≤ 9223372036854775807) :
    Calls Tryz.prog 56 #[.agg #[.int .u64 Pp, .int .u64 Dd, .int .u64 Mm, .slice A3 n3 c3, .slice A4 n4 c4, .slice A5 n5 c5, .slice A6 n6 c6, .slice A7 n7 c7, .slice A8 n8 c8, .slice A9 n9 c9, .slice A10 n10 c10, .slice A11 n11 c11], .agg #[.int .i64 r.cls, .int .i64 r.kind, .int .u64 r.frm, .int .i64 r.time, .int .u64 r.key, .int .u64 r.key2, .int .u64 r.key3, .int .i64 r.n, .int .i64 r.m, .string r.a, .string r.b, .string r.c, .slice vA vN vC]] w fun e w' => ∃ A' c', e = .returned (.agg #[.int .u64 Pp, .int .u64 Dd, .int .u64 Mm, .slice A3 n3 c3, .slice A4 n4 c4, .slice A5 n5 c5, .slice A' n6 c', .slice A7 n7 c7, .slice A8 n8 c8, .slice A9 n9 c9, .slice A10 n10 c10, .slice A11 n11 c11]) ∧ Row w' (fun b => S b ∨ w.heap.size ≤ b) 6 n6 (.slice A' n6 c') ((changeL (fun x : EJob => x.key == r.key) (fun x => { x with worker := r.a, till := r.n }) l).flatMap encJob) ∧ Below w.heap.size w w' := by
  obtain ⟨N, hN⟩ : ∃ N, N = ((w.alloc (.cells #[.int .u64 Pp, .int .u64 Dd, .int .u64 Mm, .slice A3 n3 c3, .slice A4 n4 c4, .slice A5 n5 c5, .slice A6 n6 c6, .slice A7 n7 c7, .slice A8 n8 c8, .slice A9 n9 c9, .slice A10 n10 c10, .slice A11 n11 c11] 33)).alloc (.cells #[.int .i64 r.cls, .int .i64 r.kind, .int .u64 r.frm, .int .i64 r.time, .int .u64 r.key, .int .u64 r.key2, .int .u64 r.key3, .int .i64 r.n, .int .i64 r.m, .string r.a, .string r.b, .string r.c, .slice vA vN vC] 71)).alloc (.cells #[.int .u64 0, .int .u64 0, .int .u64 0, .slice none 0 0, .slice none 0 0, .slice none 0 0, .slice none 0 0, .slice none 0 0, .slice none 0 0, .slice none 0 0, .slice none 0 0, .slice none 0 0] 33) := ⟨_, rfl⟩
  have b0 : N.heap[w.heap.size]? = some (.cells #[.int .u64 Pp, .int .u64 Dd, .int .u64 Mm, .slice A3 n3 c3, .slice A4 n4 c4, .slice A5 n5 c5, .slice A6 n6 c6, .slice A7 n7 c7, .slice A8 n8 c8, .slice A9 n9 c9, .slice A10 n10 c10, .slice A11 n11 c11] 33 (0, 0)) := by rw [hN]; exact blk_alloc (blk_alloc (blk_new _) _) _
  have b1 : recB N (w.heap.size + 1) r vA vN vC := by rw [hN]; exact blk_alloc (blk_new_of _ (by simp)) _
  have b2 : N.heap[w.heap.size + 1 + 1]? = some (.cells #[.int .u64 0, .int .u64 0, .int .u64 0, .slice none 0 0, .slice none 0 0, .slice none 0 0, .slice none 0 0, .slice none 0 0, .slice none 0 0, .slice none 0 0, .slice none 0 0, .slice none 0 0] 33 (0, 0)) := by rw [hN]; exact blk_new_of _ (by simp)
  have hB : Below w.heap.size w N := by rw [hN]; exact below_alloc (below_alloc (below_alloc (Below.refl _ _) _) _) _
  have hsz : N.heap.size = w.heap.size + 3 := by rw [hN]; simp
  have HN := Lib.hid hN
  have HB := Lib.hid hB
  have HSZ := Lib.hid hsz
  have K0 := Lib.hid b0
  have K1 := Lib.hid b1
  have K2 := Lib.hid b2
  have eg : ∀ args w, (callFunc 151 args).run Tryz.prog w = .ok (.enter 151 args) w := enters_of Tryz.func151 (by kernel_rfl) rfl
  have eg2 : ∀ args w, (callFunc 88 args).run Tryz.prog w = .ok (.enter 88 args) w := enters_of Tryz.func88 (by kernel_rfl) rfl
  have HCH := Lib.hid (fun W bq (hW : Below N.heap.size N W) (hq : recB W bq r vA vN vC) => change_Job A6 n6 c6 151 88 #[.pointer (some ⟨bq, 0, none⟩)] #[.pointer (some ⟨w.heap.size + 1, 0, none⟩)] l (fun x : EJob => x.key == r.key) (fun _ x y => y = { x with worker := r.a, till := r.n }) W (fun b => S b ∧ b < w.heap.size) eg eg2 hl hby ((hr.weaken (S' := fun b => S b ∧ b < w.heap.size) (fun b hb h => ⟨h, hb⟩)).below (below2 hB hW))
    (fun V hV x _ => p_ofJob_1 bq x r vA vN vC V (block_below hV hq))
    (fun V b cur i hi hV hwb hg ht hs => (c_taken_1 b i n6 cur l (w.heap.size + 1) r vA vN vC (by have := hW.size; omega) V (block_below hV (block_below hW b1)) hi hl hg ht hs).mono (fun e w' ⟨he, cur', h1, h2, h3, hm⟩ => ⟨he, _, cur', rfl, h1, h2, h3, below_mut hV hm (fun b' hb' => hb' ▸ hwb)⟩)))
  have HMK := Lib.hid (fun W => mk_ofJob r vA vN vC W hvc hvm)
  clear hN hB hsz b0 b1 b2 hr hl eg eg2
  have k0 := K0.out
  have k1 := K1.out
  go_enter Tryz.func56, Tryz.ntmps56
  go_wp2_with fail
  rw [show ((w.alloc (.cells #[.int .u64 Pp, .int .u64 Dd, .int .u64 Mm, .slice A3 n3 c3, .slice A4 n4 c4, .slice A5 n5 c5, .slice A6 n6 c6, .slice A7 n7 c7, .slice A8 n8 c8, .slice A9 n9 c9, .slice A10 n10 c10, .slice A11 n11 c11] 33)).alloc (.cells #[.int .i64 r.cls, .int .i64 r.kind, .int .u64 r.frm, .int .i64 r.time, .int .u64 r.key, .int .u64 r.key2, .int .u64 r.key3, .int .i64 r.n, .int .i64 r.m, .string r.a, .string r.b, .string r.c, .slice vA vN vC] 71)).alloc (.cells #[.int .u64 0, .int .u64 0, .int .u64 0, .slice none 0 0, .slice none 0 0, .slice none 0 0, .slice none 0 0, .slice none 0 0, .slice none 0 0, .slice none 0 0, .slice none 0 0, .slice none 0 0] 33) = N from HN.out.symm]
  have s6 := cell_regrown (cell_of_blk k0 6)
  have q0 := cell_regrown (cell_of_blk k1 0)
  have q1 := cell_regrown (cell_of_blk k1 1)
  have q2 := cell_regrown (cell_of_blk k1 2)
  have q3 := cell_regrown (cell_of_blk k1 3)
  have q4 := cell_regrown (cell_of_blk k1 4)
  have q5 := cell_regrown (cell_of_blk k1 5)
  have q6 := cell_regrown (cell_of_blk k1 6)
  have q7 := cell_regrown (cell_of_blk k1 7)
  have q8 := cell_regrown (cell_of_blk k1 8)
  have q9 := cell_regrown (cell_of_blk k1 9)
  have q10 := cell_regrown (cell_of_blk k1 10)
  have q11 := cell_regrown (cell_of_blk k1 11)
  have q12 := cell_regrown (cell_of_blk k1 12)
  clear k0 k1
  refine wp_region_ord [7] (n := 8) (listed := #[false, false, false, false, false, false, false, false]) (by kernel_rfl) rfl rfl ?_
  ((refine wpK_pure (fuel := 7) (listed' := #[true, false, false, false, false, false, false, false]) 0 rfl (by kernel_rfl) rfl ?_; (first | go_big_quiet_step (fail) | quiet_step (fail)); refine wpQuiet_nil ?_))
  ((refine wpK_read (fuel := 6) (listed' := #[true, true, false, false, false, false, false, false]) 1 (by first | exact regrown_first _ _ | exact regrown_self _) rfl (by kernel_rfl) rfl ?_; (first | go_big_quiet_step (fail) | quiet_step (fail)); refine wpQuiet_nil ?_); (refine wpK_read (fuel := 5) (listed' := #[true, true, true, false, false, false, false, false]) 2 (by first | exact regrown_first _ _ | exact regrown_self _) rfl (by kernel_rfl) rfl ?_; (first | go_big_quiet_step (fail) | quiet_step (fail)); refine wpQuiet_nil ?_))
  ((refine wpK_pure (fuel := 4) (listed' := #[true, true, true, false, true, false, false, false]) 4 rfl (by kernel_rfl) rfl ?_; (first | go_big_quiet_step (fail) | quiet_step (fail)); refine wpQuiet_nil ?_))
  refine wpK_one (fuel := 3) (listed' := #[true, true, true, true, true, false, false, false]) 3 rfl (by kernel_rfl) rfl ?_
  go_wp2_with (go_at_call 87; refine (HMK.out _).mono ?_; rintro e w1 ⟨rfl, hq, hb⟩; have HQ := Lib.hid hq; have HB1 := Lib.hid (below2 (below_redrawn N (N.drawn + 1)) hb); clear hq hb)
  refine ⟨rfl, fun _ _ => regrown_of_below HB1.out, ?_⟩
  refine wpK_one (fuel := 2) (listed' := #[true, true, true, true, true, true, false, false]) 5 rfl (by kernel_rfl) rfl ?_
  go_wp2_with fail
  refine (HCH.out w1 _ HB1.out HQ.out).mono ?_
  rintro e w2 ⟨A', c', l', rfl, hrow, hll, hrel, hb⟩
  have HR2 := Lib.hid hrow
  have HLL := Lib.hid hll
  have HRel := Lib.hid hrel
  have HB2 := Lib.hid (below2 HB1.out hb)
  have HWB := Lib.hid (below2 HB.out HB2.out)
  have k0 := block_below HB2.out K0.out
  have k2 := block_below HB2.out K2.out
  obtain ⟨Ab, cb, heb, hncb, hcmb⟩ := hrow.open_
  injection heb with eb1 _ eb3
  subst eb1 eb3
  clear hrow hll hrel hb s6 q0 q1 q2 q3 q4 q5 q6 q7 q8 q9 q10 q11 q12
  have s0 := cell_of_blk k0 0
  have s1 := cell_of_blk k0 1
  have s2 := cell_of_blk k0 2
  have s3 := cell_of_blk k0 3
  have s4 := cell_of_blk k0 4
  have s5 := cell_of_blk k0 5
  have s6 := cell_of_blk k0 6
  have s7 := cell_of_blk k0 7
  have s8 := cell_of_blk k0 8
  have s9 := cell_of_blk k0 9
  have s10 := cell_of_blk k0 10
  have s11 := cell_of_blk k0 11
  have f0 := frozen_of_blk k0 0
  have f1 := frozen_of_blk k0 1
  have f2 := frozen_of_blk k0 2
  have f3 := frozen_of_blk k0 3
  have f4 := frozen_of_blk k0 4
  have f5 := frozen_of_blk k0 5
  have f6 := frozen_of_blk k0 6
  have f7 := frozen_of_blk k0 7
  have f8 := frozen_of_blk k0 8
  have f9 := frozen_of_blk k0 9
  have f10 := frozen_of_blk k0 10
  have f11 := frozen_of_blk k0 11
  have z0 := cell_of_blk k2 0
  have z1 := cell_of_blk k2 1
  have z2 := cell_of_blk k2 2
  have z3 := cell_of_blk k2 3
  have z4 := cell_of_blk k2 4
  have z5 := cell_of_blk k2 5
  have z6 := cell_of_blk k2 6
  have z7 := cell_of_blk k2 7
  have z8 := cell_of_blk k2 8
  have z9 := cell_of_blk k2 9
  have z10 := cell_of_blk k2 10
  have z11 := cell_of_blk k2 11
  have g0 := frozen_of_blk k2 0
  have g1 := frozen_of_blk k2 1
  have g2 := frozen_of_blk k2 2
  have g3 := frozen_of_blk k2 3
  have g4 := frozen_of_blk k2 4
  have g5 := frozen_of_blk k2 5
  have g6 := frozen_of_blk k2 6
  have g7 := frozen_of_blk k2 7
  have g8 := frozen_of_blk k2 8
  have g9 := frozen_of_blk k2 9
  have g10 := frozen_of_blk k2 10
  have g11 := frozen_of_blk k2 11
  have KZ := Lib.hid k2
  have KS := Lib.hid k0
  clear k0 k2
  go_wp2_with fail
  refine ⟨rfl, fun _ _ => regrown_of_below HB2.out, ?_⟩
  ((refine wpK_pure (fuel := 1) (listed' := #[true, true, true, true, true, true, true, false]) 6 rfl (by kernel_rfl) rfl ?_; (first | go_big_quiet_step (fail) | quiet_step (fail)); refine wpQuiet_nil ?_))
  refine wpK_one (fuel := 0) (listed' := #[true, true, true, true, true, true, true, true]) 7 rfl (by kernel_rfl) rfl ?_
  go_wp2_with fail
  refine ⟨rfl, fun h => absurd h (by decide), ?_⟩
  refine wpK_end rfl ?_
  go_wp2_with fail
  generalize hWE : World.setCell (World.setCell (World.setCell (World.setCell (World.setCell (World.setCell (World.setCell (World.setCell (World.setCell (World.setCell (World.setCell (World.setCell (World.setCell (_) _ _) _ _) _ _) _ _) _ _) _ _) _ _) _ _) _ _) _ _) _ _) _ _) _ _ = WE
  have ho : WE.heap[w.heap.size + 1 + 1]? = some (.cells #[.int .u64 Pp, .int .u64 Dd, .int .u64 Mm, .slice A3 n3 c3, .slice A4 n4 c4, .slice A5 n5 c5, .slice A' n6 c', .slice A7 n7 c7, .slice A8 n8 c8, .slice A9 n9 c9, .slice A10 n10 c10, .slice A11 n11 c11] 33 (0, 0)) := by rw [← hWE]; exact set_blk12 (blk_set_other (b := w.heap.size) (o := 6) (KZ.out) (by omega)) (.int .u64 Pp) (.int .u64 Dd) (.int .u64 Mm) (.slice A3 n3 c3) (.slice A4 n4 c4) (.slice A5 n5 c5) (.slice A' n6 c') (.slice A7 n7 c7) (.slice A8 n8 c8) (.slice A9 n9 c9) (.slice A10 n10 c10) (.slice A11 n11 c11)
  have hbe : Below w.heap.size w WE := by rw [← hWE]; exact (((((((((((((HWB.out).setCell (p := ⟨w.heap.size, 6, none⟩) (Nat.le_refl _) _).setCell (p := ⟨w.heap.size + 1 + 1, 0, none⟩) (by show _ ≤ _ + 1 + 1; omega) _).setCell (p := ⟨w.heap.size + 1 + 1, 1, none⟩) (by show _ ≤ _ + 1 + 1; omega) _).setCell (p := ⟨w.heap.size + 1 + 1, 2, none⟩) (by show _ ≤ _ + 1 + 1; omega) _).setCell (p := ⟨w.heap.size + 1 + 1, 3, none⟩) (by show _ ≤ _ + 1 + 1; omega) _).setCell (p := ⟨w.heap.size + 1 + 1, 4, none⟩) (by show _ ≤ _ + 1 + 1; omega) _).setCell (p := ⟨w.heap.size + 1 + 1, 5, none⟩) (by show _ ≤ _ + 1 + 1; omega) _).setCell (p := ⟨w.heap.size + 1 + 1, 6, none⟩) (by show _ ≤ _ + 1 + 1; omega) _).setCell (p := ⟨w.heap.size + 1 + 1, 7, none⟩) (by show _ ≤ _ + 1 + 1; omega) _).setCell (p := ⟨w.heap.size + 1 + 1, 8, none⟩) (by show _ ≤ _ + 1 + 1; omega) _).setCell (p := ⟨w.heap.size + 1 + 1, 9, none⟩) (by show _ ≤ _ + 1 + 1; omega) _).setCell (p := ⟨w.heap.size + 1 + 1, 10, none⟩) (by show _ ≤ _ + 1 + 1; omega) _).setCell (p := ⟨w.heap.size + 1 + 1, 11, none⟩) (by show _ ≤ _ + 1 + 1; omega) _
  have hmu : Mut (fun b => b = w.heap.size ∨ b = w.heap.size + 1 + 1) w2 WE := by
    rw [← hWE]
    exact Mut.setCell (T := fun b => b = w.heap.size ∨ b = w.heap.size + 1 + 1) (Mut.setCell (T := fun b => b = w.heap.size ∨ b = w.heap.size + 1 + 1) (Mut.setCell (T := fun b => b = w.heap.size ∨ b = w.heap.size + 1 + 1) (Mut.setCell (T := fun b => b = w.heap.size ∨ b = w.heap.size + 1 + 1) (Mut.setCell (T := fun b => b = w.heap.size ∨ b = w.heap.size + 1 + 1) (Mut.setCell (T := fun b => b = w.heap.size ∨ b = w.heap.size + 1 + 1) (Mut.setCell (T := fun b => b = w.heap.size ∨ b = w.heap.size + 1 + 1) (Mut.setCell (T := fun b => b = w.heap.size ∨ b = w.heap.size + 1 + 1) (Mut.setCell (T := fun b => b = w.heap.size ∨ b = w.heap.size + 1 + 1) (Mut.setCell (T := fun b => b = w.heap.size ∨ b = w.heap.size + 1 + 1) (Mut.setCell (T := fun b => b = w.heap.size ∨ b = w.heap.size + 1 + 1) (Mut.setCell (T := fun b => b = w.heap.size ∨ b = w.heap.size + 1 + 1) (Mut.setCell (T := fun b => b = w.heap.size ∨ b = w.heap.size + 1 + 1) (Mut.refl _ _) (p := ⟨w.heap.size, 6, none⟩) (fun _ => .inl rfl) _) (p := ⟨w.heap.size + 1 + 1, 0, none⟩) (fun _ => .inr rfl) _) (p := ⟨w.heap.size + 1 + 1, 1, none⟩) (fun _ => .inr rfl) _) (p := ⟨w.heap.size + 1 + 1, 2, none⟩) (fun _ => .inr rfl) _) (p := ⟨w.heap.size + 1 + 1, 3, none⟩) (fun _ => .inr rfl) _) (p := ⟨w.heap.size + 1 + 1, 4, none⟩) (fun _ => .inr rfl) _) (p := ⟨w.heap.size + 1 + 1, 5, none⟩) (fun _ => .inr rfl) _) (p := ⟨w.heap.size + 1 + 1, 6, none⟩) (fun _ => .inr rfl) _) (p := ⟨w.heap.size + 1 + 1, 7, none⟩) (fun _ => .inr rfl) _) (p := ⟨w.heap.size + 1 + 1, 8, none⟩) (fun _ => .inr rfl) _) (p := ⟨w.heap.size + 1 + 1, 9, none⟩) (fun _ => .inr rfl) _) (p := ⟨w.heap.size + 1 + 1, 10, none⟩) (fun _ => .inr rfl) _) (p := ⟨w.heap.size + 1 + 1, 11, none⟩) (fun _ => .inr rfl) _
  have r0 := cell_of_blk ho 0
  have r1 := cell_of_blk ho 1
  have r2 := cell_of_blk ho 2
  have r3 := cell_of_blk ho 3
  have r4 := cell_of_blk ho 4
  have r5 := cell_of_blk ho 5
  have r6 := cell_of_blk ho 6
  have r7 := cell_of_blk ho 7
  have r8 := cell_of_blk ho 8
  have r9 := cell_of_blk ho 9
  have r10 := cell_of_blk ho 10
  have r11 := cell_of_blk ho 11
  have hov : Row WE (fun b => S b ∨ w.heap.size ≤ b) 6 n6 (.slice A' n6 c') ((changeL (fun x : EJob => x.key == r.key) (fun x => { x with worker := r.a, till := r.n }) l).flatMap encJob) := by
    rw [← changeL_of (p := fun x : EJob => x.key == r.key) (f := fun x => { x with worker := r.a, till := r.n }) HRel.out]
    have hbs := HB1.out.size
    have hNs := HSZ.out
    exact (HR2.out.mut hmu (fun b _ hb h => by omega)).weaken (fun b _ h => h.elim (fun h => .inl h.1) (fun h => .inr (by omega)))
  refine bodyPost_ret (v := .agg #[.int .u64 Pp, .int .u64 Dd, .int .u64 Mm, .slice A3 n3 c3, .slice A4 n4 c4, .slice A5 n5 c5, .slice A' n6 c', .slice A7 n7 c7, .slice A8 n8 c8, .slice A9 n9 c9, .slice A10 n10 c10, .slice A11 n11 c11]) (by simp [results, Tryz.results56, go_sem, r0, r1, r2, r3, r4, r5, r6, r7, r8, r9, r10, r11]) rfl ⟨A', c', rfl, hov, hbe⟩
set_option maxRecDepth 100000 in
set_option maxHeartbeats 4000000 in
theorem ev_back (Pp Dd Mm : Int) (A3 : Option Addr) (n3 c3 : Nat) (A4 : Option Addr) (n4 c4 : Nat) (A5 : Option Addr) (n5 c5 : Nat) (A6 : Option Addr) (n6 c6 : Nat) (A7 : Option Addr) (n7 c7 : Nat) (A8 : Option Addr) (n8 c8 : Nat) (A9 : Option Addr) (n9 c9 : Nat) (A10 : Option Addr) (n10 c10 : Nat) (A11 : Option Addr) (n11 c11 : Nat) (r : GRec) (vA : Option Addr) (vN vC : Nat) (l : List EJob) (w : World) (S : Nat → Prop) (hl : l.length = n6) (hby : n6 * 64 ≤ 140737488355328) (hr : Row w S 6 n6 (.slice A6 n6 c6) (l.flatMap encJob)) (hvc : vN ≤ vC) (hvm : vC ≤ 9223372036854775807) :
    Calls Tryz.prog 57 #[.agg #[.int .u64 Pp, .int .u64 Dd, .int .u64 Mm, .slice A3 n3 c3, .slice A4 n4 c4, .slice A5 n5 c5, .slice A6 n6 c6, .slice A7 n7 c7, .slice A8 n8 c8, .slice A9 n9 c9, .slice A10 n10 c10, .slice A11 n11 c11], .agg #[.int .i64 r.cls, .int .i64 r.kind, .int .u64 r.frm, .int .i64 r.time, .int .u64 r.key, .int .u64 r.key2, .int .u64 r.key3, .int .i64 r.n, .int .i64 r.m, .string r.a, .string r.b, .string r.c, .slice vA vN vC]] w fun e w' => ∃ A' c', e = .returned (.agg #[.int .u64 Pp, .int .u64 Dd, .int .u64 Mm, .slice A3 n3 c3, .slice A4 n4 c4, .slice A5 n5 c5, .slice A' n6 c', .slice A7 n7 c7, .slice A8 n8 c8, .slice A9 n9 c9, .slice A10 n10 c10, .slice A11 n11 c11]) ∧ Row w' (fun b => S b ∨ w.heap.size ≤ b) 6 n6 (.slice A' n6 c') ((changeL (fun x : EJob => x.key == r.key) (fun x => { x with retries := r.n, worker := ⟨#[]⟩, till := 0 }) l).flatMap encJob) ∧ Below w.heap.size w w' := by
  obtain ⟨N, hN⟩ : ∃ N, N = ((w.alloc (.cells #[.int .u64 Pp, .int .u64 Dd, .int .u64 Mm, .slice A3 n3 c3, .slice A4 n4 c4, .slice A5 n5 c5, .slice A6 n6 c6, .slice A7 n7 c7, .slice A8 n8 c8, .slice A9 n9 c9, .slice A10 n10 c10, .slice A11 n11 c11] 33)).alloc (.cells #[.int .i64 r.cls, .int .i64 r.kind, .int .u64 r.frm, .int .i64 r.time, .int .u64 r.key, .int .u64 r.key2, .int .u64 r.key3, .int .i64 r.n, .int .i64 r.m, .string r.a, .string r.b, .string r.c, .slice vA vN vC] 71)).alloc (.cells #[.int .u64 0, .int .u64 0, .int .u64 0, .slice none 0 0, .slice none 0 0, .slice none 0 0, .slice none 0 0, .slice none 0 0, .slice none 0 0, .slice none 0 0, .slice none 0 0, .slice none 0 0] 33) := ⟨_, rfl⟩
  have b0 : N.heap[w.heap.size]? = some (.cells #[.int .u64 Pp, .int .u64 Dd, .int .u64 Mm, .slice A3 n3 c3, .slice A4 n4 c4, .slice A5 n5 c5, .slice A6 n6 c6, .slice A7 n7 c7, .slice A8 n8 c8, .slice A9 n9 c9, .slice A10 n10 c10, .slice A11 n11 c11] 33 (0, 0)) := by rw [hN]; exact blk_alloc (blk_alloc (blk_new _) _) _
  have b1 : recB N (w.heap.size + 1) r vA vN vC := by rw [hN]; exact blk_alloc (blk_new_of _ (by simp)) _
  have b2 : N.heap[w.heap.size + 1 + 1]? = some (.cells #[.int .u64 0, .int .u64 0, .int .u64 0, .slice none 0 0, .slice none 0 0, .slice none 0 0, .slice none 0 0, .slice none 0 0, .slice none 0 0, .slice none 0 0, .slice none 0 0, .slice none 0 0] 33 (0, 0)) := by rw [hN]; exact blk_new_of _ (by simp)
  have hB : Below w.heap.size w N := by rw [hN]; exact below_alloc (below_alloc (below_alloc (Below.refl _ _) _) _) _
  have hsz : N.heap.size = w.heap.size + 3 := by rw [hN]; simp
  have HN := Lib.hid hN
  have HB := Lib.hid hB
  have HSZ := Lib.hid hsz
  have K0 := Lib.hid b0
  have K1 := Lib.hid b1
  have K2 := Lib.hid b2
  have eg : ∀ args w, (callFunc 151 args).run Tryz.prog w = .ok (.enter 151 args) w := enters_of Tryz.func151 (by kernel_rfl) rfl
  have eg2 : ∀ args w, (callFunc 89 args).run Tryz.prog w = .ok (.enter 89 args) w := enters_of Tryz.func89 (by kernel_rfl) rfl
  have HCH := Lib.hid (fun W bq (hW : Below N.heap.size N W) (hq : recB W bq r vA vN vC) => change_Job A6 n6 c6 151 89 #[.pointer (some ⟨bq, 0, none⟩)] #[.pointer (some ⟨w.heap.size + 1, 0, none⟩)] l (fun x : EJob => x.key == r.key) (fun _ x y => y = { x with retries := r.n, worker := ⟨#[]⟩, till := 0 }) W (fun b => S b ∧ b < w.heap.size) eg eg2 hl hby ((hr.weaken (S' := fun b => S b ∧ b < w.heap.size) (fun b hb h => ⟨h, hb⟩)).below (below2 hB hW))
    (fun V hV x _ => p_ofJob_1 bq x r vA vN vC V (block_below hV hq))
    (fun V b cur i hi hV hwb hg ht hs => (c_back_1 b i n6 cur l (w.heap.size + 1) r vA vN vC (by have := hW.size; omega) V (block_below hV (block_below hW b1)) hi hl hg ht hs).mono (fun e w' ⟨he, cur', h1, h2, h3, hm⟩ => ⟨he, _, cur', rfl, h1, h2, h3, below_mut hV hm (fun b' hb' => hb' ▸ hwb)⟩)))
  have HMK := Lib.hid (fun W => mk_ofJob r vA vN vC W hvc hvm)
  clear hN hB hsz b0 b1 b2 hr hl eg eg2
  have k0 := K0.out
  have k1 := K1.out
  go_enter Tryz.func57, Tryz.ntmps57
  go_wp2_with fail
  rw [show ((w.alloc (.cells #[.int .u64 Pp, .int .u64 Dd, .int .u64 Mm, .slice A3 n3 c3, .slice A4 n4 c4, .slice A5 n5 c5, .slice A6 n6 c6, .slice A7 n7 c7, .slice A8 n8 c8, .slice A9 n9 c9, .slice A10 n10 c10, .slice A11 n11 c11] 33)).alloc (.cells #[.int .i64 r.cls, .int .i64 r.kind, .int .u64 r.frm, .int .i64 r.time, .int .u64 r.key, .int .u64 r.key2, .int .u64 r.key3, .int .i64 r.n, .int .i64 r.m, .string r.a, .string r.b, .string r.c, .slice vA vN vC] 71)).alloc (.cells #[.int .u64 0, .int .u64 0, .int .u64 0, .slice none 0 0, .slice none 0 0, .slice none 0 0, .slice none 0 0, .slice none 0 0, .slice none 0 0, .slice none 0 0, .slice none 0 0, .slice none 0 0] 33) = N from HN.out.symm]
  have s6 := cell_regrown (cell_of_blk k0 6)
  have q0 := cell_regrown (cell_of_blk k1 0)
  have q1 := cell_regrown (cell_of_blk k1 1)
  have q2 := cell_regrown (cell_of_blk k1 2)
  have q3 := cell_regrown (cell_of_blk k1 3)
  have q4 := cell_regrown (cell_of_blk k1 4)
  have q5 := cell_regrown (cell_of_blk k1 5)
  have q6 := cell_regrown (cell_of_blk k1 6)
  have q7 := cell_regrown (cell_of_blk k1 7)
  have q8 := cell_regrown (cell_of_blk k1 8)
  have q9 := cell_regrown (cell_of_blk k1 9)
  have q10 := cell_regrown (cell_of_blk k1 10)
  have q11 := cell_regrown (cell_of_blk k1 11)
  have q12 := cell_regrown (cell_of_blk k1 12)
  clear k0 k1
  refine wp_region_ord [7] (n := 8) (listed := #[false, false, false, false, false, false, false, false]) (by kernel_rfl) rfl rfl ?_
  ((refine wpK_pure (fuel := 7) (listed' := #[true, false, false, false, false, false, false, false]) 0 rfl (by kernel_rfl) rfl ?_; (first | go_big_quiet_step (fail) | quiet_step (fail)); refine wpQuiet_nil ?_))
  ((refine wpK_read (fuel := 6) (listed' := #[true, true, false, false, false, false, false, false]) 1 (by first | exact regrown_first _ _ | exact regrown_self _) rfl (by kernel_rfl) rfl ?_; (first | go_big_quiet_step (fail) | quiet_step (fail)); refine wpQuiet_nil ?_); (refine wpK_read (fuel := 5) (listed' := #[true, true, true, false, false, false, false, false]) 2 (by first | exact regrown_first _ _ | exact regrown_self _) rfl (by kernel_rfl) rfl ?_; (first | go_big_quiet_step (fail) | quiet_step (fail)); refine wpQuiet_nil ?_))
  ((refine wpK_pure (fuel := 4) (listed' := #[true, true, true, false, true, false, false, false]) 4 rfl (by kernel_rfl) rfl ?_; (first | go_big_quiet_step (fail) | quiet_step (fail)); refine wpQuiet_nil ?_))
  refine wpK_one (fuel := 3) (listed' := #[true, true, true, true, true, false, false, false]) 3 rfl (by kernel_rfl) rfl ?_
  go_wp2_with (go_at_call 87; refine (HMK.out _).mono ?_; rintro e w1 ⟨rfl, hq, hb⟩; have HQ := Lib.hid hq; have HB1 := Lib.hid (below2 (below_redrawn N (N.drawn + 1)) hb); clear hq hb)
  refine ⟨rfl, fun _ _ => regrown_of_below HB1.out, ?_⟩
  refine wpK_one (fuel := 2) (listed' := #[true, true, true, true, true, true, false, false]) 5 rfl (by kernel_rfl) rfl ?_
  go_wp2_with fail
  refine (HCH.out w1 _ HB1.out HQ.out).mono ?_
  rintro e w2 ⟨A', c', l', rfl, hrow, hll, hrel, hb⟩
  have HR2 := Lib.hid hrow
  have HLL := Lib.hid hll
  have HRel := Lib.hid hrel
  have HB2 := Lib.hid (below2 HB1.out hb)
  have HWB := Lib.hid (below2 HB.out HB2.out)
  have k0 := block_below HB2.out K0.out
  have k2 := block_below HB2.out K2.out
  obtain ⟨Ab, cb, heb, hncb, hcmb⟩ := hrow.open_
  injection heb with eb1 _ eb3
  subst eb1 eb3
  clear hrow hll hrel hb s6 q0 q1 q2 q3 q4 q5 q6 q7 q8 q9 q10 q11 q12
  have s0 := cell_of_blk k0 0
  have s1 := cell_of_blk k0 1
  have s2 := cell_of_blk k0 2
  have s3 := cell_of_blk k0 3
  have s4 := cell_of_blk k0 4
  have s5 := cell_of_blk k0 5
  have s6 := cell_of_blk k0 6
  have s7 := cell_of_blk k0 7
  have s8 := cell_of_blk k0 8
  have s9 := cell_of_blk k0 9
  have s10 := cell_of_blk k0 10
  have s11 := cell_of_blk k0 11
  have f0 := frozen_of_blk k0 0
  have f1 := frozen_of_blk k0 1
  have f2 := frozen_of_blk k0 2
  have f3 := frozen_of_blk k0 3
  have f4 := frozen_of_blk k0 4
  have f5 := frozen_of_blk k0 5
  have f6 := frozen_of_blk k0 6
  have f7 := frozen_of_blk k0 7
  have f8 := frozen_of_blk k0 8
  have f9 := frozen_of_blk k0 9
  have f10 := frozen_of_blk k0 10
  have f11 := frozen_of_blk k0 11
  have z0 := cell_of_blk k2 0
  have z1 := cell_of_blk k2 1
  have z2 := cell_of_blk k2 2
  have z3 := cell_of_blk k2 3
  have z4 := cell_of_blk k2 4
  have z5 := cell_of_blk k2 5
  have z6 := cell_of_blk k2 6
  have z7 := cell_of_blk k2 7
  have z8 := cell_of_blk k2 8
  have z9 := cell_of_blk k2 9
  have z10 := cell_of_blk k2 10
  have z11 := cell_of_blk k2 11
  have g0 := frozen_of_blk k2 0
  have g1 := frozen_of_blk k2 1
  have g2 := frozen_of_blk k2 2
  have g3 := frozen_of_blk k2 3
  have g4 := frozen_of_blk k2 4
  have g5 := frozen_of_blk k2 5
  have g6 := frozen_of_blk k2 6
  have g7 := frozen_of_blk k2 7
  have g8 := frozen_of_blk k2 8
  have g9 := frozen_of_blk k2 9
  have g10 := frozen_of_blk k2 10
  have g11 := frozen_of_blk k2 11
  have KZ := Lib.hid k2
  have KS := Lib.hid k0
  clear k0 k2
  go_wp2_with fail
  refine ⟨rfl, fun _ _ => regrown_of_below HB2.out, ?_⟩
  ((refine wpK_pure (fuel := 1) (listed' := #[true, true, true, true, true, true, true, false]) 6 rfl (by kernel_rfl) rfl ?_; (first | go_big_quiet_step (fail) | quiet_step (fail)); refine wpQuiet_nil ?_))
  refine wpK_one (fuel := 0) (listed' := #[true, true, true, true, true, true, true, true]) 7 rfl (by kernel_rfl) rfl ?_
  go_wp2_with fail
  refine ⟨rfl, fun h => absurd h (by decide), ?_⟩
  refine wpK_end rfl ?_
  go_wp2_with fail
  generalize hWE : World.setCell (World.setCell (World.setCell (World.setCell (World.setCell (World.setCell (World.setCell (World.setCell (World.setCell (World.setCell (World.setCell (World.setCell (World.setCell (_) _ _) _ _) _ _) _ _) _ _) _ _) _ _) _ _) _ _) _ _) _ _) _ _) _ _ = WE
  have ho : WE.heap[w.heap.size + 1 + 1]? = some (.cells #[.int .u64 Pp, .int .u64 Dd, .int .u64 Mm, .slice A3 n3 c3, .slice A4 n4 c4, .slice A5 n5 c5, .slice A' n6 c', .slice A7 n7 c7, .slice A8 n8 c8, .slice A9 n9 c9, .slice A10 n10 c10, .slice A11 n11 c11] 33 (0, 0)) := by rw [← hWE]; exact set_blk12 (blk_set_other (b := w.heap.size) (o := 6) (KZ.out) (by omega)) (.int .u64 Pp) (.int .u64 Dd) (.int .u64 Mm) (.slice A3 n3 c3) (.slice A4 n4 c4) (.slice A5 n5 c5) (.slice A' n6 c') (.slice A7 n7 c7) (.slice A8 n8 c8) (.slice A9 n9 c9) (.slice A10 n10 c10) (.slice A11 n11 c11)
  have hbe : Below w.heap.size w WE := by rw [← hWE]; exact (((((((((((((HWB.out).setCell (p := ⟨w.heap.size, 6, none⟩) (Nat.le_refl _) _).setCell (p := ⟨w.heap.size + 1 + 1, 0, none⟩) (by show _ ≤ _ + 1 + 1; omega) _).setCell (p := ⟨w.heap.size + 1 + 1, 1, none⟩) (by show _ ≤ _ + 1 + 1; omega) _).setCell (p := ⟨w.heap.size + 1 + 1, 2, none⟩) (by show _ ≤ _ + 1 + 1; omega) _).setCell (p := ⟨w.heap.size + 1 + 1, 3, none⟩) (by show _ ≤ _ + 1 + 1; omega) _).setCell (p := ⟨w.heap.size + 1 + 1, 4, none⟩) (by show _ ≤ _ + 1 + 1; omega) _).setCell (p := ⟨w.heap.size + 1 + 1, 5, none⟩) (by show _ ≤ _ + 1 + 1; omega) _).setCell (p := ⟨w.heap.size + 1 + 1, 6, none⟩) (by show _ ≤ _ + 1 + 1; omega) _).setCell (p := ⟨w.heap.size + 1 + 1, 7, none⟩) (by show _ ≤ _ + 1 + 1; omega) _).setCell (p := ⟨w.heap.size + 1 + 1, 8, none⟩) (by show _ ≤ _ + 1 + 1; omega) _).setCell (p := ⟨w.heap.size + 1 + 1, 9, none⟩) (by show _ ≤ _ + 1 + 1; omega) _).setCell (p := ⟨w.heap.size + 1 + 1, 10, none⟩) (by show _ ≤ _ + 1 + 1; omega) _).setCell (p := ⟨w.heap.size + 1 + 1, 11, none⟩) (by show _ ≤ _ + 1 + 1; omega) _
  have hmu : Mut (fun b => b = w.heap.size ∨ b = w.heap.size + 1 + 1) w2 WE := by
    rw [← hWE]
    exact Mut.setCell (T := fun b => b = w.heap.size ∨ b = w.heap.size + 1 + 1) (Mut.setCell (T := fun b => b = w.heap.size ∨ b = w.heap.size + 1 + 1) (Mut.setCell (T := fun b => b = w.heap.size ∨ b = w.heap.size + 1 + 1) (Mut.setCell (T := fun b => b = w.heap.size ∨ b = w.heap.size + 1 + 1) (Mut.setCell (T := fun b => b = w.heap.size ∨ b = w.heap.size + 1 + 1) (Mut.setCell (T := fun b => b = w.heap.size ∨ b = w.heap.size + 1 + 1) (Mut.setCell (T := fun b => b = w.heap.size ∨ b = w.heap.size + 1 + 1) (Mut.setCell (T := fun b => b = w.heap.size ∨ b = w.heap.size + 1 + 1) (Mut.setCell (T := fun b => b = w.heap.size ∨ b = w.heap.size + 1 + 1) (Mut.setCell (T := fun b => b = w.heap.size ∨ b = w.heap.size + 1 + 1) (Mut.setCell (T := fun b => b = w.heap.size ∨ b = w.heap.size + 1 + 1) (Mut.setCell (T := fun b => b = w.heap.size ∨ b = w.heap.size + 1 + 1) (Mut.setCell (T := fun b => b = w.heap.size ∨ b = w.heap.size + 1 + 1) (Mut.refl _ _) (p := ⟨w.heap.size, 6, none⟩) (fun _ => .inl rfl) _) (p := ⟨w.heap.size + 1 + 1, 0, none⟩) (fun _ => .inr rfl) _) (p := ⟨w.heap.size + 1 + 1, 1, none⟩) (fun _ => .inr rfl) _) (p := ⟨w.heap.size + 1 + 1, 2, none⟩) (fun _ => .inr rfl) _) (p := ⟨w.heap.size + 1 + 1, 3, none⟩) (fun _ => .inr rfl) _) (p := ⟨w.heap.size + 1 + 1, 4, none⟩) (fun _ => .inr rfl) _) (p := ⟨w.heap.size + 1 + 1, 5, none⟩) (fun _ => .inr rfl) _) (p := ⟨w.heap.size + 1 + 1, 6, none⟩) (fun _ => .inr rfl) _) (p := ⟨w.heap.size + 1 + 1, 7, none⟩) (fun _ => .inr rfl) _) (p := ⟨w.heap.size + 1 + 1, 8, none⟩) (fun _ => .inr rfl) _) (p := ⟨w.heap.size + 1 + 1, 9, none⟩) (fun _ => .inr rfl) _) (p := ⟨w.heap.size + 1 + 1, 10, none⟩) (fun _ => .inr rfl) _) (p := ⟨w.heap.size + 1 + 1, 11, none⟩) (fun _ => .inr rfl) _
  have r0 := cell_of_blk ho 0
  have r1 := cell_of_blk ho 1
  have r2 := cell_of_blk ho 2
  have r3 := cell_of_blk ho 3
  have r4 := cell_of_blk ho 4
  have r5 := cell_of_blk ho 5
  have r6 := cell_of_blk ho 6
  have r7 := cell_of_blk ho 7
  have r8 := cell_of_blk ho 8
  have r9 := cell_of_blk ho 9
  have r10 := cell_of_blk ho 10
  have r11 := cell_of_blk ho 11
  have hov : Row WE (fun b => S b ∨ w.heap.size ≤ b) 6 n6 (.slice A' n6 c') ((changeL (fun x : EJob => x.key == r.key) (fun x => { x with retries := r.n, worker := ⟨#[]⟩, till := 0 }) l).flatMap encJob) := by
    rw [← changeL_of (p := fun x : EJob => x.key == r.key) (f := fun x => { x with retries := r.n, worker := ⟨#[]⟩, till := 0 }) HRel.out]
    have hbs := HB1.out.size
    have hNs := HSZ.out
    exact (HR2.out.mut hmu (fun b _ hb h => by omega)).weaken (fun b _ h => h.elim (fun h => .inl h.1) (fun h => .inr (by omega)))
  refine bodyPost_ret (v := .agg #[.int .u64 Pp, .int .u64 Dd, .int .u64 Mm, .slice A3 n3 c3, .slice A4 n4 c4, .slice A5 n5 c5, .slice A' n6 c', .slice A7 n7 c7, .slice A8 n8 c8, .slice A9 n9 c9, .slice A10 n10 c10, .slice A11 n11 c11]) (by simp [results, Tryz.results57, go_sem, r0, r1, r2, r3, r4, r5, r6, r7, r8, r9, r10, r11]) rfl ⟨A', c', rfl, hov, hbe⟩
end Go.Proofs.YtfjdllpacdobdaaGreat
