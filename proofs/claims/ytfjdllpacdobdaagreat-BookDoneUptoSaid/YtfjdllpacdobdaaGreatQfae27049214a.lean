/-
  Merged from Fe_send, Fu_late, FoV, FoP, FoR, FfJob, FoTk, BoxL, FoBx, OrdM.
-/
import Derived.Test.YtfjdllpacdobdaaGreatQ1f8a2f49337c
import Derived.Test.YtfjdllpacdobdaaGreatQ67e13da56d40
import Derived.Test.YtfjdllpacdobdaaGreatQ5e0e1d795d88
import Derived.Test.YtfjdllpacdobdaaGreatQ454fd6378163
import Derived.Laws.Rows
import Derived.Laws.Tables
import Derived.Laws.StructEq
/-
  fold.sending. Printed by gfold2.py.
-/
set_option linter.unusedVariables false
set_option linter.unusedSimpArgs false
namespace Go.Proofs.YtfjdllpacdobdaaGreat
open Go Go.RowKit Go.Proofs.Base
open Go.Sort (grow)
end Go.Proofs.YtfjdllpacdobdaaGreat
/-
  sending, missed, from a state to a state. Printed by gfold2.py.
-/
set_option linter.unusedVariables false
set_option linter.unusedSimpArgs false
namespace Go.Proofs.YtfjdllpacdobdaaGreat
open Go Go.RowKit Go.Proofs.Base
open Go.Sort (grow)
end Go.Proofs.YtfjdllpacdobdaaGreat
/-
  fold.Apply, whole. Printed by gfold2.py.
-/
set_option linter.unusedVariables false
set_option linter.unusedSimpArgs false
namespace Go.Proofs.YtfjdllpacdobdaaGreat
open Go Go.RowKit Go.Proofs.Base
open Go.Sort (grow)
end Go.Proofs.YtfjdllpacdobdaaGreat
/-
  Plain laws of what fold.Apply does: lengths, keys, rising lists, how many keys were given. Printed by gfold11.py.
-/
set_option linter.unusedVariables false
set_option linter.unusedSimpArgs false
namespace Go.Proofs.Base
open Go Go.RowKit
structure Small (N : Nat) (g : GSt) : Prop where
  procs : g.procs.length ≤ N
  insts : g.insts.length ≤ N
  tokens : g.tokens.length ≤ N
  jobs : g.jobs.length ≤ N
  timers : g.timers.length ≤ N
  subs : g.subs.length ≤ N
  kept : g.kept.length ≤ N
  listed : g.listed.length ≤ N
  msgs : g.msgs.length ≤ N
  ints : ∀ x ∈ g.msgs, x.insts.length ≤ N
theorem Small.up {N : Nat} {g : GSt} (h : Small N g) : Small (N + 1) g := ⟨Nat.le_succ_of_le h.procs, Nat.le_succ_of_le h.insts, Nat.le_succ_of_le h.tokens, Nat.le_succ_of_le h.jobs, Nat.le_succ_of_le h.timers, Nat.le_succ_of_le h.subs, Nat.le_succ_of_le h.kept, Nat.le_succ_of_le h.listed, Nat.le_succ_of_le h.msgs, fun x hx => Nat.le_succ_of_le (h.ints x hx)⟩
def makes (r : GRec) : Prop := r.cls = 2 ∧ (r.kind = 2 ∨ r.kind = 3 ∨ r.kind = 6 ∨ r.kind = 19)
instance (r : GRec) : Decidable (makes r) := by unfold makes; exact inferInstance
theorem Small.fits {N : Nat} {g : GSt} (h : Small N g) (hN : N * 144 ≤ 140737488355328) : g.fits := by
  obtain ⟨h0, h1, h2, h3, h4, h5, h6, h7, h8, _⟩ := h
  unfold GSt.fits
  omega
end Go.Proofs.Base
/-
  The lists of a state keep rising; what an instance had is gone when it has ended. Printed by gfold12.py.
-/
set_option linter.unusedVariables false
set_option linter.unusedSimpArgs false
namespace Go.Proofs.Base
open Go Go.RowKit
def ltP (a i b k : Int) : Prop := a < b ∨ (a = b ∧ i < k)
structure Rises (g : GSt) : Prop where
  insts : g.insts.Pairwise fun a b => a.key < b.key
  tokens : g.tokens.Pairwise fun a b => a.key < b.key
  jobs : g.jobs.Pairwise fun a b => a.key < b.key
  msgs : g.msgs.Pairwise fun a b => a.key < b.key
  timers : g.timers.Pairwise fun a b => ltP a.token a.node b.token b.node
  listed : g.listed.Pairwise fun a b => ltP a.token a.node b.token b.node
end Go.Proofs.Base
/-
  fold.find of Job. Printed by gfold.py.
-/
set_option linter.unusedVariables false
set_option linter.unusedSimpArgs false
namespace Go.Proofs.YtfjdllpacdobdaaGreat
open Go Go.RowKit Go.Proofs.Base
open Go.Sort (grow)
def zeroJob : EJob := ⟨0, 0, ⟨#[]⟩, 0, ⟨#[]⟩, 0⟩
set_option maxRecDepth 100000 in
set_option maxHeartbeats 4000000 in
theorem find_Job (A : Option Addr) (n c g : Nat) (lb : Array Value) (l : List EJob) (p : EJob → Bool) (w : World) (S : Nat → Prop) (eg : ∀ args w, (callFunc g args).run Tryz.prog w = .ok (.enter g args) w)
    (hl : l.length = n) (hr : Row w S 6 n (.slice A n c) (l.flatMap encJob))
    (hp : ∀ W, Below w.heap.size w W → ∀ x ∈ l, Calls Tryz.prog g (#[.agg #[.int .u64 x.key, .int .u64 x.token, .string x.typ, .int .i64 x.retries, .string x.worker, .int .i64 x.till]] ++ lb) W fun e w' => e = .returned (.bool (p x)) ∧ Below W.heap.size W w') :
    Calls Tryz.prog 49 #[.slice A n c, .func (.func g) #[] lb] w fun e w' => ∃ x : EJob, ∃ ok, findP zeroJob p l = (x, ok) ∧ e = .returned (.tuple #[.agg #[.int .u64 x.key, .int .u64 x.token, .string x.typ, .int .i64 x.retries, .string x.worker, .int .i64 x.till], .bool ok]) ∧ Below w.heap.size w w' := by
  have hB : Below w.heap.size w ((w.alloc (.cells #[.int .u64 0, .int .u64 0, .string ⟨#[]⟩, .int .i64 0, .string ⟨#[]⟩, .int .i64 0] 45)).alloc (.cells #[.int .u64 0, .int .u64 0, .string ⟨#[]⟩, .int .i64 0, .string ⟨#[]⟩, .int .i64 0] 45)) := below_alloc (below_alloc (Below.refl _ _) _) _
  obtain ⟨N, hN⟩ : ∃ N, N = (w.alloc (.cells #[.int .u64 0, .int .u64 0, .string ⟨#[]⟩, .int .i64 0, .string ⟨#[]⟩, .int .i64 0] 45)).alloc (.cells #[.int .u64 0, .int .u64 0, .string ⟨#[]⟩, .int .i64 0, .string ⟨#[]⟩, .int .i64 0] 45) := ⟨_, rfl⟩
  rw [← hN] at hB
  have b0 : N.heap[w.heap.size]? = some (.cells #[.int .u64 0, .int .u64 0, .string ⟨#[]⟩, .int .i64 0, .string ⟨#[]⟩, .int .i64 0] 45 (0, 0)) := by rw [hN]; exact blk_alloc (blk_new _) _
  have b1 : N.heap[w.heap.size + 1]? = some (.cells #[.int .u64 0, .int .u64 0, .string ⟨#[]⟩, .int .i64 0, .string ⟨#[]⟩, .int .i64 0] 45 (0, 0)) := by rw [hN]; exact blk_new_of _ (by simp)
  have HIX := Lib.hid (idx_Job A n c g lb l p w N S eg hl (hr.below hB) hB hp)
  have HR := Lib.hid (hr.below hB)
  have HL := Lib.hid hl
  have HN := Lib.hid hN
  have HB := Lib.hid hB
  have HK0 := Lib.hid b0
  have HK1 := Lib.hid b1
  obtain ⟨A0, c0, he0, hnc0, hcm0⟩ := hr.open_
  injection he0 with q1 _ q3
  subst q1 q3
  clear hr hl hp eg b0 b1 hB hN
  rcases idxP_spec p l with ⟨h1, -⟩ | ⟨j, hj, h1, -, -⟩
  · go_enter Tryz.func49, Tryz.ntmps49
    go_wp2_with fail
    rw [show (w.alloc (.cells #[.int .u64 0, .int .u64 0, .string ⟨#[]⟩, .int .i64 0, .string ⟨#[]⟩, .int .i64 0] 45)).alloc (.cells #[.int .u64 0, .int .u64 0, .string ⟨#[]⟩, .int .i64 0, .string ⟨#[]⟩, .int .i64 0] 45) = N from HN.out.symm]
    refine HIX.out.mono ?_
    rintro e w1 ⟨rfl, hb⟩
    rw [h1]
    have k0 := block_below hb HK0.out
    have k1 := block_below hb HK1.out
    have z0 := cell_of_blk k1 0
    have y0 := cell_of_blk k0 0
    have f0 := frozen_of_blk k0 0
    have z1 := cell_of_blk k1 1
    have y1 := cell_of_blk k0 1
    have f1 := frozen_of_blk k0 1
    have z2 := cell_of_blk k1 2
    have y2 := cell_of_blk k0 2
    have f2 := frozen_of_blk k0 2
    have z3 := cell_of_blk k1 3
    have y3 := cell_of_blk k0 3
    have f3 := frozen_of_blk k0 3
    have z4 := cell_of_blk k1 4
    have y4 := cell_of_blk k0 4
    have f4 := frozen_of_blk k0 4
    have z5 := cell_of_blk k1 5
    have y5 := cell_of_blk k0 5
    have f5 := frozen_of_blk k0 5
    have HB1 := Lib.hid (below2 HB.out hb)
    have HK := Lib.hid k0
    clear hb k0 k1
    go_wp2_with fail
    generalize hWE : World.setCell (World.setCell (World.setCell (World.setCell (World.setCell (World.setCell (_) _ _) _ _) _ _) _ _) _ _) _ _ = WE
    have ho : WE.heap[w.heap.size]? = some (.cells #[.int .u64 0, .int .u64 0, .string ⟨#[]⟩, .int .i64 0, .string ⟨#[]⟩, .int .i64 0] 45 (0, 0)) := by rw [← hWE]; exact set_blk (o := 5) (set_blk (o := 4) (set_blk (o := 3) (set_blk (o := 2) (set_blk (o := 1) (set_blk (o := 0) (HK.out) (.int .u64 0)) (.int .u64 0)) (.string ⟨#[]⟩)) (.int .i64 0)) (.string ⟨#[]⟩)) (.int .i64 0)
    have hbe : Below w.heap.size w WE := by rw [← hWE]; exact ((((((HB1.out).setCell (p := ⟨w.heap.size, 0, none⟩) (Nat.le_refl _) _).setCell (p := ⟨w.heap.size, 1, none⟩) (Nat.le_refl _) _).setCell (p := ⟨w.heap.size, 2, none⟩) (Nat.le_refl _) _).setCell (p := ⟨w.heap.size, 3, none⟩) (Nat.le_refl _) _).setCell (p := ⟨w.heap.size, 4, none⟩) (Nat.le_refl _) _).setCell (p := ⟨w.heap.size, 5, none⟩) (Nat.le_refl _) _
    have r0 := cell_of_blk ho 0
    have r1 := cell_of_blk ho 1
    have r2 := cell_of_blk ho 2
    have r3 := cell_of_blk ho 3
    have r4 := cell_of_blk ho 4
    have r5 := cell_of_blk ho 5
    refine bodyPost_ret (v := .tuple #[.agg #[.int .u64 0, .int .u64 0, .string ⟨#[]⟩, .int .i64 0, .string ⟨#[]⟩, .int .i64 0], .bool false]) (by simp [results, Tryz.results49, go_sem, r0, r1, r2, r3, r4, r5]) rfl ⟨zeroJob, false, ?_, rfl, hbe⟩
    unfold findP; rw [h1]; rfl
  · have hjn : j < n := by have := HL.out; omega
    have hj0 : ¬ ((j : Int) < 0) := by omega
    have HF : Hid (findP zeroJob p l = (l[j], true)) := Lib.hid (by unfold findP; rw [h1, if_neg hj0]; simp [List.getD_eq_getElem?_getD, hj])
    have hc0 : ∃ b o, A = some ⟨b, o, none⟩ ∧ b < N.heap.size ∧ ∀ t u, (encJob l[j])[t]? = some u → t < 6 → N.cell? ⟨b, o + j * 6 + t, none⟩ = some u := by
      obtain ⟨b, o, hA, _, hlt, hc⟩ := HR.out.at_ (by omega)
      exact ⟨b, o, hA, hlt, fun t u hu ht => hc j t u ((flat_at (enc := encJob) lenJob hj t ht).trans hu)⟩
    obtain ⟨b, o, rfl, hlt, hc⟩ := hc0
    generalize l[j] = x at *
    have HC := Lib.hid hc
    clear hc hj
    go_enter Tryz.func49, Tryz.ntmps49
    go_wp2_with fail
    rw [show (w.alloc (.cells #[.int .u64 0, .int .u64 0, .string ⟨#[]⟩, .int .i64 0, .string ⟨#[]⟩, .int .i64 0] 45)).alloc (.cells #[.int .u64 0, .int .u64 0, .string ⟨#[]⟩, .int .i64 0, .string ⟨#[]⟩, .int .i64 0] 45) = N from HN.out.symm]
    refine HIX.out.mono ?_
    rintro e w1 ⟨rfl, hb⟩
    rw [h1]
    have k0 := block_below hb HK0.out
    have k1 := block_below hb HK1.out
    have z0 := cell_of_blk k1 0
    have y0 := cell_of_blk k0 0
    have f0 := frozen_of_blk k0 0
    have z1 := cell_of_blk k1 1
    have y1 := cell_of_blk k0 1
    have f1 := frozen_of_blk k0 1
    have z2 := cell_of_blk k1 2
    have y2 := cell_of_blk k0 2
    have f2 := frozen_of_blk k0 2
    have z3 := cell_of_blk k1 3
    have y3 := cell_of_blk k0 3
    have f3 := frozen_of_blk k0 3
    have z4 := cell_of_blk k1 4
    have y4 := cell_of_blk k0 4
    have f4 := frozen_of_blk k0 4
    have z5 := cell_of_blk k1 5
    have y5 := cell_of_blk k0 5
    have f5 := frozen_of_blk k0 5
    have x0 : w1.cell? ⟨b, o + j * 6, none⟩ = some (.int .u64 x.key) := (hb.cell (p := ⟨b, o + j * 6, none⟩) hlt).trans (by simpa using HC.out 0 _ rfl (by decide))
    have x1 : w1.cell? ⟨b, o + j * 6 + 1, none⟩ = some (.int .u64 x.token) := (hb.cell (p := ⟨b, o + j * 6 + 1, none⟩) hlt).trans (by simpa using HC.out 1 _ rfl (by decide))
    have x2 : w1.cell? ⟨b, o + j * 6 + 2, none⟩ = some (.string x.typ) := (hb.cell (p := ⟨b, o + j * 6 + 2, none⟩) hlt).trans (by simpa using HC.out 2 _ rfl (by decide))
    have x3 : w1.cell? ⟨b, o + j * 6 + 3, none⟩ = some (.int .i64 x.retries) := (hb.cell (p := ⟨b, o + j * 6 + 3, none⟩) hlt).trans (by simpa using HC.out 3 _ rfl (by decide))
    have x4 : w1.cell? ⟨b, o + j * 6 + 4, none⟩ = some (.string x.worker) := (hb.cell (p := ⟨b, o + j * 6 + 4, none⟩) hlt).trans (by simpa using HC.out 4 _ rfl (by decide))
    have x5 : w1.cell? ⟨b, o + j * 6 + 5, none⟩ = some (.int .i64 x.till) := (hb.cell (p := ⟨b, o + j * 6 + 5, none⟩) hlt).trans (by simpa using HC.out 5 _ rfl (by decide))
    have HB1 := Lib.hid (below2 HB.out hb)
    have HK := Lib.hid k0
    clear hb k0 k1
    go_wp2_with fail
    generalize hWE : World.setCell (World.setCell (World.setCell (World.setCell (World.setCell (World.setCell (_) _ _) _ _) _ _) _ _) _ _) _ _ = WE
    have ho : WE.heap[w.heap.size]? = some (.cells #[.int .u64 x.key, .int .u64 x.token, .string x.typ, .int .i64 x.retries, .string x.worker, .int .i64 x.till] 45 (0, 0)) := by rw [← hWE]; exact set_blk (o := 5) (set_blk (o := 4) (set_blk (o := 3) (set_blk (o := 2) (set_blk (o := 1) (set_blk (o := 0) (HK.out) (.int .u64 x.key)) (.int .u64 x.token)) (.string x.typ)) (.int .i64 x.retries)) (.string x.worker)) (.int .i64 x.till)
    have hbe : Below w.heap.size w WE := by rw [← hWE]; exact ((((((HB1.out).setCell (p := ⟨w.heap.size, 0, none⟩) (Nat.le_refl _) _).setCell (p := ⟨w.heap.size, 1, none⟩) (Nat.le_refl _) _).setCell (p := ⟨w.heap.size, 2, none⟩) (Nat.le_refl _) _).setCell (p := ⟨w.heap.size, 3, none⟩) (Nat.le_refl _) _).setCell (p := ⟨w.heap.size, 4, none⟩) (Nat.le_refl _) _).setCell (p := ⟨w.heap.size, 5, none⟩) (Nat.le_refl _) _
    have r0 := cell_of_blk ho 0
    have r1 := cell_of_blk ho 1
    have r2 := cell_of_blk ho 2
    have r3 := cell_of_blk ho 3
    have r4 := cell_of_blk ho 4
    have r5 := cell_of_blk ho 5
    refine bodyPost_ret (v := .tuple #[.agg #[.int .u64 x.key, .int .u64 x.token, .string x.typ, .int .i64 x.retries, .string x.worker, .int .i64 x.till], .bool true]) (by simp [results, Tryz.results49, go_sem, r0, r1, r2, r3, r4, r5]) rfl ⟨x, true, HF.out, rfl, hbe⟩
end Go.Proofs.YtfjdllpacdobdaaGreat
/-
  fold.Token, fold.Job. Printed by gfold2.py.
-/
set_option linter.unusedVariables false
set_option linter.unusedSimpArgs false
namespace Go.Proofs.YtfjdllpacdobdaaGreat
open Go Go.RowKit Go.Proofs.Base
open Go.Sort (grow)
set_option maxRecDepth 100000 in
set_option maxHeartbeats 4000000 in
theorem ask_Job (Pp Dd Mm : Int) (A3 : Option Addr) (n3 c3 : Nat) (A4 : Option Addr) (n4 c4 : Nat) (A5 : Option Addr) (n5 c5 : Nat) (A6 : Option Addr) (n6 c6 : Nat) (A7 : Option Addr) (n7 c7 : Nat) (A8 : Option Addr) (n8 c8 : Nat) (A9 : Option Addr) (n9 c9 : Nat) (A10 : Option Addr) (n10 c10 : Nat) (A11 : Option Addr) (n11 c11 : Nat) (q : Int) (l : List EJob) (w : World) (S : Nat → Prop) (hl : l.length = n6) (hr : Row w S 6 n6 (.slice A6 n6 c6) (l.flatMap encJob)) :
    Calls Tryz.prog 45 #[.agg #[.int .u64 Pp, .int .u64 Dd, .int .u64 Mm, .slice A3 n3 c3, .slice A4 n4 c4, .slice A5 n5 c5, .slice A6 n6 c6, .slice A7 n7 c7, .slice A8 n8 c8, .slice A9 n9 c9, .slice A10 n10 c10, .slice A11 n11 c11], .int .u64 q] w fun e w' => ∃ x : EJob, ∃ ok, findP zeroJob (fun x : EJob => x.key == q) l = (x, ok) ∧ e = .returned (.tuple #[.agg #[.int .u64 x.key, .int .u64 x.token, .string x.typ, .int .i64 x.retries, .string x.worker, .int .i64 x.till], .bool ok]) ∧ Below w.heap.size w w' := by
  obtain ⟨N, hN⟩ : ∃ N, N = ((w.alloc (.cells #[.int .u64 Pp, .int .u64 Dd, .int .u64 Mm, .slice A3 n3 c3, .slice A4 n4 c4, .slice A5 n5 c5, .slice A6 n6 c6, .slice A7 n7 c7, .slice A8 n8 c8, .slice A9 n9 c9, .slice A10 n10 c10, .slice A11 n11 c11] 33)).alloc (.cells #[.int .u64 q] 22)).alloc (.cells #[.int .u64 0, .int .u64 0, .string ⟨#[]⟩, .int .i64 0, .string ⟨#[]⟩, .int .i64 0] 45) := ⟨_, rfl⟩
  have b0 : N.heap[w.heap.size]? = some (.cells #[.int .u64 Pp, .int .u64 Dd, .int .u64 Mm, .slice A3 n3 c3, .slice A4 n4 c4, .slice A5 n5 c5, .slice A6 n6 c6, .slice A7 n7 c7, .slice A8 n8 c8, .slice A9 n9 c9, .slice A10 n10 c10, .slice A11 n11 c11] 33 (0, 0)) := by rw [hN]; exact blk_alloc (blk_alloc (blk_new _) _) _
  have b1 : N.heap[w.heap.size + 1]? = some (.cells #[.int .u64 q] 22 (0, 0)) := by rw [hN]; exact blk_alloc (blk_new_of _ (by simp)) _
  have b2 : N.heap[w.heap.size + 1 + 1]? = some (.cells #[.int .u64 0, .int .u64 0, .string ⟨#[]⟩, .int .i64 0, .string ⟨#[]⟩, .int .i64 0] 45 (0, 0)) := by rw [hN]; exact blk_new_of _ (by simp)
  have hB : Below w.heap.size w N := by rw [hN]; exact below_alloc (below_alloc (below_alloc (Below.refl _ _) _) _) _
  have HN := Lib.hid hN
  have HB := Lib.hid hB
  have K0 := Lib.hid b0
  have K2 := Lib.hid b2
  have eg : ∀ args w, (callFunc 50 args).run Tryz.prog w = .ok (.enter 50 args) w := enters_of Tryz.func50 (by kernel_rfl) rfl
  have HF := Lib.hid (find_Job A6 n6 c6 50 #[.pointer (some ⟨w.heap.size + 1, 0, none⟩)] l (fun x : EJob => x.key == q) N S eg hl (hr.below hB) (fun V hV x _ => p_Job_1 _ x q V (cell_of_blk (block_below hV b1) 0)))
  obtain ⟨X0, y0, hx0, hnc0, hcm0⟩ := hr.open_
  injection hx0 with hxa _ hxb
  subst hxa hxb
  clear hN hB b0 b1 b2 hr hl eg
  have k0 := K0.out
  go_enter Tryz.func45, Tryz.ntmps45
  go_wp2_with fail
  rw [show ((w.alloc (.cells #[.int .u64 Pp, .int .u64 Dd, .int .u64 Mm, .slice A3 n3 c3, .slice A4 n4 c4, .slice A5 n5 c5, .slice A6 n6 c6, .slice A7 n7 c7, .slice A8 n8 c8, .slice A9 n9 c9, .slice A10 n10 c10, .slice A11 n11 c11] 33)).alloc (.cells #[.int .u64 q] 22)).alloc (.cells #[.int .u64 0, .int .u64 0, .string ⟨#[]⟩, .int .i64 0, .string ⟨#[]⟩, .int .i64 0] 45) = N from HN.out.symm]
  have s6 := cell_of_blk k0 6
  clear k0
  go_wp2_with fail
  refine HF.out.mono ?_
  rintro e w1 ⟨x, ok, hf, rfl, hb⟩
  have HFD := Lib.hid hf
  have k2 := block_below hb K2.out
  have HB1 := Lib.hid (below2 HB.out hb)
  clear hf hb s6
  have z0 := cell_of_blk k2 0
  have z1 := cell_of_blk k2 1
  have z2 := cell_of_blk k2 2
  have z3 := cell_of_blk k2 3
  have z4 := cell_of_blk k2 4
  have z5 := cell_of_blk k2 5
  have g0 := frozen_of_blk k2 0
  have g1 := frozen_of_blk k2 1
  have g2 := frozen_of_blk k2 2
  have g3 := frozen_of_blk k2 3
  have g4 := frozen_of_blk k2 4
  have g5 := frozen_of_blk k2 5
  have KZ := Lib.hid k2
  clear k2
  go_wp2_with fail
  generalize hWE : World.setCell (World.setCell (World.setCell (World.setCell (World.setCell (World.setCell (_) _ _) _ _) _ _) _ _) _ _) _ _ = WE
  have ho : WE.heap[w.heap.size + 1 + 1]? = some (.cells #[.int .u64 x.key, .int .u64 x.token, .string x.typ, .int .i64 x.retries, .string x.worker, .int .i64 x.till] 45 (0, 0)) := by rw [← hWE]; exact set_blk (o := 5) (set_blk (o := 4) (set_blk (o := 3) (set_blk (o := 2) (set_blk (o := 1) (set_blk (o := 0) (KZ.out) (.int .u64 x.key)) (.int .u64 x.token)) (.string x.typ)) (.int .i64 x.retries)) (.string x.worker)) (.int .i64 x.till)
  have hbe : Below w.heap.size w WE := by rw [← hWE]; exact ((((((HB1.out).setCell (p := ⟨w.heap.size + 1 + 1, 0, none⟩) (by show _ ≤ _ + 1 + 1; omega) _).setCell (p := ⟨w.heap.size + 1 + 1, 1, none⟩) (by show _ ≤ _ + 1 + 1; omega) _).setCell (p := ⟨w.heap.size + 1 + 1, 2, none⟩) (by show _ ≤ _ + 1 + 1; omega) _).setCell (p := ⟨w.heap.size + 1 + 1, 3, none⟩) (by show _ ≤ _ + 1 + 1; omega) _).setCell (p := ⟨w.heap.size + 1 + 1, 4, none⟩) (by show _ ≤ _ + 1 + 1; omega) _).setCell (p := ⟨w.heap.size + 1 + 1, 5, none⟩) (by show _ ≤ _ + 1 + 1; omega) _
  have r0 := cell_of_blk ho 0
  have r1 := cell_of_blk ho 1
  have r2 := cell_of_blk ho 2
  have r3 := cell_of_blk ho 3
  have r4 := cell_of_blk ho 4
  have r5 := cell_of_blk ho 5
  refine bodyPost_ret (v := .tuple #[.agg #[.int .u64 x.key, .int .u64 x.token, .string x.typ, .int .i64 x.retries, .string x.worker, .int .i64 x.till], .bool ok]) (by simp [results, Tryz.results45, go_sem, r0, r1, r2, r3, r4, r5]) rfl ⟨x, ok, HFD.out, rfl, hbe⟩
end Go.Proofs.YtfjdllpacdobdaaGreat
/-
  Whole structs in a box of their own: laws that load and store them in one step, in a plain walk and in a region that draws its order. Nothing of a program.
-/
set_option linter.unusedVariables false
set_option linter.unusedSimpArgs false
namespace Go.Proofs.Base
open Go Go.RowKit
open Go.Sort (grow grow_empty)
def aggB (d : TypeDesc) : Bool := match d with | .struct _ | .array _ _ => true | _ => false
structure BoxT (P : Program) (ty : TypeId) (n : Nat) : Prop where
  agg : (P.underlying ty).any aggB = true
  size : (P.info? ty).map (·.size) = some n
theorem mut_row {w : World} {g : Nat} {cs : Array Value} : Mut (fun b => b = g) w (w.setRow g cs) :=
  ⟨rfl, rfl, rfl, by simp, fun k _ hk => by
    unfold World.setRow
    simp only [Array.getElem?_modify]
    rw [if_neg (fun h => hk h.symm)]⟩
theorem row_blk {w : World} {g : Nat} {cur cs : Array Value} {t : TypeId} {f : Nat × Nat} (h : w.heap[g]? = some (.cells cur t f)) : (w.setRow g cs).heap[g]? = some (.cells cs t f) := by
  unfold World.setRow
  simp [Array.getElem?_modify, h]
theorem below_of_mut {B : Nat} {w0 w V : World} {T : Nat → Prop} (h : Below B w0 w) (hB : B ≤ w.heap.size) (k : Mut T w V) (hT : ∀ b, T b → B ≤ b) : Below B w0 V :=
  ⟨k.os.trans h.os, k.tape.trans h.tape, k.output.trans h.output, Nat.le_trans h.size k.size, fun b hb => (k.block b (Nat.lt_of_lt_of_le hb hB) (fun ht => by have := hT b ht; omega)).trans (h.block b hb)⟩
section
variable {P : Program}
theorem run_load_at {w : World} {g o n : Nat} {ty : TypeId} (hT : BoxT P ty n) (cs : List Value) (hn : cs.length = n) (hc : ∀ j v, cs[j]? = some v → w.cell? ⟨g, o + j, none⟩ = some v) :
    (loadVar ty ⟨g, o, none⟩).run P w = .ok (.agg cs.toArray) w := by
  have hl : (loadCells ⟨g, o, none⟩ cs.length).run P w = .ok cs.toArray w :=
    run_loadCells_list (P := P) w ⟨g, o, none⟩ cs (fun j v hv => by rw [add_plain]; exact hc j v hv)
  obtain ⟨hu, hs⟩ := hT
  cases hq : P.info? ty with
  | none => simp [hq] at hs
  | some i =>
    have hs : i.size = cs.length := by rw [hn]; simpa [hq] using hs
    cases hu' : P.underlying ty with
    | none => rw [hu'] at hu; cases hu
    | some d =>
      rw [hu'] at hu
      have hagg : (isAgg ty).run P w = .ok true w := by
        unfold isAgg
        rw [Sem.run_bind, run_underlying hu' w]
        cases d <;> simp_all [aggB]
      simp [loadVar, Sem.run_bind, hagg, sizeOf, typeInfo, hq, hs, hl]
theorem run_load_box {w : World} {g n : Nat} {ty t : TypeId} {f : Nat × Nat} {cs : Array Value} (hT : BoxT P ty n) (hg : w.heap[g]? = some (.cells cs t f)) (hn : cs.size = n) :
    (loadVar ty ⟨g, 0, none⟩).run P w = .ok (.agg cs) w := by
  have := run_load_at (w := w) (g := g) (o := 0) hT cs.toList (by simpa using hn) (fun j v hv => by rw [Nat.zero_add, cell_of_blk hg j]; simpa using hv)
  simpa using this
theorem wpList_load_agg {ops : Array Oper} {rest : List Oper} {o : Oper} {a : Act} {w : World} {Q : Exit → Act → World → Prop} (ty : TypeId) (x : Operand) {ad : Addr} {v : Value} (hgd : o.guard = none) (ho : o.op = .load ty x)
    (hx : a.eval x = .pointer (some ad)) (hr : (loadVar ty ad).run P w = .ok v w) (h : wpList P ops Q rest (a.put o.dst v) w) : wpList P ops Q (o :: rest) a w :=
  wpList_plain hgd fun _ hK => by
    unfold Oper.wp execOp
    simp only [ho, hx, Instr.loadAt, Instr.sureAddr, Sem.run_bind, Sem.run_pure, Result.andThen_ok, hr]
    exact hK _ _ h
theorem wpList_load_box {ops : Array Oper} {rest : List Oper} {o : Oper} {a : Act} {w : World} {Q : Exit → Act → World → Prop} (ty : TypeId) (x : Operand) {g n : Nat} {t : TypeId} {f : Nat × Nat} {cs : Array Value} (hgd : o.guard = none) (ho : o.op = .load ty x)
    (hx : a.eval x = .pointer (some ⟨g, 0, none⟩)) (hT : BoxT P ty n) (hg : w.heap[g]? = some (.cells cs t f)) (hn : cs.size = n) (h : wpList P ops Q rest (a.put o.dst (.agg cs)) w) : wpList P ops Q (o :: rest) a w :=
  wpList_load_agg ty x hgd ho hx (run_load_box hT hg hn) h
theorem wpList_store_box {ops : Array Oper} {rest : List Oper} {o : Oper} {a : Act} {w : World} {Q : Exit → Act → World → Prop} (ty : TypeId) (x y : Operand) {g n : Nat} {t : TypeId} {old cells : Array Value} (hgd : o.guard = none) (ho : o.op = .store ty x y)
    (hx : a.eval x = .pointer (some ⟨g, 0, none⟩)) (hy : a.eval y = .agg cells) (hT : BoxT P ty n) (hg : w.heap[g]? = some (.cells old t (0, 0))) (hold : old.size = n) (hn : cells.size = n) (h1 : cells.all (·.oneCell') = true)
    (h : ∀ V : World, V.heap[g]? = some (.cells cells t (0, 0)) → Mut (fun b => b = g) w V → wpList P ops Q rest (a.put o.dst undef) V) : wpList P ops Q (o :: rest) a w :=
  wpList_store_row hgd ty x y ho g cells hx hy t old hg (by rw [hn]; exact hT.size) (by rw [hold, hn]) h1 (h _ (row_blk hg) mut_row)
theorem wpQuiet_load {ops : Array Oper} {C : World → Prop} {Q : Act → Prop} {o : Oper} {rest : List Oper} {a : Act} (ty : TypeId) (x : Operand) {ad : Addr} {v : Value} (hgd : o.guard = none) (ho : o.op = .load ty x) (hx : a.eval x = .pointer (some ad))
    (hr : ∀ w, C w → (loadVar ty ad).run P w = .ok v w) (h : wpQuiet P ops C Q rest (a.put o.dst v)) : wpQuiet P ops C Q (o :: rest) a := by
  unfold wpQuiet
  have hw : Region.wanted o (yielded ops a.tmps) = true := by unfold Region.wanted; rw [hgd]
  rw [if_pos hw]
  refine ⟨v, fun w hC => ?_, h⟩
  unfold Oper.quietAt execOp
  simp only [ho, hx, Instr.loadAt, Instr.sureAddr, Sem.run_bind, Sem.run_pure, Result.andThen_ok, hr w hC]
  exact ⟨rfl, rfl⟩
end
end Go.Proofs.Base
/-
  A state's box, stored and loaded whole; Apply on short lists.
-/
set_option linter.unusedVariables false
set_option linter.unusedSimpArgs false
namespace Go.Proofs.Base
open Go Go.RowKit
theorem VarsR.below {w w' : World} {S S' : Nat → Prop} {A : Option Addr} {n c : Nat} {l : List GVar} (h : VarsR w S A n c l) (hb : Below w.heap.size w w') (hS : ∀ b, b < w.heap.size → S b → S' b) : VarsR w' S' A n c l :=
  h.mut (T := fun _ => False) (Mut.of_below hb _) (fun _ _ _ h => h) hS
theorem IntsR.below {w w' : World} {S S' : Nat → Prop} {A : Option Addr} {n c : Nat} {l : List Int} (h : IntsR w S A n c l) (hb : Below w.heap.size w w') (hS : ∀ b, b < w.heap.size → S b → S' b) : IntsR w' S' A n c l :=
  h.mut (T := fun _ => False) (Mut.of_below hb _) (fun _ _ _ h => h) hS
theorem ListR.elem {α : Type} {w : World} {S : Nat → Prop} {K : Nat} {enc : α → List Value} {A : Option Addr} {n c : Nat} {l : List α} (h : ListR w S K enc A n c l) (hlen : ∀ x, (enc x).length = K) (h0 : 0 < n) :
    ∃ B O, A = some ⟨B, O, none⟩ ∧ S B ∧ ∀ (k : Nat) (hk : k < l.length), ∀ j u, (enc l[k])[j]? = some u → w.cell? ⟨B, O + k * K + j, none⟩ = some u := by
  obtain ⟨B, O, hA, hS, _, hc⟩ := h.2.at_ h0
  refine ⟨B, O, hA, hS, fun k hk j u hu => hc k j u ?_⟩
  have hj : j < K := by have := (List.getElem?_eq_some_iff.1 hu).1; rwa [hlen] at this
  rw [flat_at (enc := enc) hlen hk j hj]
  exact hu
end Go.Proofs.Base
namespace Go.Proofs.YtfjdllpacdobdaaGreat
open Go Go.RowKit Go.Proofs.Base
open Go.Sort (grow)
structure BoxSt (b : Nat) (W : World) (v : StV) (g : GSt) : Prop where
  box : W.heap[b]? = some (.cells v.vals 33 (0, 0))
  st : StR W (fun x => x ≠ b) v g
theorem bSt : BoxT Tryz.prog 33 12 := ⟨by kernel_rfl, by kernel_rfl⟩
theorem bRec : BoxT Tryz.prog 71 13 := ⟨by kernel_rfl, by kernel_rfl⟩
theorem vals_one (v : StV) : v.vals.all (·.oneCell') = true := by simp [StV.vals, Value.oneCell']
theorem BoxSt.lt {b : Nat} {W : World} {v : StV} {g : GSt} (h : BoxSt b W v g) : b < W.heap.size := lt_of_blk h.box
theorem BoxSt.below {b : Nat} {W W' : World} {v : StV} {g : GSt} (h : BoxSt b W v g) (hb : Below W.heap.size W W') : BoxSt b W' v g := ⟨block_below hb h.box, h.st.below hb (fun _ _ h => h)⟩
theorem BoxSt.put {b : Nat} {W w' V : World} {u v : StV} {g0 g : GSt} (h : BoxSt b W u g0) (hs : StR w' (fun x => x ≠ b ∨ W.heap.size ≤ x) v g) (hV : V.heap[b]? = some (.cells v.vals 33 (0, 0))) (hM : Mut (fun x => x = b) w' V) : BoxSt b V v g :=
  ⟨hV, hs.mut hM (fun x _ hx e => by have := h.lt; omega) (fun x _ hx => by have := h.lt; omega)⟩
theorem BoxSt.alloc {b : Nat} {W : World} {v : StV} {g : GSt} (h : BoxSt b W v g) (o : Obj) : BoxSt b (W.alloc o) v g := h.below (below_alloc (Below.refl _ _) o)
theorem ask_JobV (v : StV) (q : Int) (l : List EJob) (w : World) (S : Nat → Prop) (h : ListR w S 6 encJob v.A6 v.n6 v.c6 l) :
    Calls Tryz.prog 45 #[.agg v.vals, .int .u64 q] w fun e w' => ∃ x : EJob, ∃ ok, findP zeroJob (fun x : EJob => x.key == q) l = (x, ok) ∧ e = .returned (.tuple #[.agg #[.int .u64 x.key, .int .u64 x.token, .string x.typ, .int .i64 x.retries, .string x.worker, .int .i64 x.till], .bool ok]) ∧ Below w.heap.size w w' :=
  ask_Job _ _ _ _ _ _ _ _ _ _ _ _ _ _ _ _ _ _ _ _ _ _ _ _ _ _ _ _ _ _ q l w S h.1 h.2
end Go.Proofs.YtfjdllpacdobdaaGreat
/-
  A region that draws its order, walked in an order of one's own, over several classes of worlds at once: each read says of which class it is. (Ord with an index.) Nothing of a program.
-/
set_option linter.unusedVariables false
set_option linter.unusedSimpArgs false
namespace Go.Proofs.Base
open Go Go.RowKit
open Go.Sort (grow grow_empty)
section
variable {P : Program} {ops : Array Oper} {md : Region.Mode} {ι : Type} {C : ι → World → Prop} {fr : ι → List Nat} {Q : Act → World → Prop}
def wpAnyM (P : Program) (md : Region.Mode) (ops : Array Oper) {ι : Type} (fr : ι → List Nat) (C : ι → World → Prop) (Q : Act → World → Prop) : Nat → Array Bool → Act → World → Prop
  | 0, listed, a, w => Region.ready md ops listed = [] ∧ Q a w
  | fuel + 1, listed, a, w => (Region.ready md ops listed = [] → Q a w) ∧ ∀ i ∈ Region.ready md ops listed, wpOp P ops (onlyK Q) i (fun a' w' => (∀ t, (fr t).contains i = false → C t w → C t w') ∧ wpAnyM P md ops fr C Q fuel (listed.setIfInBounds i true) a' w') a w
theorem wpAny_of_M : ∀ (fuel : Nat) (listed : Array Bool) (a : Act) (w : World), wpAnyM P md ops fr C Q fuel listed a w → wpAny P md ops (onlyK Q) fuel listed a w
  | 0, _, _, _, h => ⟨h.1, rfl, h.2⟩
  | fuel + 1, _, _, _, h => ⟨fun h0 => ⟨rfl, h.1 h0⟩, fun i hi => wpOp_mono (fun a w hk => wpAny_of_M fuel _ a w hk.2) (h.2 i hi)⟩
theorem wpAnyM_first (t : ι) {i : Nat} {oi : Oper} {v : Value} (hi : ops[i]? = some oi) (hsel : ∀ (j : Nat) (o : Oper) cs b, ops[j]? = some o → o.op ≠ .select cs b) :
    (∀ j oj, ops[j]? = some oj → (fr t).contains j = true → ∃ e ∈ oj.after, Region.binds md e = true ∧ e.on = i) → ∀ (fuel : Nat) (listed : Array Bool) (a : Act) (w : World), C t w →
      (∀ j oj, ops[j]? = some oj → j ≠ i → listed.getD j true = false → (∀ e ∈ oj.after, Region.binds md e = true → e.on ≠ i) → oi.apart ops oj = true) →
      i ∈ Region.ready md ops listed → YieldsK P ops (C t) oi v a →
      wpAnyM P md ops fr C Q fuel (listed.setIfInBounds i true) (a.put oi.dst v) w → wpAnyM P md ops fr C Q (fuel + 1) listed a w := by
  intro hfr fuel
  induction fuel with
  | zero =>
    intro listed a w hw _ hr hy H
    refine ⟨fun h => (by rw [h] at hr; cases hr), fun j hj => ?_⟩
    by_cases hji : j = i
    · subst hji; exact hy.wpOp hi hw ⟨fun _ _ h => h, H⟩
    · have := ready_mono hj hji
      rw [H.1] at this
      cases this
  | succ fuel ih =>
    intro listed a w hw hfree hr hy H
    refine ⟨fun h => (by rw [h] at hr; cases hr), fun j hj => ?_⟩
    by_cases hji : j = i
    · subst hji; exact hy.wpOp hi hw ⟨fun _ _ h => h, H⟩
    · have h1 := H.2 j (ready_mono hj hji)
      obtain ⟨hjun, oj, hoj, hall⟩ := mem_ready.1 hj
      have hnot : ∀ e ∈ oj.after, Region.binds md e = true → e.on ≠ i := fun e he hb heq => by
        have h1 := hall e he hb
        have h0 := (mem_ready.1 hr).1
        rw [heq] at h1
        rcases Nat.lt_or_ge i listed.size with h' | h'
        · simp [h'] at h0 h1; rw [h0] at h1; cases h1
        · simp [Array.getElem?_eq_none h'] at h1
      have h2 := wpOpK_put hoj (hfree j oj hoj hji hjun hnot) (fun cs b => hsel i oi cs b hi) (fun cs b => hsel j oj cs b hoj) hy h1
      have hfree' : ∀ k ok, ops[k]? = some ok → k ≠ i → (listed.setIfInBounds j true).getD k true = false →
          (∀ e ∈ ok.after, Region.binds md e = true → e.on ≠ i) → oi.apart ops ok = true := fun k ok hk hki hun hno => by
        refine hfree k ok hk hki ?_ hno
        by_cases hjk : j = k
        · subst hjk; exact hjun
        · rw [getD_set_ne true hjk] at hun; exact hun
      have hnf : (fr t).contains j = false := by
        cases hfj : (fr t).contains j with
        | false => rfl
        | true =>
          obtain ⟨e, he, hb, hon⟩ := hfr j oj hoj hfj
          exact absurd hon (hnot e he hb)
      refine wpOp_mono (fun a' w' h3 => ⟨h3.2.1, ih (listed.setIfInBounds j true) a' w' (h3.2.1 t hnf hw) hfree' (ready_mono hr (Ne.symm hji)) h3.1 ?_⟩) h2
      rw [Array.setIfInBounds_comm _ _ hji]
      exact h3.2.2
theorem wpAnyM_firstT {i : Nat} {oi : Oper} {v : Value} (hi : ops[i]? = some oi) (hsel : ∀ (j : Nat) (o : Oper) cs b, ops[j]? = some o → o.op ≠ .select cs b) :
    ∀ (fuel : Nat) (listed : Array Bool) (a : Act) (w : World),
      (∀ j oj, ops[j]? = some oj → j ≠ i → listed.getD j true = false → (∀ e ∈ oj.after, Region.binds md e = true → e.on ≠ i) → oi.apart ops oj = true) →
      i ∈ Region.ready md ops listed → YieldsK P ops (fun _ => True) oi v a →
      wpAnyM P md ops fr C Q fuel (listed.setIfInBounds i true) (a.put oi.dst v) w → wpAnyM P md ops fr C Q (fuel + 1) listed a w := by
  intro fuel
  induction fuel with
  | zero =>
    intro listed a w _ hr hy H
    refine ⟨fun h => (by rw [h] at hr; cases hr), fun j hj => ?_⟩
    by_cases hji : j = i
    · subst hji; exact hy.wpOp hi trivial ⟨fun _ _ h => h, H⟩
    · have := ready_mono hj hji
      rw [H.1] at this
      cases this
  | succ fuel ih =>
    intro listed a w hfree hr hy H
    refine ⟨fun h => (by rw [h] at hr; cases hr), fun j hj => ?_⟩
    by_cases hji : j = i
    · subst hji; exact hy.wpOp hi trivial ⟨fun _ _ h => h, H⟩
    · have h1 := H.2 j (ready_mono hj hji)
      obtain ⟨hjun, oj, hoj, hall⟩ := mem_ready.1 hj
      have hnot : ∀ e ∈ oj.after, Region.binds md e = true → e.on ≠ i := fun e he hb heq => by
        have h1 := hall e he hb
        have h0 := (mem_ready.1 hr).1
        rw [heq] at h1
        rcases Nat.lt_or_ge i listed.size with h' | h'
        · simp [h'] at h0 h1; rw [h0] at h1; cases h1
        · simp [Array.getElem?_eq_none h'] at h1
      have h2 := wpOpK_put hoj (hfree j oj hoj hji hjun hnot) (fun cs b => hsel i oi cs b hi) (fun cs b => hsel j oj cs b hoj) hy h1
      have hfree' : ∀ k ok, ops[k]? = some ok → k ≠ i → (listed.setIfInBounds j true).getD k true = false →
          (∀ e ∈ ok.after, Region.binds md e = true → e.on ≠ i) → oi.apart ops ok = true := fun k ok hk hki hun hno => by
        refine hfree k ok hk hki ?_ hno
        by_cases hjk : j = k
        · subst hjk; exact hjun
        · rw [getD_set_ne true hjk] at hun; exact hun
      refine wpOp_mono (fun a' w' h3 => ⟨h3.2.1, ih (listed.setIfInBounds j true) a' w' hfree' (ready_mono hr (Ne.symm hji)) h3.1 ?_⟩) h2
      rw [Array.setIfInBounds_comm _ _ hji]
      exact h3.2.2
theorem wpM_reads_aux (t : ι) (hs : Region.noSelect ops = true) : ∀ (is : List Nat) (l : List Oper) (fuel : Nat) (listed : Array Bool) (a : Act) (w : World), C t w → l = is.filterMap (fun i => ops[i]?) → ordB md ops (fr t) is listed = true →
    wpQuiet P ops (C t) (fun a' => wpAnyM P md ops fr C Q fuel (setL listed is) a' w) l a → wpAnyM P md ops fr C Q (fuel + is.length) listed a w
  | [], l, fuel, listed, a, w, hw, hl, hB, h => by subst hl; exact h
  | i :: is, l, fuel, listed, a, w, hw, hl, hB, h => by
    simp only [ordB, Bool.and_eq_true] at hB
    obtain ⟨⟨⟨⟨hr, hf⟩, ho⟩, hfr⟩, hB'⟩ := hB
    cases h0 : ops[i]? with
    | none => rw [h0] at ho; simp at ho
    | some o =>
      rw [h0] at ho
      have hro : readB o = true := by simpa using ho
      rw [List.filterMap_cons, h0] at hl
      subst hl
      have hst : qOp P ops (C t) i (wpQuiet P ops (C t) (fun a' => wpAnyM P md ops fr C Q fuel (setL listed (i :: is)) a' w) (is.filterMap fun i => ops[i]?)) a := by unfold qOp; simp only [h0]; exact h
      obtain ⟨v, hy, hK⟩ := yieldsIn_of_qOp h0 hst
      refine wpAnyM_first t h0 (Region.noSelect_spec hs) (frB_spec hfr) (fuel + is.length) listed a w hw (Region.free_spec h0 hf) (by simpa using hr) (YieldsK.of_in hro hy) ?_
      exact wpM_reads_aux t hs is _ fuel _ _ w hw rfl hB' hK
theorem wpM_read (t : ι) {o : Oper} {listed listed' : Array Bool} {fuel : Nat} {a : Act} {w : World} (i : Nat) (hw : C t w) (hi : ops[i]? = some o) (hB : (Region.noSelect ops && ordB md ops (fr t) [i] listed) = true) (hL : listed.setIfInBounds i true = listed')
    (h : wpQuiet P ops (C t) (fun a' => wpAnyM P md ops fr C Q fuel listed' a' w) [o] a) : wpAnyM P md ops fr C Q (fuel + 1) listed a w := by
  subst hL
  simp only [Bool.and_eq_true] at hB
  exact wpM_reads_aux t hB.1 [i] _ fuel listed a w hw (by simp [hi]) hB.2 h
theorem wpM_pure {o : Oper} {listed listed' : Array Bool} {fuel : Nat} {a : Act} {w : World} (i : Nat) (hi : ops[i]? = some o) (hB : (Region.noSelect ops && ((Region.ready md ops listed).contains i && Region.free md ops listed i && readB o)) = true) (hL : listed.setIfInBounds i true = listed')
    (h : wpQuiet P ops (fun _ => True) (fun a' => wpAnyM P md ops fr C Q fuel listed' a' w) [o] a) : wpAnyM P md ops fr C Q (fuel + 1) listed a w := by
  subst hL
  simp only [Bool.and_eq_true] at hB
  obtain ⟨hs, ⟨hr, hf⟩, hro⟩ := hB
  have hst : qOp P ops (fun _ => True) i (fun a' => wpAnyM P md ops fr C Q fuel (listed.setIfInBounds i true) a' w) a := by unfold qOp; simp only [hi]; exact h
  obtain ⟨v, hy, hK⟩ := yieldsIn_of_qOp hi hst
  exact wpAnyM_firstT hi (Region.noSelect_spec hs) fuel listed a w (Region.free_spec hi hf) (by simpa using hr) (YieldsK.of_in hro hy) hK
theorem wpM_one {o : Oper} {listed listed' : Array Bool} {fuel : Nat} {a : Act} {w : World} (i : Nat) (hi : ops[i]? = some o) (hr : Region.ready md ops listed = [i]) (hL : listed.setIfInBounds i true = listed')
    (h : wpList P ops (onlyK fun a' w' => (∀ t, (fr t).contains i = false → C t w → C t w') ∧ wpAnyM P md ops fr C Q fuel listed' a' w') [o] a w) : wpAnyM P md ops fr C Q (fuel + 1) listed a w := by
  subst hL
  refine ⟨fun h0 => (by rw [h0] at hr; cases hr), fun j hj => ?_⟩
  rw [hr] at hj
  obtain rfl : j = i := by simpa using hj
  unfold wpOp
  simp only [hi]
  unfold wpList at h
  split
  · rename_i hw
    rw [if_pos hw] at h
    rcases h with h | ⟨_, h⟩
    · exact .inl (wp_only (fun a w h => h.2) h)
    · exact absurd h onlyK_letsOut
  · rename_i hw
    rw [if_neg hw] at h
    exact h.2
theorem wpM_end {listed : Array Bool} {fuel : Nat} {a : Act} {w : World} (hr : Region.ready md ops listed = []) (h : Q a w) : wpAnyM P md ops fr C Q fuel listed a w := by
  cases fuel with
  | zero => exact ⟨hr, h⟩
  | succ fuel => exact ⟨fun _ => h, fun i hi => (by rw [hr] at hi; cases hi)⟩
theorem wp_region_ordM {ι : Type} (C : ι → World → Prop) (fr : ι → List Nat) {id : Nat} {Q : Exit → Act → World → Prop} {a : Act} {w : World} {l : List Oper} {listed : Array Bool} {n : Nat} (hm : P.follows .mixedOrders = true) (hn : l.length = n) (hL : Array.replicate l.length false = listed)
    (h : wpAnyM P .any l.toArray fr C (fun a w => Q .normal a w) n listed a (redrawn w (w.drawn + 1))) : (Code.region id l.toArray true).wp P Q a w := by
  subst hn hL
  refine Code.wp_mono (Q := onlyK fun a w => Q .normal a w) (fun e a w he => by obtain ⟨rfl, he⟩ := he; exact he) ?_
  refine wp_region_any hm ?_
  have := wpAny_of_M _ _ _ _ h
  have e : l.toArray.size = l.length := by simp
  rw [e]
  exact this
theorem run_load_cell {w : World} {a : Addr} {v : Value} {ty : TypeId} {d : TypeDesc} (hu : P.underlying ty = some d) (hn : aggB d = false) (hc : w.cell? a = some v) : (loadVar ty a).run P w = .ok v w := by
  have hagg : (isAgg ty).run P w = .ok false w := by
    unfold isAgg
    rw [Sem.run_bind, run_underlying hu w]
    cases d <;> simp_all [aggB]
  simp [loadVar, Sem.run_bind, hagg, go_sem, hc]
end
end Go.Proofs.Base
