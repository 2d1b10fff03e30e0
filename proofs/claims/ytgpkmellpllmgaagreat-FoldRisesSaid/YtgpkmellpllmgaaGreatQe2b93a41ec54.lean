/-
  Merged from Fu_more, FoU, Fm2, Fe_miss.
-/
import Derived.Test.YtgpkmellpllmgaaGreatQ138b23659f84
import Derived.Test.YtgpkmellpllmgaaGreatQ496770eccc6a
import Derived.Test.YtgpkmellpllmgaaGreatQ7b67ab243e98
import Derived.Test.YtgpkmellpllmgaaGreatQ39ed21976fe9
/-
  The events that change and take away, from a state to a state. Printed by gfold2.py.
-/
set_option linter.unusedVariables false
set_option linter.unusedSimpArgs false
namespace Go.Proofs.YtgpkmellpllmgaaGreat
open Go Go.RowKit Go.Proofs.Base
open Go.Sort (grow)
theorem changeL_none {α : Type} {p : α → Bool} {f : α → α} {l : List α} (h : idxP p l = -1) : changeL p f l = l := by unfold changeL; rw [h, if_pos (by decide)]
theorem changeL_some {α : Type} {p : α → Bool} {f : α → α} {l : List α} {i : Nat} (hi : i < l.length) (h : idxP p l = (i : Int)) : changeL p f l = l.set i (f l[i]) :=
  (changeL_of (.inr ⟨i, hi, _, h, rfl, rfl⟩)).symm
set_option maxRecDepth 100000 in
set_option maxHeartbeats 4000000 in
theorem u_taken (W : World) (S : Nat → Prop) (v : StV) (g : GSt) (r : GRec) (vA : Option Addr) (vN vC : Nat) (hst : StR W S v g) (hv : VarsR W S vA vN vC r.vars) (hfit : g.fits) :
    Calls Tryz.prog 59 #[.agg v.vals, .agg #[.int .i64 r.cls, .int .i64 r.kind, .int .u64 r.frm, .int .i64 r.time, .int .u64 r.key, .int .u64 r.key2, .int .u64 r.key3, .int .i64 r.n, .int .i64 r.m, .string r.a, .string r.b, .string r.c, .slice vA vN vC]] W fun e w' => ∃ v' g', e = .returned (.agg v'.vals) ∧ StR w' (fun b => S b ∨ W.heap.size ≤ b) v' g' ∧ g'.pure = { g.pure with jobs := changeL (fun x => x.key == r.key) (fun x => { x with worker := r.a, till := r.n }) g.pure.jobs } ∧ Below W.heap.size W w' := by
  obtain ⟨_, _, hve, hvc, hvm⟩ := hv.2.2.open_
  injection hve with _ _ hve
  subst hve
  refine (ev_taken v.Pp v.Dd v.Mm v.A3 v.n3 v.c3 v.A4 v.n4 v.c4 v.A5 v.n5 v.c5 v.A6 v.n6 v.c6 v.A7 v.n7 v.c7 v.A8 v.n8 v.c8 v.A9 v.n9 v.c9 v.A10 v.n10 v.c10 v.A11 v.n11 v.c11 r vA vN vC g.jobs W S hst.jobs.1 (by rw [← hst.jobs.1]; exact hfit.2.2.2.1) hst.jobs.2 hvc hvm).mono ?_
  rintro e w' ⟨A', c', rfl, hrow, hb⟩
  refine ⟨{ v with A6 := A', c6 := c' }, { g with jobs := changeL (fun x => x.key == r.key) (fun x => { x with worker := r.a, till := r.n }) g.jobs }, rfl, ?_, rfl, hb⟩
  exact { (hst.below (S' := fun b => S b ∨ W.heap.size ≤ b) hb (fun b _ h => .inl h)) with jobs := ⟨(by rw [changeL_len]; exact hst.jobs.1), hrow⟩ }
set_option maxRecDepth 100000 in
set_option maxHeartbeats 4000000 in
theorem u_back (W : World) (S : Nat → Prop) (v : StV) (g : GSt) (r : GRec) (vA : Option Addr) (vN vC : Nat) (hst : StR W S v g) (hv : VarsR W S vA vN vC r.vars) (hfit : g.fits) :
    Calls Tryz.prog 60 #[.agg v.vals, .agg #[.int .i64 r.cls, .int .i64 r.kind, .int .u64 r.frm, .int .i64 r.time, .int .u64 r.key, .int .u64 r.key2, .int .u64 r.key3, .int .i64 r.n, .int .i64 r.m, .string r.a, .string r.b, .string r.c, .slice vA vN vC]] W fun e w' => ∃ v' g', e = .returned (.agg v'.vals) ∧ StR w' (fun b => S b ∨ W.heap.size ≤ b) v' g' ∧ g'.pure = { g.pure with jobs := changeL (fun x => x.key == r.key) (fun x => { x with retries := r.n, worker := ⟨#[]⟩, till := 0 }) g.pure.jobs } ∧ Below W.heap.size W w' := by
  obtain ⟨_, _, hve, hvc, hvm⟩ := hv.2.2.open_
  injection hve with _ _ hve
  subst hve
  refine (ev_back v.Pp v.Dd v.Mm v.A3 v.n3 v.c3 v.A4 v.n4 v.c4 v.A5 v.n5 v.c5 v.A6 v.n6 v.c6 v.A7 v.n7 v.c7 v.A8 v.n8 v.c8 v.A9 v.n9 v.c9 v.A10 v.n10 v.c10 v.A11 v.n11 v.c11 r vA vN vC g.jobs W S hst.jobs.1 (by rw [← hst.jobs.1]; exact hfit.2.2.2.1) hst.jobs.2 hvc hvm).mono ?_
  rintro e w' ⟨A', c', rfl, hrow, hb⟩
  refine ⟨{ v with A6 := A', c6 := c' }, { g with jobs := changeL (fun x => x.key == r.key) (fun x => { x with retries := r.n, worker := ⟨#[]⟩, till := 0 }) g.jobs }, rfl, ?_, rfl, hb⟩
  exact { (hst.below (S' := fun b => S b ∨ W.heap.size ≤ b) hb (fun b _ h => .inl h)) with jobs := ⟨(by rw [changeL_len]; exact hst.jobs.1), hrow⟩ }
set_option maxRecDepth 100000 in
set_option maxHeartbeats 4000000 in
theorem u_stuck (W : World) (S : Nat → Prop) (v : StV) (g : GSt) (r : GRec) (vA : Option Addr) (vN vC : Nat) (hst : StR W S v g) (hv : VarsR W S vA vN vC r.vars) (hfit : g.fits) :
    Calls Tryz.prog 65 #[.agg v.vals, .agg #[.int .i64 r.cls, .int .i64 r.kind, .int .u64 r.frm, .int .i64 r.time, .int .u64 r.key, .int .u64 r.key2, .int .u64 r.key3, .int .i64 r.n, .int .i64 r.m, .string r.a, .string r.b, .string r.c, .slice vA vN vC]] W fun e w' => ∃ v' g', e = .returned (.agg v'.vals) ∧ StR w' (fun b => S b ∨ W.heap.size ≤ b) v' g' ∧ g'.pure = { g.pure with tokens := changeL (fun x => x.key == r.key) (fun x => { x with stuck := r.a }) g.pure.tokens } ∧ Below W.heap.size W w' := by
  obtain ⟨_, _, hve, hvc, hvm⟩ := hv.2.2.open_
  injection hve with _ _ hve
  subst hve
  refine (ev_stuck v.Pp v.Dd v.Mm v.A3 v.n3 v.c3 v.A4 v.n4 v.c4 v.A5 v.n5 v.c5 v.A6 v.n6 v.c6 v.A7 v.n7 v.c7 v.A8 v.n8 v.c8 v.A9 v.n9 v.c9 v.A10 v.n10 v.c10 v.A11 v.n11 v.c11 r vA vN vC g.tokens W S hst.tokens.1 (by rw [← hst.tokens.1]; exact hfit.2.2.1) hst.tokens.2).mono ?_
  rintro e w' ⟨A', c', rfl, hrow, hb⟩
  refine ⟨{ v with A5 := A', c5 := c' }, { g with tokens := changeL (fun x => x.key == r.key) (fun x => { x with stuck := r.a }) g.tokens }, rfl, ?_, rfl, hb⟩
  exact { (hst.below (S' := fun b => S b ∨ W.heap.size ≤ b) hb (fun b _ h => .inl h)) with tokens := ⟨(by rw [changeL_len]; exact hst.tokens.1), hrow⟩ }
set_option maxRecDepth 100000 in
set_option maxHeartbeats 4000000 in
theorem u_freed (W : World) (S : Nat → Prop) (v : StV) (g : GSt) (r : GRec) (vA : Option Addr) (vN vC : Nat) (hst : StR W S v g) (hv : VarsR W S vA vN vC r.vars) (hfit : g.fits) :
    Calls Tryz.prog 66 #[.agg v.vals, .agg #[.int .i64 r.cls, .int .i64 r.kind, .int .u64 r.frm, .int .i64 r.time, .int .u64 r.key, .int .u64 r.key2, .int .u64 r.key3, .int .i64 r.n, .int .i64 r.m, .string r.a, .string r.b, .string r.c, .slice vA vN vC]] W fun e w' => ∃ v' g', e = .returned (.agg v'.vals) ∧ StR w' (fun b => S b ∨ W.heap.size ≤ b) v' g' ∧ g'.pure = { g.pure with tokens := changeL (fun x => x.key == r.key) (fun x => { x with stuck := ⟨#[]⟩ }) g.pure.tokens } ∧ Below W.heap.size W w' := by
  obtain ⟨_, _, hve, hvc, hvm⟩ := hv.2.2.open_
  injection hve with _ _ hve
  subst hve
  refine (ev_freed v.Pp v.Dd v.Mm v.A3 v.n3 v.c3 v.A4 v.n4 v.c4 v.A5 v.n5 v.c5 v.A6 v.n6 v.c6 v.A7 v.n7 v.c7 v.A8 v.n8 v.c8 v.A9 v.n9 v.c9 v.A10 v.n10 v.c10 v.A11 v.n11 v.c11 r vA vN vC g.tokens W S hst.tokens.1 (by rw [← hst.tokens.1]; exact hfit.2.2.1) hst.tokens.2).mono ?_
  rintro e w' ⟨A', c', rfl, hrow, hb⟩
  refine ⟨{ v with A5 := A', c5 := c' }, { g with tokens := changeL (fun x => x.key == r.key) (fun x => { x with stuck := ⟨#[]⟩ }) g.tokens }, rfl, ?_, rfl, hb⟩
  exact { (hst.below (S' := fun b => S b ∨ W.heap.size ≤ b) hb (fun b _ h => .inl h)) with tokens := ⟨(by rw [changeL_len]; exact hst.tokens.1), hrow⟩ }
set_option maxRecDepth 100000 in
set_option maxHeartbeats 4000000 in
theorem u_opened (W : World) (S : Nat → Prop) (v : StV) (g : GSt) (r : GRec) (vA : Option Addr) (vN vC : Nat) (hst : StR W S v g) (hv : VarsR W S vA vN vC r.vars) (hfit : g.fits) :
    Calls Tryz.prog 64 #[.agg v.vals, .agg #[.int .i64 r.cls, .int .i64 r.kind, .int .u64 r.frm, .int .i64 r.time, .int .u64 r.key, .int .u64 r.key2, .int .u64 r.key3, .int .i64 r.n, .int .i64 r.m, .string r.a, .string r.b, .string r.c, .slice vA vN vC]] W fun e w' => ∃ v' g', e = .returned (.agg v'.vals) ∧ StR w' (fun b => S b ∨ W.heap.size ≤ b) v' g' ∧ g'.pure = { g.pure with subs := changeL (fun x => x.token == r.key && x.node == r.n) (fun x => { x with opn := true }) g.pure.subs } ∧ Below W.heap.size W w' := by
  obtain ⟨_, _, hve, hvc, hvm⟩ := hv.2.2.open_
  injection hve with _ _ hve
  subst hve
  refine (ev_opened v.Pp v.Dd v.Mm v.A3 v.n3 v.c3 v.A4 v.n4 v.c4 v.A5 v.n5 v.c5 v.A6 v.n6 v.c6 v.A7 v.n7 v.c7 v.A8 v.n8 v.c8 v.A9 v.n9 v.c9 v.A10 v.n10 v.c10 v.A11 v.n11 v.c11 r vA vN vC g.subs W S hst.subs.1 (by rw [← hst.subs.1]; exact hfit.2.2.2.2.2.1) hst.subs.2).mono ?_
  rintro e w' ⟨A', c', l', rfl, hrow, rfl, hb⟩
  refine ⟨{ v with A8 := A', c8 := c' }, { g with subs := changeL (fun x => x.token == r.key && x.node == r.n) (fun x => { x with opn := true }) g.subs }, rfl, ?_, rfl, hb⟩
  exact { (hst.below (S' := fun b => S b ∨ W.heap.size ≤ b) hb (fun b _ h => .inl h)) with subs := ⟨(by rw [changeL_len]; exact hst.subs.1), hrow⟩ }
set_option maxRecDepth 100000 in
set_option maxHeartbeats 4000000 in
theorem u_varsOf (W : World) (S : Nat → Prop) (v : StV) (g : GSt) (r : GRec) (vA : Option Addr) (vN vC : Nat) (hst : StR W S v g) (hv : VarsR W S vA vN vC r.vars) (hfit : g.fits) :
    Calls Tryz.prog 61 #[.agg v.vals, .agg #[.int .i64 r.cls, .int .i64 r.kind, .int .u64 r.frm, .int .i64 r.time, .int .u64 r.key, .int .u64 r.key2, .int .u64 r.key3, .int .i64 r.n, .int .i64 r.m, .string r.a, .string r.b, .string r.c, .slice vA vN vC]] W fun e w' => ∃ v' g', e = .returned (.agg v'.vals) ∧ StR w' (fun b => S b ∨ W.heap.size ≤ b) v' g' ∧ g'.pure = { g.pure with insts := changeL (fun x => x.key == r.key) (fun x => { x with vars := r.vars }) g.pure.insts } ∧ Below W.heap.size W w' := by
  refine (ev_varsOf v.Pp v.Dd v.Mm v.A3 v.n3 v.c3 v.A4 v.n4 v.c4 v.A5 v.n5 v.c5 v.A6 v.n6 v.c6 v.A7 v.n7 v.c7 v.A8 v.n8 v.c8 v.A9 v.n9 v.c9 v.A10 v.n10 v.c10 v.A11 v.n11 v.c11 r vA vN vC g.insts W S hst.insts.1 (by rw [← hst.insts.1]; exact hfit.2.1) hst.insts.2 hv.1 hv.2.1 hv.2.2).mono ?_
  rintro e w' ⟨A', c', l', rfl, hrow, hrel, hb⟩
  rcases hrel with ⟨h1, rfl⟩ | ⟨i, hi, A1, c1, h1, hvn, rfl⟩
  · refine ⟨{ v with A4 := A', c4 := c' }, g, rfl, { (hst.below (S' := fun b => S b ∨ W.heap.size ≤ b) hb (fun b _ h => .inl h)) with insts := ⟨hst.insts.1, hrow⟩ }, ?_, hb⟩
    unfold GSt.pure
    simp only
    rw [changeL_none (by rw [idxP_map pureInst _ (fun x => x.key == r.key) (fun _ => rfl)]; exact h1)]
  · refine ⟨{ v with A4 := A', c4 := c' }, { g with insts := g.insts.set i { g.insts[i] with vA := A1, vN := vN, vC := c1, vars := r.vars } }, rfl, ?_, ?_, hb⟩
    · exact { (hst.below (S' := fun b => S b ∨ W.heap.size ≤ b) hb (fun b _ h => .inl h)) with insts := ⟨by show (g.insts.set i _).length = _; rw [List.length_set]; exact hst.insts.1, hrow⟩, vinst := fun y hy => (List.mem_or_eq_of_mem_set hy).elim (fun h => (hst.below (S' := fun b => S b ∨ W.heap.size ≤ b) hb (fun b _ h => .inl h)).vinst y h) (fun e => e ▸ ⟨hv.1, hv.2.1, hvn.weaken (fun _ _ h => .inr h)⟩) }
    · unfold GSt.pure
      simp only
      rw [changeL_some (i := i) (by rw [List.length_map]; exact hi) (by rw [idxP_map pureInst _ (fun x => x.key == r.key) (fun _ => rfl)]; exact h1), List.map_set, List.getElem_map]
      rfl
set_option maxRecDepth 100000 in
set_option maxHeartbeats 4000000 in
theorem u_expired (W : World) (S : Nat → Prop) (v : StV) (g : GSt) (r : GRec) (vA : Option Addr) (vN vC : Nat) (hst : StR W S v g) (hv : VarsR W S vA vN vC r.vars) (hfit : g.fits) :
    Calls Tryz.prog 71 #[.agg v.vals, .agg #[.int .i64 r.cls, .int .i64 r.kind, .int .u64 r.frm, .int .i64 r.time, .int .u64 r.key, .int .u64 r.key2, .int .u64 r.key3, .int .i64 r.n, .int .i64 r.m, .string r.a, .string r.b, .string r.c, .slice vA vN vC]] W fun e w' => ∃ v' g', e = .returned (.agg v'.vals) ∧ StR w' (fun b => S b ∨ W.heap.size ≤ b) v' g' ∧ g'.pure = { g.pure with msgs := g.pure.msgs.filter fun x => !(x.key == r.key) } ∧ Below W.heap.size W w' := by
  refine (ev_expired v.Pp v.Dd v.Mm v.A3 v.n3 v.c3 v.A4 v.n4 v.c4 v.A5 v.n5 v.c5 v.A6 v.n6 v.c6 v.A7 v.n7 v.c7 v.A8 v.n8 v.c8 v.A9 v.n9 v.c9 v.A10 v.n10 v.c10 v.A11 v.n11 v.c11 r vA vN vC g.msgs W S hst.msgs.1 (by rw [← hst.msgs.1]; exact hfit.2.2.2.2.2.2.2.2) hst.msgs.2).mono ?_
  rintro e w' ⟨A', c', Ln, rfl, hLn, hown, hb⟩
  refine ⟨{ v with A11 := A', n11 := Ln, c11 := c' }, { g with msgs := g.msgs.filter fun x => !(x.key == r.key) }, rfl, ?_, ?_, hb⟩
  · exact { (hst.below (S' := fun b => S b ∨ W.heap.size ≤ b) hb (fun b _ h => .inl h)) with msgs := ⟨hLn.symm, (Row.of_own hown).weaken (fun b _ h => .inr h.1)⟩, vmsg := fun y hy => (hst.below (S' := fun b => S b ∨ W.heap.size ≤ b) hb (fun b _ h => .inl h)).vmsg y (List.mem_filter.1 hy).1, imsg := fun y hy => (hst.below (S' := fun b => S b ∨ W.heap.size ≤ b) hb (fun b _ h => .inl h)).imsg y (List.mem_filter.1 hy).1 }
  · unfold GSt.pure
    simp only
    rw [List.filter_map]
    rfl
set_option maxRecDepth 100000 in
set_option maxHeartbeats 4000000 in
theorem u_matched (W : World) (S : Nat → Prop) (v : StV) (g : GSt) (r : GRec) (vA : Option Addr) (vN vC : Nat) (hst : StR W S v g) (hv : VarsR W S vA vN vC r.vars) (hfit : g.fits) :
    Calls Tryz.prog 73 #[.agg v.vals, .agg #[.int .i64 r.cls, .int .i64 r.kind, .int .u64 r.frm, .int .i64 r.time, .int .u64 r.key, .int .u64 r.key2, .int .u64 r.key3, .int .i64 r.n, .int .i64 r.m, .string r.a, .string r.b, .string r.c, .slice vA vN vC]] W fun e w' => ∃ v' g', e = .returned (.agg v'.vals) ∧ StR w' (fun b => S b ∨ W.heap.size ≤ b) v' g' ∧ g'.pure = { g.pure with listed := g.pure.listed.filter fun x => !(isLst r x) } ∧ Below W.heap.size W w' := by
  obtain ⟨_, _, hve, hvc, hvm⟩ := hv.2.2.open_
  injection hve with _ _ hve
  subst hve
  refine (ev_matched v.Pp v.Dd v.Mm v.A3 v.n3 v.c3 v.A4 v.n4 v.c4 v.A5 v.n5 v.c5 v.A6 v.n6 v.c6 v.A7 v.n7 v.c7 v.A8 v.n8 v.c8 v.A9 v.n9 v.c9 v.A10 v.n10 v.c10 v.A11 v.n11 v.c11 r vA vN vC g.listed W S hst.listed.1 (by rw [← hst.listed.1]; exact hfit.2.2.2.2.2.2.2.1) hst.listed.2 hvc hvm).mono ?_
  rintro e w' ⟨A', c', Ln, rfl, hLn, hown, hb⟩
  refine ⟨{ v with A10 := A', n10 := Ln, c10 := c' }, { g with listed := g.listed.filter fun x => !(isLst r x) }, rfl, ?_, ?_, hb⟩
  · exact { (hst.below (S' := fun b => S b ∨ W.heap.size ≤ b) hb (fun b _ h => .inl h)) with listed := ⟨hLn.symm, (Row.of_own hown).weaken (fun b _ h => .inr h.1)⟩, vlist := fun y hy => (hst.below (S' := fun b => S b ∨ W.heap.size ≤ b) hb (fun b _ h => .inl h)).vlist y (List.mem_filter.1 hy).1 }
  · unfold GSt.pure
    simp only
    rw [List.filter_map]
    rfl
set_option maxRecDepth 100000 in
set_option maxHeartbeats 4000000 in
theorem u_left (W : World) (S : Nat → Prop) (v : StV) (g : GSt) (r : GRec) (vA : Option Addr) (vN vC : Nat) (hst : StR W S v g) (hv : VarsR W S vA vN vC r.vars) (hfit : g.fits) (hwf : g.wf) :
    Calls Tryz.prog 57 #[.agg v.vals, .agg #[.int .i64 r.cls, .int .i64 r.kind, .int .u64 r.frm, .int .i64 r.time, .int .u64 r.key, .int .u64 r.key2, .int .u64 r.key3, .int .i64 r.n, .int .i64 r.m, .string r.a, .string r.b, .string r.c, .slice vA vN vC]] W fun e w' => ∃ v' g', e = .returned (.agg v'.vals) ∧ StR w' (fun b => S b ∨ W.heap.size ≤ b) v' g' ∧ g'.pure = goneP (fun x => x.key == r.key) (fun k => k == r.key) g.pure ∧ Below W.heap.size W w' := by
  refine (ev_left v.Pp v.Dd v.Mm v.A3 v.n3 v.c3 v.A4 v.n4 v.c4 v.A5 v.n5 v.c5 v.A6 v.n6 v.c6 v.A7 v.n7 v.c7 v.A8 v.n8 v.c8 v.A9 v.n9 v.c9 v.A10 v.n10 v.c10 v.A11 v.n11 v.c11 r vA vN vC g.tokens g.jobs g.timers g.subs W S hst.tokens.1 (by rw [← hst.tokens.1]; exact hfit.2.2.1) hst.tokens.2 hst.jobs.1 (by rw [← hst.jobs.1]; exact hfit.2.2.2.1) hst.jobs.2 hst.timers.1 (by rw [← hst.timers.1]; exact hfit.2.2.2.2.1) hst.timers.2 hst.subs.1 (by rw [← hst.subs.1]; exact hfit.2.2.2.2.2.1) hst.subs.2 hwf.1 hwf.2.1 hwf.2.2.1 hwf.2.2.2).mono ?_
  rintro e w' ⟨B5, m5, d5, B6, m6, d6, B7, m7, d7, B8, m8, d8, rfl, hm5, ho5, hm6, ho6, hm7, ho7, hm8, ho8, hb⟩
  refine ⟨{ v with A5 := B5, n5 := m5, c5 := d5, A6 := B6, n6 := m6, c6 := d6, A7 := B7, n7 := m7, c7 := d7, A8 := B8, n8 := m8, c8 := d8 }, goneP (fun x => x.key == r.key) (fun k => k == r.key) g, rfl, ?_, ?_, hb⟩
  · exact { (hst.below (S' := fun b => S b ∨ W.heap.size ≤ b) hb (fun b _ h => .inl h)) with tokens := ⟨hm5.symm, (Row.of_own ho5).weaken (fun b _ h => .inr h.1)⟩, jobs := ⟨hm6.symm, (Row.of_own ho6).weaken (fun b _ h => .inr h.1)⟩, timers := ⟨hm7.symm, (Row.of_own ho7).weaken (fun b _ h => .inr h.1)⟩, subs := ⟨hm8.symm, (Row.of_own ho8).weaken (fun b _ h => .inr h.1)⟩ }
  · rfl
set_option maxRecDepth 100000 in
set_option maxHeartbeats 4000000 in
theorem u_ended (W : World) (S : Nat → Prop) (v : StV) (g : GSt) (r : GRec) (vA : Option Addr) (vN vC : Nat) (hst : StR W S v g) (hv : VarsR W S vA vN vC r.vars) (hfit : g.fits) (hwf : g.wf) :
    Calls Tryz.prog 67 #[.agg v.vals, .agg #[.int .i64 r.cls, .int .i64 r.kind, .int .u64 r.frm, .int .i64 r.time, .int .u64 r.key, .int .u64 r.key2, .int .u64 r.key3, .int .i64 r.n, .int .i64 r.m, .string r.a, .string r.b, .string r.c, .slice vA vN vC]] W fun e w' => ∃ v' g', e = .returned (.agg v'.vals) ∧ StR w' (fun b => S b ∨ W.heap.size ≤ b) v' g' ∧ g'.pure = goneP (fun x => x.inst == r.key) (fun _ => false) { g.pure with insts := g.pure.insts.filter fun x => !(x.key == r.key) } ∧ Below W.heap.size W w' := by
  refine (ev_ended v.Pp v.Dd v.Mm v.A3 v.n3 v.c3 v.A4 v.n4 v.c4 v.A5 v.n5 v.c5 v.A6 v.n6 v.c6 v.A7 v.n7 v.c7 v.A8 v.n8 v.c8 v.A9 v.n9 v.c9 v.A10 v.n10 v.c10 v.A11 v.n11 v.c11 r vA vN vC g.insts g.tokens g.jobs g.timers g.subs W S hst.insts.1 (by rw [← hst.insts.1]; exact hfit.2.1) hst.insts.2 hst.tokens.1 (by rw [← hst.tokens.1]; exact hfit.2.2.1) hst.tokens.2 hst.jobs.1 (by rw [← hst.jobs.1]; exact hfit.2.2.2.1) hst.jobs.2 hst.timers.1 (by rw [← hst.timers.1]; exact hfit.2.2.2.2.1) hst.timers.2 hst.subs.1 (by rw [← hst.subs.1]; exact hfit.2.2.2.2.2.1) hst.subs.2 hwf.1 hwf.2.1 hwf.2.2.1 hwf.2.2.2).mono ?_
  rintro e w' ⟨B4, m4, d4, B5, m5, d5, B6, m6, d6, B7, m7, d7, B8, m8, d8, rfl, hm4, ho4, hm5, ho5, hm6, ho6, hm7, ho7, hm8, ho8, hb⟩
  refine ⟨{ v with A4 := B4, n4 := m4, c4 := d4, A5 := B5, n5 := m5, c5 := d5, A6 := B6, n6 := m6, c6 := d6, A7 := B7, n7 := m7, c7 := d7, A8 := B8, n8 := m8, c8 := d8 }, goneP (fun x => x.inst == r.key) (fun _ => false) { g with insts := g.insts.filter fun x => !(x.key == r.key) }, rfl, ?_, ?_, hb⟩
  · exact { (hst.below (S' := fun b => S b ∨ W.heap.size ≤ b) hb (fun b _ h => .inl h)) with insts := ⟨hm4.symm, (Row.of_own ho4).weaken (fun b _ h => .inr h.1)⟩, tokens := ⟨hm5.symm, (Row.of_own ho5).weaken (fun b _ h => .inr h.1)⟩, jobs := ⟨hm6.symm, (Row.of_own ho6).weaken (fun b _ h => .inr h.1)⟩, timers := ⟨hm7.symm, (Row.of_own ho7).weaken (fun b _ h => .inr h.1)⟩, subs := ⟨hm8.symm, (Row.of_own ho8).weaken (fun b _ h => .inr h.1)⟩, vinst := fun y hy => (hst.below (S' := fun b => S b ∨ W.heap.size ≤ b) hb (fun b _ h => .inl h)).vinst y (List.mem_filter.1 hy).1 }
  · unfold goneP GSt.pure
    simp only
    rw [List.filter_map]
    rfl
end Go.Proofs.YtgpkmellpllmgaaGreat
/-
  fold.Apply, from a state to a state. Printed by gfold2.py.
-/
set_option linter.unusedVariables false
set_option linter.unusedSimpArgs false
namespace Go.Proofs.YtgpkmellpllmgaaGreat
open Go Go.RowKit Go.Proofs.Base
open Go.Sort (grow)
def putKind (k : Int) : Prop := k = 1 ∨ k = 2 ∨ k = 3 ∨ k = 6 ∨ k = 10 ∨ k = 11 ∨ k = 17 ∨ k = 18 ∨ k = 19 ∨ k = 21
def Applied (w : World) (S : Nat → Prop) (pos : Int) (r : GRec) (g : GSt) (e : Ending) (w' : World) : Prop := ∃ v' g', e = .returned (.agg v'.vals) ∧ StR w' (fun b => S b ∨ w.heap.size ≤ b) v' g' ∧ g'.pure = applyP pos r g.pure ∧ Below w.heap.size w w'
theorem st_counted {w : World} {S : Nat → Prop} {v : StV} {g : GSt} (h : StR w S v g) (p d : Int) (d' : Int) (hd : d = d') : StR w S { v with Pp := p, Dd := d } { g with pos := p, done := d' } := { h with pos := rfl, done := hd }
theorem st_placed {w : World} {S : Nat → Prop} {v : StV} {g : GSt} (h : StR w S v g) (p : Int) : StR w S { v with Pp := p } { g with pos := p } := { h with pos := rfl }
section
variable {w : World} {S : Nat → Prop} {v : StV} {g : GSt} {r : GRec} {vA : Option Addr} {vN vC : Nat}
abbrev Inner (w : World) (S : Nat → Prop) (b : Nat) : Prop := S b ∧ b < w.heap.size
theorem st_inner (h : StR w S v g) : StR w (Inner w S) v g := h.mut (T := fun _ => False) (Mut.refl _ _) (fun _ _ _ h => h) (fun b hb hs => ⟨hs, hb⟩)
theorem vars_inner {l : List GVar} (h : VarsR w S vA vN vC l) : VarsR w (Inner w S) vA vN vC l := h.mut (T := fun _ => False) (Mut.refl _ _) (fun _ _ _ h => h) (fun b hb hs => ⟨hs, hb⟩)
theorem apply_ev (pos : Int) (hst : StR w S v g) (hv : VarsR w S vA vN vC r.vars) (hki : i64 r.kind) (hc : r.cls = 2) (fo : Nat) (hf : fnAt kindsL r.kind = some fo) (eg : ∀ args w, (callFunc fo args).run Tryz.prog w = .ok (.enter fo args) w)
    (hd : ∀ (W : World) (v2 : StV) (g2 : GSt), StR W (Inner w S) v2 g2 → VarsR W (Inner w S) vA vN vC r.vars → g2 = { g with pos := pos, done := max g.done r.frm } → Calls Tryz.prog fo #[.agg v2.vals, .agg #[.int .i64 r.cls, .int .i64 r.kind, .int .u64 r.frm, .int .i64 r.time, .int .u64 r.key, .int .u64 r.key2, .int .u64 r.key3, .int .i64 r.n, .int .i64 r.m, .string r.a, .string r.b, .string r.c, .slice vA vN vC]] W fun e w' => ∃ v' g', e = .returned (.agg v'.vals) ∧ StR w' (fun b => Inner w S b ∨ W.heap.size ≤ b) v' g' ∧ g'.pure = evP r g2.pure ∧ Below W.heap.size W w') :
    Calls Tryz.prog 10 #[.agg v.vals, .int .u64 pos, .agg #[.int .i64 r.cls, .int .i64 r.kind, .int .u64 r.frm, .int .i64 r.time, .int .u64 r.key, .int .u64 r.key2, .int .u64 r.key3, .int .i64 r.n, .int .i64 r.m, .string r.a, .string r.b, .string r.c, .slice vA vN vC]] w (Applied w S pos r g) := by
  refine (ap_ev pos v.Pp v.Dd v.Mm v.A3 v.n3 v.c3 v.A4 v.n4 v.c4 v.A5 v.n5 v.c5 v.A6 v.n6 v.c6 v.A7 v.n7 v.c7 v.A8 v.n8 v.c8 v.A9 v.n9 v.c9 v.A10 v.n10 v.c10 v.A11 v.n11 v.c11 r vA vN vC w hki hc fo hf eg (fun v' W => ∃ g', StR W (fun b => Inner w S b ∨ w.heap.size + 3 ≤ b) v' g' ∧ g'.pure = applyP pos r g.pure) ?_ ?_).mono ?_
  · intro W hW hW3
    have h2 : StR W (Inner w S) { v with Pp := pos, Dd := max v.Dd r.frm } { g with pos := pos, done := max g.done r.frm } := st_counted (((st_inner hst).below hW (fun b _ h => h))) pos (max v.Dd r.frm) (max g.done r.frm) (by rw [hst.done])
    refine (hd W _ _ h2 ((vars_inner hv).mut (T := fun _ => False) (Mut.of_below hW _) (fun _ _ _ h => h) (fun b _ h => h)) rfl).mono ?_
    rintro e w' ⟨v', g', rfl, hs, hp, hb⟩
    refine ⟨v', rfl, ⟨g', hs.mut (T := fun _ => False) (Mut.refl _ _) (fun _ _ _ h => h) (fun b _ h => h.elim .inl (fun h => .inr (by omega))), ?_⟩, hb⟩
    rw [hp]
    unfold applyP
    rw [if_neg (by omega), if_pos hc]
    rfl
  · rintro v' W W' ⟨g', hs, hp⟩ hm
    exact ⟨g', hs.mut hm (fun b _ h e => h.elim (fun h => by have := h.2; omega) (fun h => by omega)) (fun b _ h => h), hp⟩
  · rintro e w' ⟨v', rfl, ⟨g', hs, hp⟩, hb⟩
    exact ⟨v', g', rfl, hs.mut (T := fun _ => False) (Mut.refl _ _) (fun _ _ _ h => h) (fun b _ h => h.elim (fun h => .inl h.1) (fun h => .inr (by omega))), hp, hb⟩
theorem apply_not (pos : Int) (hst : StR w S v g) (hki : i64 r.kind) (hv : VarsR w S vA vN vC r.vars) (hn : r.cls ≠ 2 ∨ fnAt kindsL r.kind = none) (hp : r.cls = 2 → evP r = id) :
    Calls Tryz.prog 10 #[.agg v.vals, .int .u64 pos, .agg #[.int .i64 r.cls, .int .i64 r.kind, .int .u64 r.frm, .int .i64 r.time, .int .u64 r.key, .int .u64 r.key2, .int .u64 r.key3, .int .i64 r.n, .int .i64 r.m, .string r.a, .string r.b, .string r.c, .slice vA vN vC]] w (Applied w S pos r g) := by
  by_cases h2 : r.cls = 2
  · have hf : fnAt kindsL r.kind = none := hn.resolve_left (fun h => h h2)
    refine (ap_none pos v.Pp v.Dd v.Mm v.A3 v.n3 v.c3 v.A4 v.n4 v.c4 v.A5 v.n5 v.c5 v.A6 v.n6 v.c6 v.A7 v.n7 v.c7 v.A8 v.n8 v.c8 v.A9 v.n9 v.c9 v.A10 v.n10 v.c10 v.A11 v.n11 v.c11 r vA vN vC w hki h2 hf).mono ?_
    rintro e w' ⟨rfl, hb⟩
    refine ⟨{ v with Pp := pos, Dd := max v.Dd r.frm }, { g with pos := pos, done := max g.done r.frm }, rfl, st_counted (hst.below (S' := fun b => S b ∨ w.heap.size ≤ b) hb (fun b _ h => .inl h)) pos (max v.Dd r.frm) (max g.done r.frm) (by rw [hst.done]), ?_, hb⟩
    unfold applyP
    rw [if_neg (by omega), if_pos h2, hp h2]
    rfl
  · by_cases h3 : r.cls = 3
    · have hcall : Calls Tryz.prog 10 #[.agg v.vals, .int .u64 pos, .agg #[.int .i64 r.cls, .int .i64 r.kind, .int .u64 r.frm, .int .i64 r.time, .int .u64 r.key, .int .u64 r.key2, .int .u64 r.key3, .int .i64 r.n, .int .i64 r.m, .string r.a, .string r.b, .string r.c, .slice vA vN vC]] w fun e w' => e = .returned (.agg ({ v with Pp := pos, Dd := max v.Dd r.frm } : StV).vals) ∧ Below w.heap.size w w' := by
        cases hf : fnAt kindsL r.kind with
        | some fo => exact ap_ref pos v.Pp v.Dd v.Mm v.A3 v.n3 v.c3 v.A4 v.n4 v.c4 v.A5 v.n5 v.c5 v.A6 v.n6 v.c6 v.A7 v.n7 v.c7 v.A8 v.n8 v.c8 v.A9 v.n9 v.c9 v.A10 v.n10 v.c10 v.A11 v.n11 v.c11 r vA vN vC w hki h3 fo hf
        | none => exact ap_refn pos v.Pp v.Dd v.Mm v.A3 v.n3 v.c3 v.A4 v.n4 v.c4 v.A5 v.n5 v.c5 v.A6 v.n6 v.c6 v.A7 v.n7 v.c7 v.A8 v.n8 v.c8 v.A9 v.n9 v.c9 v.A10 v.n10 v.c10 v.A11 v.n11 v.c11 r vA vN vC w hki h3 hf
      refine hcall.mono ?_
      rintro e w' ⟨rfl, hb⟩
      refine ⟨{ v with Pp := pos, Dd := max v.Dd r.frm }, { g with pos := pos, done := max g.done r.frm }, rfl, st_counted (hst.below (S' := fun b => S b ∨ w.heap.size ≤ b) hb (fun b _ h => .inl h)) pos (max v.Dd r.frm) (max g.done r.frm) (by rw [hst.done]), ?_, hb⟩
      unfold applyP
      rw [if_neg (by omega), if_neg h2]
      rfl
    · refine (ap_other pos v.Pp v.Dd v.Mm v.A3 v.n3 v.c3 v.A4 v.n4 v.c4 v.A5 v.n5 v.c5 v.A6 v.n6 v.c6 v.A7 v.n7 v.c7 v.A8 v.n8 v.c8 v.A9 v.n9 v.c9 v.A10 v.n10 v.c10 v.A11 v.n11 v.c11 r vA vN vC w h2 h3).mono ?_
      rintro e w' ⟨rfl, hb⟩
      refine ⟨{ v with Pp := pos }, { g with pos := pos }, rfl, st_placed (hst.below (S' := fun b => S b ∨ w.heap.size ≤ b) hb (fun b _ h => .inl h)) pos, ?_, hb⟩
      unfold applyP
      rw [if_pos ⟨h2, h3⟩]
      rfl
theorem fnAt_none {q : Int} (h : q ≠ 1 ∧ q ≠ 2 ∧ q ≠ 3 ∧ q ≠ 4 ∧ q ≠ 6 ∧ q ≠ 7 ∧ q ≠ 8 ∧ q ≠ 9 ∧ q ≠ 10 ∧ q ≠ 11 ∧ q ≠ 12 ∧ q ≠ 13 ∧ q ≠ 14 ∧ q ≠ 15 ∧ q ≠ 16 ∧ q ≠ 17 ∧ q ≠ 18 ∧ q ≠ 19 ∧ q ≠ 20 ∧ q ≠ 21 ∧ q ≠ 22 ∧ q ≠ 23) : fnAt kindsL q = none := by
  obtain ⟨h1, h2, h3, h4, h6, h7, h8, h9, h10, h11, h12, h13, h14, h15, h16, h17, h18, h19, h20, h21, h22, h23⟩ := h
  unfold fnAt kindsL
  rw [Option.map_eq_none_iff, List.find?_eq_none]
  intro x hx
  simp only [List.mem_reverse, List.mem_cons, List.not_mem_nil, or_false] at hx
  rcases hx with rfl | rfl | rfl | rfl | rfl | rfl | rfl | rfl | rfl | rfl | rfl | rfl | rfl | rfl | rfl | rfl | rfl | rfl | rfl | rfl | rfl | rfl <;> simp <;> omega
set_option maxRecDepth 100000 in
set_option maxHeartbeats 4000000 in
theorem u_apply_but (pos : Int) (hst : StR w S v g) (hv : VarsR w S vA vN vC r.vars) (hki : i64 r.kind) (hwf : g.wf) (hfit : g.fits) (hroom : r.cls = 2 → putKind r.kind → g.room) (hlate21 : r.cls = 2 → r.kind = 21 → Calls Tryz.prog 10 #[.agg v.vals, .int .u64 pos, .agg #[.int .i64 r.cls, .int .i64 r.kind, .int .u64 r.frm, .int .i64 r.time, .int .u64 r.key, .int .u64 r.key2, .int .u64 r.key3, .int .i64 r.n, .int .i64 r.m, .string r.a, .string r.b, .string r.c, .slice vA vN vC]] w (Applied w S pos r g)) (hlate23 : r.cls = 2 → r.kind = 23 → Calls Tryz.prog 10 #[.agg v.vals, .int .u64 pos, .agg #[.int .i64 r.cls, .int .i64 r.kind, .int .u64 r.frm, .int .i64 r.time, .int .u64 r.key, .int .u64 r.key2, .int .u64 r.key3, .int .i64 r.n, .int .i64 r.m, .string r.a, .string r.b, .string r.c, .slice vA vN vC]] w (Applied w S pos r g)) :
    Calls Tryz.prog 10 #[.agg v.vals, .int .u64 pos, .agg #[.int .i64 r.cls, .int .i64 r.kind, .int .u64 r.frm, .int .i64 r.time, .int .u64 r.key, .int .u64 r.key2, .int .u64 r.key3, .int .i64 r.n, .int .i64 r.m, .string r.a, .string r.b, .string r.c, .slice vA vN vC]] w (Applied w S pos r g) := by
  by_cases hc : r.cls = 2
  · by_cases h1 : r.kind = 1
    · refine apply_ev pos hst hv hki hc 54 (by rw [h1]; rfl) (enters_of Tryz.func54 (by kernel_rfl) rfl) (fun W v2 g2 hs2 hv2 hg2 => ?_)
      refine (u_deployed W _ v2 g2 r vA vN vC hs2 hv2 (by subst hg2; exact hroom hc (by unfold putKind; omega))).mono ?_
      rintro e w' ⟨v', g', he, hs, hp, hb⟩
      refine ⟨v', g', he, hs, ?_, hb⟩
      rw [hp]
      unfold evP
      simp [h1]
    by_cases h2 : r.kind = 2
    · refine apply_ev pos hst hv hki hc 55 (by rw [h2]; rfl) (enters_of Tryz.func55 (by kernel_rfl) rfl) (fun W v2 g2 hs2 hv2 hg2 => ?_)
      refine (u_began W _ v2 g2 r vA vN vC hs2 hv2 (by subst hg2; exact hroom hc (by unfold putKind; omega))).mono ?_
      rintro e w' ⟨v', g', he, hs, hp, hb⟩
      refine ⟨v', g', he, hs, ?_, hb⟩
      rw [hp]
      unfold evP
      simp [h2]
    by_cases h3 : r.kind = 3
    · refine apply_ev pos hst hv hki hc 56 (by rw [h3]; rfl) (enters_of Tryz.func56 (by kernel_rfl) rfl) (fun W v2 g2 hs2 hv2 hg2 => ?_)
      refine (u_entered W _ v2 g2 r vA vN vC hs2 hv2 (by subst hg2; exact hroom hc (by unfold putKind; omega))).mono ?_
      rintro e w' ⟨v', g', he, hs, hp, hb⟩
      refine ⟨v', g', he, hs, ?_, hb⟩
      rw [hp]
      unfold evP
      simp [h3]
    by_cases h4 : r.kind = 4
    · refine apply_ev pos hst hv hki hc 57 (by rw [h4]; rfl) (enters_of Tryz.func57 (by kernel_rfl) rfl) (fun W v2 g2 hs2 hv2 hg2 => ?_)
      refine (u_left W _ v2 g2 r vA vN vC hs2 hv2 (by subst hg2; exact hfit) (by subst hg2; exact hwf)).mono ?_
      rintro e w' ⟨v', g', he, hs, hp, hb⟩
      refine ⟨v', g', he, hs, ?_, hb⟩
      rw [hp]
      unfold evP
      simp [h4]
    by_cases h6 : r.kind = 6
    · refine apply_ev pos hst hv hki hc 58 (by rw [h6]; rfl) (enters_of Tryz.func58 (by kernel_rfl) rfl) (fun W v2 g2 hs2 hv2 hg2 => ?_)
      refine (u_job W _ v2 g2 r vA vN vC hs2 hv2 (by subst hg2; exact hroom hc (by unfold putKind; omega))).mono ?_
      rintro e w' ⟨v', g', he, hs, hp, hb⟩
      refine ⟨v', g', he, hs, ?_, hb⟩
      rw [hp]
      unfold evP
      simp [h6]
    by_cases h7 : r.kind = 7
    · refine apply_ev pos hst hv hki hc 59 (by rw [h7]; rfl) (enters_of Tryz.func59 (by kernel_rfl) rfl) (fun W v2 g2 hs2 hv2 hg2 => ?_)
      refine (u_taken W _ v2 g2 r vA vN vC hs2 hv2 (by subst hg2; exact hfit)).mono ?_
      rintro e w' ⟨v', g', he, hs, hp, hb⟩
      refine ⟨v', g', he, hs, ?_, hb⟩
      rw [hp]
      unfold evP
      simp [h7]
    by_cases h8 : r.kind = 8
    · refine apply_ev pos hst hv hki hc 60 (by rw [h8]; rfl) (enters_of Tryz.func60 (by kernel_rfl) rfl) (fun W v2 g2 hs2 hv2 hg2 => ?_)
      refine (u_back W _ v2 g2 r vA vN vC hs2 hv2 (by subst hg2; exact hfit)).mono ?_
      rintro e w' ⟨v', g', he, hs, hp, hb⟩
      refine ⟨v', g', he, hs, ?_, hb⟩
      rw [hp]
      unfold evP
      simp [h8]
    by_cases h9 : r.kind = 9
    · refine apply_ev pos hst hv hki hc 61 (by rw [h9]; rfl) (enters_of Tryz.func61 (by kernel_rfl) rfl) (fun W v2 g2 hs2 hv2 hg2 => ?_)
      refine (u_varsOf W _ v2 g2 r vA vN vC hs2 hv2 (by subst hg2; exact hfit)).mono ?_
      rintro e w' ⟨v', g', he, hs, hp, hb⟩
      refine ⟨v', g', he, hs, ?_, hb⟩
      rw [hp]
      unfold evP
      simp [h9]
    by_cases h10 : r.kind = 10
    · refine apply_ev pos hst hv hki hc 62 (by rw [h10]; rfl) (enters_of Tryz.func62 (by kernel_rfl) rfl) (fun W v2 g2 hs2 hv2 hg2 => ?_)
      refine (u_timer W _ v2 g2 r vA vN vC hs2 hv2 (by subst hg2; exact hroom hc (by unfold putKind; omega))).mono ?_
      rintro e w' ⟨v', g', he, hs, hp, hb⟩
      refine ⟨v', g', he, hs, ?_, hb⟩
      rw [hp]
      unfold evP
      simp [h10]
    by_cases h11 : r.kind = 11
    · refine apply_ev pos hst hv hki hc 63 (by rw [h11]; rfl) (enters_of Tryz.func63 (by kernel_rfl) rfl) (fun W v2 g2 hs2 hv2 hg2 => ?_)
      refine (u_sub W _ v2 g2 r vA vN vC hs2 hv2 (by subst hg2; exact hroom hc (by unfold putKind; omega))).mono ?_
      rintro e w' ⟨v', g', he, hs, hp, hb⟩
      refine ⟨v', g', he, hs, ?_, hb⟩
      rw [hp]
      unfold evP
      simp [h11]
    by_cases h12 : r.kind = 12
    · refine apply_ev pos hst hv hki hc 64 (by rw [h12]; rfl) (enters_of Tryz.func64 (by kernel_rfl) rfl) (fun W v2 g2 hs2 hv2 hg2 => ?_)
      refine (u_opened W _ v2 g2 r vA vN vC hs2 hv2 (by subst hg2; exact hfit)).mono ?_
      rintro e w' ⟨v', g', he, hs, hp, hb⟩
      refine ⟨v', g', he, hs, ?_, hb⟩
      rw [hp]
      unfold evP
      simp [h12]
    by_cases h13 : r.kind = 13
    · refine apply_ev pos hst hv hki hc 65 (by rw [h13]; rfl) (enters_of Tryz.func65 (by kernel_rfl) rfl) (fun W v2 g2 hs2 hv2 hg2 => ?_)
      refine (u_stuck W _ v2 g2 r vA vN vC hs2 hv2 (by subst hg2; exact hfit)).mono ?_
      rintro e w' ⟨v', g', he, hs, hp, hb⟩
      refine ⟨v', g', he, hs, ?_, hb⟩
      rw [hp]
      unfold evP
      simp [h13]
    by_cases h14 : r.kind = 14
    · refine apply_ev pos hst hv hki hc 66 (by rw [h14]; rfl) (enters_of Tryz.func66 (by kernel_rfl) rfl) (fun W v2 g2 hs2 hv2 hg2 => ?_)
      refine (u_freed W _ v2 g2 r vA vN vC hs2 hv2 (by subst hg2; exact hfit)).mono ?_
      rintro e w' ⟨v', g', he, hs, hp, hb⟩
      refine ⟨v', g', he, hs, ?_, hb⟩
      rw [hp]
      unfold evP
      simp [h14]
    by_cases h15 : r.kind = 15
    · refine apply_ev pos hst hv hki hc 67 (by rw [h15]; rfl) (enters_of Tryz.func67 (by kernel_rfl) rfl) (fun W v2 g2 hs2 hv2 hg2 => ?_)
      refine (u_ended W _ v2 g2 r vA vN vC hs2 hv2 (by subst hg2; exact hfit) (by subst hg2; exact hwf)).mono ?_
      rintro e w' ⟨v', g', he, hs, hp, hb⟩
      refine ⟨v', g', he, hs, ?_, hb⟩
      rw [hp]
      unfold evP
      simp [h15]
    by_cases h16 : r.kind = 16
    · refine apply_ev pos hst hv hki hc 67 (by rw [h16]; rfl) (enters_of Tryz.func67 (by kernel_rfl) rfl) (fun W v2 g2 hs2 hv2 hg2 => ?_)
      refine (u_ended W _ v2 g2 r vA vN vC hs2 hv2 (by subst hg2; exact hfit) (by subst hg2; exact hwf)).mono ?_
      rintro e w' ⟨v', g', he, hs, hp, hb⟩
      refine ⟨v', g', he, hs, ?_, hb⟩
      rw [hp]
      unfold evP
      simp [h16]
    by_cases h17 : r.kind = 17
    · refine apply_ev pos hst hv hki hc 68 (by rw [h17]; rfl) (enters_of Tryz.func68 (by kernel_rfl) rfl) (fun W v2 g2 hs2 hv2 hg2 => ?_)
      refine (u_kept W _ v2 g2 r vA vN vC hs2 hv2 (by subst hg2; exact hroom hc (by unfold putKind; omega))).mono ?_
      rintro e w' ⟨v', g', he, hs, hp, hb⟩
      refine ⟨v', g', he, hs, ?_, hb⟩
      rw [hp]
      unfold evP
      simp [h17]
    by_cases h18 : r.kind = 18
    · refine apply_ev pos hst hv hki hc 69 (by rw [h18]; rfl) (enters_of Tryz.func69 (by kernel_rfl) rfl) (fun W v2 g2 hs2 hv2 hg2 => ?_)
      refine (u_listed W _ v2 g2 r vA vN vC hs2 hv2 (by subst hg2; exact hroom hc (by unfold putKind; omega))).mono ?_
      rintro e w' ⟨v', g', he, hs, hp, hb⟩
      refine ⟨v', g', he, hs, ?_, hb⟩
      rw [hp]
      unfold evP
      simp [h18]
    by_cases h19 : r.kind = 19
    · refine apply_ev pos hst hv hki hc 70 (by rw [h19]; rfl) (enters_of Tryz.func70 (by kernel_rfl) rfl) (fun W v2 g2 hs2 hv2 hg2 => ?_)
      refine (u_published W _ v2 g2 r vA vN vC hs2 hv2 (by subst hg2; exact hroom hc (by unfold putKind; omega))).mono ?_
      rintro e w' ⟨v', g', he, hs, hp, hb⟩
      refine ⟨v', g', he, hs, ?_, hb⟩
      rw [hp]
      unfold evP
      simp [h19]
    by_cases h20 : r.kind = 20
    · refine apply_ev pos hst hv hki hc 71 (by rw [h20]; rfl) (enters_of Tryz.func71 (by kernel_rfl) rfl) (fun W v2 g2 hs2 hv2 hg2 => ?_)
      refine (u_expired W _ v2 g2 r vA vN vC hs2 hv2 (by subst hg2; exact hfit)).mono ?_
      rintro e w' ⟨v', g', he, hs, hp, hb⟩
      refine ⟨v', g', he, hs, ?_, hb⟩
      rw [hp]
      unfold evP
      simp [h20]
    by_cases h22 : r.kind = 22
    · refine apply_ev pos hst hv hki hc 73 (by rw [h22]; rfl) (enters_of Tryz.func73 (by kernel_rfl) rfl) (fun W v2 g2 hs2 hv2 hg2 => ?_)
      refine (u_matched W _ v2 g2 r vA vN vC hs2 hv2 (by subst hg2; exact hfit)).mono ?_
      rintro e w' ⟨v', g', he, hs, hp, hb⟩
      refine ⟨v', g', he, hs, ?_, hb⟩
      rw [hp]
      unfold evP
      simp [h22]
    by_cases h21 : r.kind = 21
    · exact hlate21 hc h21
    by_cases h23 : r.kind = 23
    · exact hlate23 hc h23
    refine apply_not pos hst hki hv (.inr (fnAt_none ⟨h1, h2, h3, h4, h6, h7, h8, h9, h10, h11, h12, h13, h14, h15, h16, h17, h18, h19, h20, h21, h22, h23⟩)) (fun _ => ?_)
    funext g
    unfold evP
    simp only [h1, h2, h3, h4, h6, h7, h8, h9, h10, h11, h12, h13, h14, h15, h16, h17, h18, h19, h20, h21, h22, h23, if_false, or_self]
    rfl
  · exact apply_not pos hst hki hv (.inl hc) (fun h => absurd h hc)
end
end Go.Proofs.YtgpkmellpllmgaaGreat
/-
  What sending and missed change in one element. Printed by gfold2.py.
-/
set_option linter.unusedVariables false
set_option linter.unusedSimpArgs false
namespace Go.Proofs.YtgpkmellpllmgaaGreat
open Go Go.RowKit Go.Proofs.Base
open Go.Sort (grow)
set_option maxRecDepth 100000 in
set_option maxHeartbeats 4000000 in
theorem c_missed_1 (b i n : Nat) (cur : Array Value) (l : List EMsg) (B : Nat) (q : Int) (hbB : b ≠ B) (W : World) (S : Nat → Prop) (hq : W.cell? ⟨B, 0, none⟩ = some (.int .u64 q)) (hi : i < l.length) (hl : l.length = n) (hib : l[i].iN * 8 ≤ 140737488355328) (hil : l[i].insts.length = l[i].iN) (hir : Row W S 1 l[i].iN (.slice l[i].iA l[i].iN l[i].iC) (l[i].insts.flatMap encU64)) (hg : W.heap[b]? = some (.cells cur 64 (0, 0))) (ht : cur.toList.take (n * 7) = l.flatMap encMsg) (hs : n * 7 ≤ cur.size) :
    Calls Tryz.prog 128 (#[.pointer (some ⟨b, i * 7, none⟩)] ++ #[.pointer (some ⟨B, 0, none⟩)]) W fun e w' => e = .returned (.tuple #[]) ∧ ∃ A1 n1 c1, ∃ cur' : Array Value, n1 = (l[i].insts.filter fun k => !(k == q)).length ∧ w'.heap[b]? = some (.cells cur' 64 (0, 0)) ∧ cur'.size = cur.size ∧ cur'.toList.take (n * 7) = (l.set i { l[i] with iA := A1, iN := n1, iC := c1, insts := l[i].insts.filter fun k => !(k == q) }).flatMap encMsg ∧ Row w' (fun x => W.heap.size ≤ x) 1 n1 (.slice A1 n1 c1) ((l[i].insts.filter fun k => !(k == q)).flatMap encU64) ∧ Mut (fun x => x = b) W w' := by
  have hin : (i + 1) * 7 ≤ n * 7 := Nat.mul_le_mul_right _ (by omega)
  obtain ⟨u6, hu6⟩ : ∃ u, cur[i * 7 + 6]? = some u := ⟨_, Array.getElem?_eq_getElem (by omega)⟩
  have HU6 := Lib.hid hu6
  have hx : (l.flatMap encMsg)[i * 7 + 6]? = some (.slice l[i].iA l[i].iN l[i].iC) := (flat_at (enc := encMsg) lenMsg hi 6 (by decide)).trans rfl
  have hu6' : u6 = .slice l[i].iA l[i].iN l[i].iC := by
    rw [← ht, List.getElem?_take, if_pos (by omega), Array.getElem?_toList, hu6] at hx
    exact Option.some.inj hx
  subst hu6'
  have j6 := (cell_of_blk hg (i * 7 + 6)).trans hu6
  have hbB2 := Ne.symm hbB
  have HG := Lib.hid hg
  have HT := Lib.hid ht
  have HI := Lib.hid hi
  have hbl := lt_of_blk hg
  have eg : ∀ args w, (callFunc 130 args).run Tryz.prog w = .ok (.enter 130 args) w := enters_of Tryz.func130 (by kernel_rfl) rfl
  have HW := Lib.hid (without_U64 l[i].iA l[i].iN l[i].iC 130 #[.pointer (some ⟨B, 0, none⟩)] l[i].insts (fun k => k == q) W S eg hil hib hir (fun V hV k _ => p_missed_1_1 B k q V (cell_below hV hq)))
  clear hu6 hg ht hs hin hx eg hir hil hq
  generalize hxx : l[i] = x at *
  have HX := Lib.hid hxx
  clear hxx
  go_enter Tryz.func128, Tryz.ntmps128
  go_wp2_with (go_at_call 129; refine HW.out.mono ?_; rintro e w1 ⟨A1, c1, rfl, hown, hb⟩; generalize hn1 : (x.insts.filter fun k => !(k == q)).length = n1 at *; have HN1 := Lib.hid hn1; have HO := Lib.hid hown; have HB := Lib.hid hb; have HG1 := Lib.hid (block_below hb HG.out); have y6 := (cell_of_blk HG1.out (i * 7 + 6)).trans HU6.out; have f6 := frozen_of_blk HG1.out (i * 7 + 6); obtain ⟨_, _, _, hnc1, hcm1⟩ := (Row.of_own hown).open_; clear hown hb hn1 j6)
  go_end0
  have hm : Mut (fun x => x = b) W (w1.setCell ⟨b, i * 7 + 6, none⟩ (.slice A1 n1 c1)) := Mut.setCell (T := fun x => x = b) (Mut.of_below HB.out _) (p := ⟨b, i * 7 + 6, none⟩) (fun _ => rfl) _
  refine ⟨rfl, A1, n1, c1, _, HN1.out.symm, set_blk (o := i * 7 + 6) HG1.out (.slice A1 n1 c1), by simp only [Array.size_setIfInBounds], ?_, ?_, hm⟩
  · simp only [Array.toList_setIfInBounds, List.take_set]
    rw [HT.out]
    exact flat_sets (enc := encMsg) lenMsg HI.out [(6, .slice A1 n1 c1)] (by intro q hq; simp only [List.mem_cons, List.not_mem_nil, or_false] at hq; rcases hq with rfl <;> simp) (by rw [show l[i]'HI.out = x from HX.out]; rfl)
  · exact ((Row.of_own HO.out).mut (T := fun x => x = b) (Mut.setCell (T := fun x => x = b) (Mut.refl _ _) (p := ⟨b, i * 7 + 6, none⟩) (fun _ => rfl) _) (fun x _ hx h => by have := hx.1; omega)).weaken (fun x _ h => h.1)
set_option maxRecDepth 100000 in
set_option maxHeartbeats 4000000 in
theorem c_sending_1 (b i n : Nat) (cur : Array Value) (l : List ELst) (B B2 : Nat) (r : GRec) (vA : Option Addr) (vN vC : Nat) (hbB : b ≠ B) (hbB2 : b ≠ B2) (W : World) (S : Nat → Prop) (hk : recB W B r vA vN vC) (lA : Option Addr) (lN lC : Nat) (lv : List GVar) (hc2 : W.cell? ⟨B2, 0, none⟩ = some (.slice lA lN lC)) (hvl : lv.length = lN) (hvb : lN * 48 ≤ 140737488355328) (hv : Row W S 4 lN (.slice lA lN lC) (lv.flatMap GVar.cells)) (hi : i < l.length) (hl : l.length = n) (hg : W.heap[b]? = some (.cells cur 68 (0, 0))) (ht : cur.toList.take (n * 7) = l.flatMap encLst) (hs : n * 7 ≤ cur.size) :
    Calls Tryz.prog 124 (#[.pointer (some ⟨b, i * 7, none⟩)] ++ #[.pointer (some ⟨B, 0, none⟩), .pointer (some ⟨B2, 0, none⟩)]) W fun e w' => e = .returned (.tuple #[]) ∧ ∃ A1 c1, ∃ cur' : Array Value, w'.heap[b]? = some (.cells cur' 68 (0, 0)) ∧ cur'.size = cur.size ∧ cur'.toList.take (n * 7) = (l.set i { l[i] with message := r.key2, vA := A1, vN := lN, vC := c1, vars := lv }).flatMap encLst ∧ Row w' (fun x => W.heap.size ≤ x) 4 lN (.slice A1 lN c1) (lv.flatMap GVar.cells) ∧ Mut (fun x => x = b) W w' := by
  have hin : (i + 1) * 7 ≤ n * 7 := Nat.mul_le_mul_right _ (by omega)
  obtain ⟨u5, hu5⟩ : ∃ u, cur[i * 7 + 5]? = some u := ⟨_, Array.getElem?_eq_getElem (by omega)⟩
  have HU5 := Lib.hid hu5
  obtain ⟨u6, hu6⟩ : ∃ u, cur[i * 7 + 6]? = some u := ⟨_, Array.getElem?_eq_getElem (by omega)⟩
  have HU6 := Lib.hid hu6
  obtain ⟨Ab, cb, heb, hncb, hcmb⟩ := hv.open_
  injection heb with eb1 _ eb3
  subst eb1 eb3
  have k5 := cell_regrown (cell_of_blk hk 5)
  have hd2 : ∀ d, (redrawn W d).cell? ⟨B2, 0, none⟩ = some (.slice lA lN lC) := fun _ => hc2
  have hbB' := Ne.symm hbB
  have hbB2' := Ne.symm hbB2
  have HV := Lib.hid (fun d => vars_c lA lN lC lv (redrawn W d) S hvl hvb (hv.below (below_redrawn W d)))
  have HG := Lib.hid hg
  have HT := Lib.hid ht
  have HI := Lib.hid hi
  have hbl := lt_of_blk hg
  clear hk hc2 hu5 hu6 hg ht hs hin hv hvl
  go_enter Tryz.func124, Tryz.ntmps124
  go_wp2_with fail
  refine wp_region_ord [8,11] (n := 12) (listed := #[false, false, false, false, false, false, false, false, false, false, false, false]) (by kernel_rfl) rfl rfl ?_
  ((refine wpK_pure (fuel := 11) (listed' := #[true, false, false, false, false, false, false, false, false, false, false, false]) 0 rfl (by kernel_rfl) rfl ?_; (first | go_big_quiet_step (fail) | quiet_step (fail)); refine wpQuiet_nil ?_); (refine wpK_pure (fuel := 10) (listed' := #[true, true, false, false, false, false, false, false, false, false, false, false]) 1 rfl (by kernel_rfl) rfl ?_; (first | go_big_quiet_step (fail) | quiet_step (fail)); refine wpQuiet_nil ?_); (refine wpK_pure (fuel := 9) (listed' := #[true, true, true, false, false, false, false, false, false, false, false, false]) 2 rfl (by kernel_rfl) rfl ?_; (first | go_big_quiet_step (fail) | quiet_step (fail)); refine wpQuiet_nil ?_))
  ((refine wpK_read (fuel := 8) (listed' := #[true, true, true, true, false, false, false, false, false, false, false, false]) 3 (by first | exact regrown_first _ _ | exact regrown_self _) rfl (by kernel_rfl) rfl ?_; (first | go_big_quiet_step (fail) | quiet_step (fail)); refine wpQuiet_nil ?_))
  refine wpK_one (fuel := 7) (listed' := #[true, true, true, true, true, false, false, false, false, false, false, false]) 4 rfl (by kernel_rfl) rfl ?_
  go_wp2_with fail
  refine ⟨rfl, fun _ h => h, ?_⟩
  refine wpK_one (fuel := 6) (listed' := #[true, true, true, true, true, true, false, false, false, false, false, false]) 5 rfl (by kernel_rfl) rfl ?_
  go_wp2_with (go_at_call 32; refine (HV.out _).mono ?_; rintro e w1 ⟨A1, c1, rfl, hown, hb⟩; have HO := Lib.hid hown; have HB := Lib.hid (below2 (below_redrawn W (W.drawn + 1)) hb); have HG1 := Lib.hid (block_below (below2 (below_redrawn W (W.drawn + 1)) hb) HG.out); have y5 := (cell_of_blk HG1.out (i * 7 + 5)).trans HU5.out; have f5 := frozen_of_blk HG1.out (i * 7 + 5); have y6 := (cell_of_blk HG1.out (i * 7 + 6)).trans HU6.out; have f6 := frozen_of_blk HG1.out (i * 7 + 6); obtain ⟨_, _, _, hnc1, hcm1⟩ := (Row.of_own hown).open_; clear hown hb)
  refine ⟨rfl, fun _ _ => regrown_of_below HB.out, ?_⟩
  ((refine wpK_pure (fuel := 5) (listed' := #[true, true, true, true, true, true, true, false, false, false, false, false]) 6 rfl (by kernel_rfl) rfl ?_; (first | go_big_quiet_step (fail) | quiet_step (fail)); refine wpQuiet_nil ?_); (refine wpK_pure (fuel := 4) (listed' := #[true, true, true, true, true, true, true, true, false, false, false, false]) 7 rfl (by kernel_rfl) rfl ?_; (first | go_big_quiet_step (fail) | quiet_step (fail)); refine wpQuiet_nil ?_))
  refine wpK_one (fuel := 3) (listed' := #[true, true, true, true, true, true, true, true, true, false, false, false]) 8 rfl (by kernel_rfl) rfl ?_
  go_wp2_with fail
  refine ⟨rfl, fun h => absurd h (by decide), ?_⟩
  ((refine wpK_pure (fuel := 2) (listed' := #[true, true, true, true, true, true, true, true, true, true, false, false]) 9 rfl (by kernel_rfl) rfl ?_; (first | go_big_quiet_step (fail) | quiet_step (fail)); refine wpQuiet_nil ?_); (refine wpK_pure (fuel := 1) (listed' := #[true, true, true, true, true, true, true, true, true, true, true, false]) 10 rfl (by kernel_rfl) rfl ?_; (first | go_big_quiet_step (fail) | quiet_step (fail)); refine wpQuiet_nil ?_))
  refine wpK_one (fuel := 0) (listed' := #[true, true, true, true, true, true, true, true, true, true, true, true]) 11 rfl (by kernel_rfl) rfl ?_
  go_wp2_with fail
  refine ⟨rfl, fun h => absurd h (by decide), ?_⟩
  refine wpK_end rfl ?_
  go_wp2_with fail
  go_end0
  have hm1 : Mut (fun x => x = b) w1 ((w1.setCell ⟨b, i * 7 + 5, none⟩ (.int .u64 r.key2)).setCell ⟨b, i * 7 + 6, none⟩ (.slice A1 lN c1)) := Mut.setCell (T := fun x => x = b) (Mut.setCell (T := fun x => x = b) (Mut.refl _ _) (p := ⟨b, i * 7 + 5, none⟩) (fun _ => rfl) _) (p := ⟨b, i * 7 + 6, none⟩) (fun _ => rfl) _
  have hm : Mut (fun x => x = b) W ((w1.setCell ⟨b, i * 7 + 5, none⟩ (.int .u64 r.key2)).setCell ⟨b, i * 7 + 6, none⟩ (.slice A1 lN c1)) := Mut.setCell (T := fun x => x = b) (Mut.setCell (T := fun x => x = b) (Mut.of_below HB.out _) (p := ⟨b, i * 7 + 5, none⟩) (fun _ => rfl) _) (p := ⟨b, i * 7 + 6, none⟩) (fun _ => rfl) _
  refine ⟨rfl, A1, c1, _, set_blk (o := i * 7 + 6) (set_blk (o := i * 7 + 5) HG1.out (.int .u64 r.key2)) (.slice A1 lN c1), by simp only [Array.size_setIfInBounds], ?_, ?_, hm⟩
  · simp only [Array.toList_setIfInBounds, List.take_set]
    rw [HT.out]
    exact flat_sets (enc := encLst) lenLst HI.out [(5, .int .u64 r.key2), (6, .slice A1 lN c1)] (by intro q hq; simp only [List.mem_cons, List.not_mem_nil, or_false] at hq; rcases hq with rfl | rfl <;> simp) rfl
  · exact ((Row.of_own HO.out).mut (T := fun x => x = b) hm1 (fun x _ hx h => by have h1 : W.heap.size ≤ x := hx.1; omega)).weaken (fun x _ h => h.1)
theorem fin2 {b i n : Nat} {cur : Array Value} {l : List EMsg} {x : EMsg} {q : Int} {W w3 : World} {A1 : Option Addr} {c1 : Nat} {hi : i < l.length} (hx : l[i] = x) (hi2 : i < l.length) (ht : cur.toList.take (n * 7) = l.flatMap encMsg) (hbl : b < W.heap.size) (hB : Below W.heap.size W w3) (hg : w3.heap[b]? = some (.cells cur 64 (0, 0))) (hO : w3.ownsRow W.heap.size 24 1 (.slice A1 (x.iN + 1) c1) (x.iN + 1) (x.insts.flatMap encU64 ++ [.int .u64 q])) :
    (Ending.returned (.tuple #[]) : Ending) = .returned (.tuple #[]) ∧ ∃ A2 c2, ∃ cur' : Array Value, (w3.setCell ⟨b, i * 7 + 6, none⟩ (.slice A1 (x.iN + 1) c1)).heap[b]? = some (.cells cur' 64 (0, 0)) ∧ cur'.size = cur.size ∧ cur'.toList.take (n * 7) = (l.set i { x with iA := A2, iN := x.iN + 1, iC := c2, insts := x.insts ++ [q] }).flatMap encMsg ∧ Row (w3.setCell ⟨b, i * 7 + 6, none⟩ (.slice A1 (x.iN + 1) c1)) (fun x => W.heap.size ≤ x) 1 (x.iN + 1) (.slice A2 (x.iN + 1) c2) ((x.insts ++ [q]).flatMap encU64) ∧ Mut (fun x => x = b) W (w3.setCell ⟨b, i * 7 + 6, none⟩ (.slice A1 (x.iN + 1) c1)) := by
  refine ⟨rfl, A1, c1, _, set_blk (o := i * 7 + 6) hg (.slice A1 (x.iN + 1) c1), by simp only [Array.size_setIfInBounds], ?_, ?_, Mut.setCell (T := fun x => x = b) (Mut.of_below hB _) (p := ⟨b, i * 7 + 6, none⟩) (fun _ => rfl) _⟩
  · simp only [Array.toList_setIfInBounds, List.take_set]
    rw [ht]
    exact flat_sets (enc := encMsg) lenMsg hi2 [(6, .slice A1 (x.iN + 1) c1)] (by intro q hq; simp only [List.mem_cons, List.not_mem_nil, or_false] at hq; rcases hq with rfl <;> simp) (by rw [show l[i]'hi2 = x from hx]; rfl)
  · have e : (x.insts ++ [q]).flatMap encU64 = x.insts.flatMap encU64 ++ [.int .u64 q] := by rw [List.flatMap_append]; rfl
    rw [e]
    exact ((Row.of_own hO).mut (T := fun x => x = b) (Mut.setCell (T := fun x => x = b) (Mut.refl _ _) (p := ⟨b, i * 7 + 6, none⟩) (fun _ => rfl) _) (fun x _ hx h => by have := hx.1; omega)).weaken (fun x _ h => h.1)
set_option maxRecDepth 100000 in
set_option maxHeartbeats 4000000 in
theorem c_sending_2 (b i n : Nat) (cur : Array Value) (l : List EMsg) (B : Nat) (q : Int) (hbB : b ≠ B) (W : World) (S : Nat → Prop) (hq : W.cell? ⟨B, 0, none⟩ = some (.int .u64 q)) (hi : i < l.length) (hl : l.length = n) (hib : (l[i].iN + 1) * 8 ≤ 140737488355328) (hil : l[i].insts.length = l[i].iN) (hir : Row W S 1 l[i].iN (.slice l[i].iA l[i].iN l[i].iC) (l[i].insts.flatMap encU64)) (hg : W.heap[b]? = some (.cells cur 64 (0, 0))) (ht : cur.toList.take (n * 7) = l.flatMap encMsg) (hs : n * 7 ≤ cur.size) :
    Calls Tryz.prog 126 (#[.pointer (some ⟨b, i * 7, none⟩)] ++ #[.pointer (some ⟨B, 0, none⟩)]) W fun e w' => e = .returned (.tuple #[]) ∧ ∃ A1 c1, ∃ cur' : Array Value, w'.heap[b]? = some (.cells cur' 64 (0, 0)) ∧ cur'.size = cur.size ∧ cur'.toList.take (n * 7) = (l.set i { l[i] with iA := A1, iN := l[i].iN + 1, iC := c1, insts := l[i].insts ++ [q] }).flatMap encMsg ∧ Row w' (fun x => W.heap.size ≤ x) 1 (l[i].iN + 1) (.slice A1 (l[i].iN + 1) c1) ((l[i].insts ++ [q]).flatMap encU64) ∧ Mut (fun x => x = b) W w' := by
  have hin : (i + 1) * 7 ≤ n * 7 := Nat.mul_le_mul_right _ (by omega)
  obtain ⟨u6, hu6⟩ : ∃ u, cur[i * 7 + 6]? = some u := ⟨_, Array.getElem?_eq_getElem (by omega)⟩
  have HU6 := Lib.hid hu6
  obtain ⟨i0, z, hi0, hz0, hz1, hz2, hzc⟩ := eU64.hi
  have hx : (l.flatMap encMsg)[i * 7 + 6]? = some (.slice l[i].iA l[i].iN l[i].iC) := (flat_at (enc := encMsg) lenMsg hi 6 (by decide)).trans rfl
  have hu6' : u6 = .slice l[i].iA l[i].iN l[i].iC := by
    rw [← ht, List.getElem?_take, if_pos (by omega), Array.getElem?_toList, hu6] at hx
    exact Option.some.inj hx
  subst hu6'
  have j6 := cell_regrown ((cell_of_blk hg (i * 7 + 6)).trans hu6)
  have jq := cell_regrown hq
  have hbB2 := Ne.symm hbB
  have HG := Lib.hid hg
  have HT := Lib.hid ht
  have HI := Lib.hid hi
  have hbl := lt_of_blk hg
  have HCL := Lib.hid (fun V (hV : Below W.heap.size W V) => clone_U64 l[i].iA l[i].iN l[i].iC l[i].insts V S hil (by omega) (hir.below hV))
  clear hu6 hg ht hs hin hx hir hil hq
  generalize hxx : l[i] = x at *
  have HX := Lib.hid hxx
  clear hxx
  go_enter Tryz.func126, Tryz.ntmps126
  go_wp2_with fail
  refine wp_region_ord [11] (n := 12) (listed := #[false, false, false, false, false, false, false, false, false, false, false, false]) (by kernel_rfl) rfl rfl ?_
  ((refine wpK_pure (fuel := 11) (listed' := #[true, false, false, false, false, false, false, false, false, false, false, false]) 0 rfl (by kernel_rfl) rfl ?_; (first | go_big_quiet_step (fail) | quiet_step (fail)); refine wpQuiet_nil ?_); (refine wpK_pure (fuel := 10) (listed' := #[true, true, false, false, false, false, false, false, false, false, false, false]) 1 rfl (by kernel_rfl) rfl ?_; (first | go_big_quiet_step (fail) | quiet_step (fail)); refine wpQuiet_nil ?_); (refine wpK_pure (fuel := 9) (listed' := #[true, true, true, false, false, false, false, false, false, false, false, false]) 2 rfl (by kernel_rfl) rfl ?_; (first | go_big_quiet_step (fail) | quiet_step (fail)); refine wpQuiet_nil ?_); (refine wpK_pure (fuel := 8) (listed' := #[true, true, true, true, false, false, false, false, false, false, false, false]) 3 rfl (by kernel_rfl) rfl ?_; (first | go_big_quiet_step (fail) | quiet_step (fail)); refine wpQuiet_nil ?_))
  ((refine wpK_read (fuel := 7) (listed' := #[true, true, true, true, true, false, false, false, false, false, false, false]) 4 (by first | exact regrown_first _ _ | exact regrown_self _) rfl (by kernel_rfl) rfl ?_; (first | go_big_quiet_step (fail) | quiet_step (fail)); refine wpQuiet_nil ?_); (refine wpK_read (fuel := 6) (listed' := #[true, true, true, true, true, false, true, false, false, false, false, false]) 6 (by first | exact regrown_first _ _ | exact regrown_self _) rfl (by kernel_rfl) rfl ?_; (first | go_big_quiet_step (fail) | quiet_step (fail)); refine wpQuiet_nil ?_))
  refine wpK_two (fuel := 5) (l1 := #[true, true, true, true, true, true, true, false, false, false, false, false]) (l2 := #[true, true, true, true, true, false, true, true, false, false, false, false]) 5 7 rfl rfl (by kernel_rfl) rfl rfl ?_ ?_
  · go_wp2_with (go_at_call 33; refine (HCL.out _ (below_redrawn W (W.drawn + 1))).mono ?_; rintro e w1 ⟨A0, c0, rfl, hown, hb⟩; have HO := Lib.hid hown; have HB1 := Lib.hid (below2 (below_redrawn W (W.drawn + 1)) hb); obtain ⟨_, _, _, hnc0, hcm0⟩ := (Row.of_own hown).open_; clear hown hb)
    refine ⟨rfl, fun _ _ => regrown_of_below HB1.out, ?_⟩
    refine wpK_one (fuel := 4) (listed' := #[true, true, true, true, true, true, true, true, false, false, false, false]) 7 rfl (by kernel_rfl) rfl ?_
    go_wp2_with fail
    obtain ⟨xb, hxb⟩ : ∃ xb, xb = w1.heap.size := ⟨_, rfl⟩
    rw [← hxb]
    have HB2 : Hid (Below W.heap.size W (w1.alloc (.cells #[.int .u64 q] 24))) := Lib.hid (below_alloc HB1.out _)
    have HO2 : Hid ((w1.alloc (.cells #[.int .u64 q] 24)).ownsRow W.heap.size 24 1 (.slice A0 x.iN c0) x.iN (x.insts.flatMap encU64)) := Lib.hid (HO.out.alloc _)
    have HN2 := Lib.hid (World.news_of_block (cs := #[.int .u64 q]) (t := 24) (fr := (0, 0)) (show (w1.alloc (.cells #[.int .u64 q] 24)).heap[xb]? = _ from blk_new_of _ hxb))
    generalize w1.alloc (.cells #[.int .u64 q] 24) = V2 at *
    refine ⟨rfl, fun _ _ => regrown_of_below HB2.out, ?_⟩
    refine wpK_one (fuel := 3) (listed' := #[true, true, true, true, true, true, true, true, true, false, false, false]) 8 rfl (by kernel_rfl) rfl ?_
    refine wpList_append_own_at _ rfl _ _ 62 rfl W.heap.size 24 i0 z 1 8 eU64.ht hi0 hz0 hz1 hz2 hzc (by omega) _ x.iN (x.insts.flatMap encU64) rfl HO2.out ⟨xb, 0, none⟩ 1 1 [.int .u64 q] rfl rfl HN2.out (by intro u hu; simp only [List.mem_cons, List.not_mem_nil, or_false] at hu; subst hu; rfl) (by simp only [maxLen]; omega) (by omega) (by have := HB2.out.size; omega) ?_
    intro v1 w3 hown hg _ _
    go_wp2_with fail
    have HO3 := Lib.hid hown
    have HB3 := Lib.hid (HB2.out.grown hg HB2.out.size (fun k hk => (HO2.out.lt k hk).1))
    obtain ⟨A1, c1, rfl, hnc1, hcm1⟩ := (Row.of_own hown).open_
    have HG3 := Lib.hid (block_below HB3.out HG.out)
    have y6 := (cell_of_blk HG3.out (i * 7 + 6)).trans HU6.out
    have f6 := frozen_of_blk HG3.out (i * 7 + 6)
    clear hown hg
    refine ⟨rfl, fun _ _ => regrown_of_below HB3.out, ?_⟩
    ((refine wpK_pure (fuel := 2) (listed' := #[true, true, true, true, true, true, true, true, true, true, false, false]) 9 rfl (by kernel_rfl) rfl ?_; (first | go_big_quiet_step (fail) | quiet_step (fail)); refine wpQuiet_nil ?_); (refine wpK_pure (fuel := 1) (listed' := #[true, true, true, true, true, true, true, true, true, true, true, false]) 10 rfl (by kernel_rfl) rfl ?_; (first | go_big_quiet_step (fail) | quiet_step (fail)); refine wpQuiet_nil ?_))
    refine wpK_one (fuel := 0) (listed' := #[true, true, true, true, true, true, true, true, true, true, true, true]) 11 rfl (by kernel_rfl) rfl ?_
    go_wp2_with fail
    refine ⟨rfl, fun h => absurd h (by decide), ?_⟩
    refine wpK_end rfl ?_
    go_wp2_with fail
    go_end0
    obtain ⟨h1, A1', c1', cur', h2, h3, h4, h5, h6⟩ := fin2 HX.out HI.out HT.out hbl HB3.out HG3.out HO3.out
    exact ⟨h1, A1', c1', cur', h2, h3, h4, h5, h6⟩
  · go_wp2_with fail
    generalize hxb : (redrawn W (W.drawn + 1)).heap.size = xb
    have HBV : Hid (Below W.heap.size W ((redrawn W (W.drawn + 1)).alloc (.cells #[.int .u64 q] 24))) := Lib.hid (below_alloc (below_redrawn W _) _)
    have HNV := Lib.hid (show ((redrawn W (W.drawn + 1)).alloc (.cells #[.int .u64 q] 24)).heap[xb]? = _ from blk_new_of _ hxb.symm)
    generalize (redrawn W (W.drawn + 1)).alloc (.cells #[.int .u64 q] 24) = V1 at *
    refine ⟨rfl, fun _ _ => regrown_of_below HBV.out, ?_⟩
    refine wpK_one (fuel := 4) (listed' := #[true, true, true, true, true, true, true, true, false, false, false, false]) 5 rfl (by kernel_rfl) rfl ?_
    go_wp2_with (go_at_call 33; refine (HCL.out _ HBV.out).mono ?_; rintro e V2 ⟨A0, c0, rfl, hown, hb⟩; have HO2 : Hid (V2.ownsRow W.heap.size 24 1 (.slice A0 x.iN c0) x.iN (x.insts.flatMap encU64)) := Lib.hid (own_base hown HBV.out.size); have HB2 := Lib.hid (below2 HBV.out hb); have HN2 := Lib.hid (World.news_of_block (cs := #[.int .u64 q]) (t := 24) (fr := (0, 0)) (block_below hb HNV.out)); obtain ⟨_, _, _, hnc0, hcm0⟩ := (Row.of_own hown).open_; clear hown hb)
    refine ⟨rfl, fun _ _ => regrown_of_below HB2.out, ?_⟩
    refine wpK_one (fuel := 3) (listed' := #[true, true, true, true, true, true, true, true, true, false, false, false]) 8 rfl (by kernel_rfl) rfl ?_
    refine wpList_append_own_at _ rfl _ _ 62 rfl W.heap.size 24 i0 z 1 8 eU64.ht hi0 hz0 hz1 hz2 hzc (by omega) _ x.iN (x.insts.flatMap encU64) rfl HO2.out ⟨xb, 0, none⟩ 1 1 [.int .u64 q] rfl rfl HN2.out (by intro u hu; simp only [List.mem_cons, List.not_mem_nil, or_false] at hu; subst hu; rfl) (by simp only [maxLen]; omega) (by omega) (by have := HB2.out.size; omega) ?_
    intro v1 w3 hown hg _ _
    go_wp2_with fail
    have HO3 := Lib.hid hown
    have HB3 := Lib.hid (HB2.out.grown hg HB2.out.size (fun k hk => (HO2.out.lt k hk).1))
    obtain ⟨A1, c1, rfl, hnc1, hcm1⟩ := (Row.of_own hown).open_
    have HG3 := Lib.hid (block_below HB3.out HG.out)
    have y6 := (cell_of_blk HG3.out (i * 7 + 6)).trans HU6.out
    have f6 := frozen_of_blk HG3.out (i * 7 + 6)
    clear hown hg
    refine ⟨rfl, fun _ _ => regrown_of_below HB3.out, ?_⟩
    ((refine wpK_pure (fuel := 2) (listed' := #[true, true, true, true, true, true, true, true, true, true, false, false]) 9 rfl (by kernel_rfl) rfl ?_; (first | go_big_quiet_step (fail) | quiet_step (fail)); refine wpQuiet_nil ?_); (refine wpK_pure (fuel := 1) (listed' := #[true, true, true, true, true, true, true, true, true, true, true, false]) 10 rfl (by kernel_rfl) rfl ?_; (first | go_big_quiet_step (fail) | quiet_step (fail)); refine wpQuiet_nil ?_))
    refine wpK_one (fuel := 0) (listed' := #[true, true, true, true, true, true, true, true, true, true, true, true]) 11 rfl (by kernel_rfl) rfl ?_
    go_wp2_with fail
    refine ⟨rfl, fun h => absurd h (by decide), ?_⟩
    refine wpK_end rfl ?_
    go_wp2_with fail
    go_end0
    obtain ⟨h1, A1', c1', cur', h2, h3, h4, h5, h6⟩ := fin2 HX.out HI.out HT.out hbl HB3.out HG3.out HO3.out
    exact ⟨h1, A1', c1', cur', h2, h3, h4, h5, h6⟩
end Go.Proofs.YtgpkmellpllmgaaGreat
/-
  fold.missed. Printed by gfold2.py.
-/
set_option linter.unusedVariables false
set_option linter.unusedSimpArgs false
namespace Go.Proofs.YtgpkmellpllmgaaGreat
open Go Go.RowKit Go.Proofs.Base
open Go.Sort (grow)
structure MStage (w W : World) (r : GRec) (vA : Option Addr) (vN vC : Nat) (st : Array Value) : Prop where
  below : Below w.heap.size w W
  k0 : W.heap[w.heap.size]? = some (.cells st 35 (0, 0))
  k1 : recB W (w.heap.size + 1) r vA vN vC
  k2 : W.heap[w.heap.size + 1 + 1]? = some (.cells #[.int .u64 0, .int .u64 0, .int .u64 0, .slice none 0 0, .slice none 0 0, .slice none 0 0, .slice none 0 0, .slice none 0 0, .slice none 0 0, .slice none 0 0, .slice none 0 0, .slice none 0 0] 35 (0, 0))
  far : w.heap.size + 3 ≤ W.heap.size
theorem MStage.more {w W W' : World} {r : GRec} {vA : Option Addr} {vN vC : Nat} {st : Array Value} (h : MStage w W r vA vN vC st) (hb : Below W.heap.size W W') : MStage w W' r vA vN vC st :=
  ⟨below2 h.below hb, block_below hb h.k0, block_below hb h.k1, block_below hb h.k2, Nat.le_trans h.far hb.size⟩
theorem MStage.set {w W : World} {r : GRec} {vA : Option Addr} {vN vC : Nat} {st : Array Value} (h : MStage w W r vA vN vC st) (o : Nat) (u : Value) : MStage w (W.setCell ⟨w.heap.size, o, none⟩ u) r vA vN vC (st.setIfInBounds o u) :=
  ⟨h.below.setCell (p := ⟨w.heap.size, o, none⟩) (Nat.le_refl _) u, set_blk h.k0 u, blk_set_other h.k1 (by omega), blk_set_other h.k2 (by omega), by simpa [World.setCell] using h.far⟩
set_option maxRecDepth 100000 in
set_option maxHeartbeats 4000000 in
theorem ev_missed (Pp Dd Mm : Int) (A3 : Option Addr) (n3 c3 : Nat) (A4 : Option Addr) (n4 c4 : Nat) (A5 : Option Addr) (n5 c5 : Nat) (A6 : Option Addr) (n6 c6 : Nat) (A7 : Option Addr) (n7 c7 : Nat) (A8 : Option Addr) (n8 c8 : Nat) (A9 : Option Addr) (n9 c9 : Nat) (A10 : Option Addr) (n10 c10 : Nat) (A11 : Option Addr) (n11 c11 : Nat) (r : GRec) (vA : Option Addr) (vN vC : Nat) (ll : List ELst) (lm : List EMsg) (w : World) (S : Nat → Prop) (hl10 : ll.length = n10) (hby10 : n10 * 88 ≤ 140737488355328) (hr10 : Row w S 7 n10 (.slice A10 n10 c10) (ll.flatMap encLst)) (hl11 : lm.length = n11) (hby11 : n11 * 112 ≤ 140737488355328) (hr11 : Row w S 7 n11 (.slice A11 n11 c11) (lm.flatMap encMsg)) (hvc : vN ≤ vC) (hvm : vC ≤ 9223372036854775807) (him : ∀ x ∈ lm, x.insts.length = x.iN ∧ x.iN * 8 ≤ 140737488355328 ∧ Row w S 1 x.iN (.slice x.iA x.iN x.iC) (x.insts.flatMap encU64)) :
    Calls Tryz.prog 74 #[.agg #[.int .u64 Pp, .int .u64 Dd, .int .u64 Mm, .slice A3 n3 c3, .slice A4 n4 c4, .slice A5 n5 c5, .slice A6 n6 c6, .slice A7 n7 c7, .slice A8 n8 c8, .slice A9 n9 c9, .slice A10 n10 c10, .slice A11 n11 c11], .agg #[.int .i64 r.cls, .int .i64 r.kind, .int .u64 r.frm, .int .i64 r.time, .int .u64 r.key, .int .u64 r.key2, .int .u64 r.key3, .int .i64 r.n, .int .i64 r.m, .string r.a, .string r.b, .string r.c, .slice vA vN vC]] w fun e w' => ((idxP (fun x : ELst => x.token == r.key && x.node == r.n) ll = -1 ∧ e = .returned (.agg #[.int .u64 Pp, .int .u64 Dd, .int .u64 Mm, .slice A3 n3 c3, .slice A4 n4 c4, .slice A5 n5 c5, .slice A6 n6 c6, .slice A7 n7 c7, .slice A8 n8 c8, .slice A9 n9 c9, .slice A10 n10 c10, .slice A11 n11 c11])) ∨ ∃ i, ∃ hi : i < ll.length, idxP (fun x : ELst => x.token == r.key && x.node == r.n) ll = (i : Int) ∧ ∃ A' Ln c' B' d' lm', e = .returned (.agg #[.int .u64 Pp, .int .u64 Dd, .int .u64 Mm, .slice A3 n3 c3, .slice A4 n4 c4, .slice A5 n5 c5, .slice A6 n6 c6, .slice A7 n7 c7, .slice A8 n8 c8, .slice A9 n9 c9, .slice A' Ln c', .slice B' n11 d']) ∧ Ln = (ll.filter fun x => !(x.token == r.key && x.node == r.n)).length ∧ w'.ownsRow w.heap.size 68 7 (.slice A' Ln c') Ln ((ll.filter fun x => !(x.token == r.key && x.node == r.n)).flatMap encLst) ∧ Row w' (fun b => S b ∨ w.heap.size ≤ b) 7 n11 (.slice B' n11 d') (lm'.flatMap encMsg) ∧ ((idxP (fun x : EMsg => x.key == r.key2) lm = -1 ∧ lm' = lm) ∨ ∃ u, ∃ hu : u < lm.length, ∃ A1 n1 c1, idxP (fun x : EMsg => x.key == r.key2) lm = (u : Int) ∧ n1 = (lm[u].insts.filter fun k => !(k == ll[i].inst)).length ∧ Row w' (fun b => w.heap.size ≤ b) 1 n1 (.slice A1 n1 c1) ((lm[u].insts.filter fun k => !(k == ll[i].inst)).flatMap encU64) ∧ lm' = lm.set u { lm[u] with iA := A1, iN := n1, iC := c1, insts := lm[u].insts.filter fun k => !(k == ll[i].inst) })) ∧ Below w.heap.size w w' := by
  obtain ⟨N, hN⟩ : ∃ N, N = ((w.alloc (.cells #[.int .u64 Pp, .int .u64 Dd, .int .u64 Mm, .slice A3 n3 c3, .slice A4 n4 c4, .slice A5 n5 c5, .slice A6 n6 c6, .slice A7 n7 c7, .slice A8 n8 c8, .slice A9 n9 c9, .slice A10 n10 c10, .slice A11 n11 c11] 35)).alloc (.cells #[.int .i64 r.cls, .int .i64 r.kind, .int .u64 r.frm, .int .i64 r.time, .int .u64 r.key, .int .u64 r.key2, .int .u64 r.key3, .int .i64 r.n, .int .i64 r.m, .string r.a, .string r.b, .string r.c, .slice vA vN vC] 39)).alloc (.cells #[.int .u64 0, .int .u64 0, .int .u64 0, .slice none 0 0, .slice none 0 0, .slice none 0 0, .slice none 0 0, .slice none 0 0, .slice none 0 0, .slice none 0 0, .slice none 0 0, .slice none 0 0] 35) := ⟨_, rfl⟩
  have b0 : N.heap[w.heap.size]? = some (.cells #[.int .u64 Pp, .int .u64 Dd, .int .u64 Mm, .slice A3 n3 c3, .slice A4 n4 c4, .slice A5 n5 c5, .slice A6 n6 c6, .slice A7 n7 c7, .slice A8 n8 c8, .slice A9 n9 c9, .slice A10 n10 c10, .slice A11 n11 c11] 35 (0, 0)) := by rw [hN]; exact blk_alloc (blk_alloc (blk_new _) _) _
  have b1 : recB N (w.heap.size + 1) r vA vN vC := by rw [hN]; exact blk_alloc (blk_new_of _ (by simp)) _
  have b2 : N.heap[w.heap.size + 1 + 1]? = some (.cells #[.int .u64 0, .int .u64 0, .int .u64 0, .slice none 0 0, .slice none 0 0, .slice none 0 0, .slice none 0 0, .slice none 0 0, .slice none 0 0, .slice none 0 0, .slice none 0 0, .slice none 0 0] 35 (0, 0)) := by rw [hN]; exact blk_new_of _ (by simp)
  have hB : Below w.heap.size w N := by rw [hN]; exact below_alloc (below_alloc (below_alloc (Below.refl _ _) _) _) _
  have hsz : N.heap.size = w.heap.size + 3 := by rw [hN]; simp
  have HN := Lib.hid hN
  have HB := Lib.hid hB
  have HSZ := Lib.hid hsz
  have K0 := Lib.hid b0
  have K1 := Lib.hid b1
  have K2 := Lib.hid b2
  have hst : MStage w N r vA vN vC #[.int .u64 Pp, .int .u64 Dd, .int .u64 Mm, .slice A3 n3 c3, .slice A4 n4 c4, .slice A5 n5 c5, .slice A6 n6 c6, .slice A7 n7 c7, .slice A8 n8 c8, .slice A9 n9 c9, .slice A10 n10 c10, .slice A11 n11 c11] := ⟨hB, b0, b1, b2, by omega⟩
  have HST := Lib.hid hst
  have hr10s := hr10.weaken (S' := fun b => S b ∧ b < w.heap.size) (fun b hb h => ⟨h, hb⟩)
  have hr11s := hr11.weaken (S' := fun b => S b ∧ b < w.heap.size) (fun b hb h => ⟨h, hb⟩)
  have egl : ∀ args w, (callFunc 181 args).run Tryz.prog w = .ok (.enter 181 args) w := enters_of Tryz.func181 (by kernel_rfl) rfl
  have egm : ∀ args w, (callFunc 182 args).run Tryz.prog w = .ok (.enter 182 args) w := enters_of Tryz.func182 (by kernel_rfl) rfl
  have eg1 : ∀ args w, (callFunc 128 args).run Tryz.prog w = .ok (.enter 128 args) w := enters_of Tryz.func128 (by kernel_rfl) rfl
  have HIX := Lib.hid (fun W bq (hW : Below w.heap.size w W) (hq : recB W bq r vA vN vC) => idx_Lst A10 n10 c10 181 #[.pointer (some ⟨bq, 0, none⟩)] ll (fun x : ELst => x.token == r.key && x.node == r.n) W W (fun b => S b ∧ b < w.heap.size) egl hl10 (hr10s.below hW) (Below.refl _ _) (fun V hV x _ => p_ofListed_1 _ x r vA vN vC V (block_below hV hq)))
  have HWO := Lib.hid (fun W bq (hW : Below w.heap.size w W) (hq : recB W bq r vA vN vC) => without_Lst A10 n10 c10 181 #[.pointer (some ⟨bq, 0, none⟩)] ll (fun x : ELst => x.token == r.key && x.node == r.n) W (fun b => S b ∧ b < w.heap.size) egl hl10 hby10 (hr10s.below hW) (fun V hV x _ => p_ofListed_1 _ x r vA vN vC V (block_below hV hq)))
  have HCH := Lib.hid (fun W bq xb q (hW : Below w.heap.size w W) (hq : recB W bq r vA vN vC) (hxb : xb < W.heap.size) (hx : W.cell? ⟨xb, 0, none⟩ = some (.int .u64 q)) => change_Msg A11 n11 c11 182 128 #[.pointer (some ⟨bq, 0, none⟩)] #[.pointer (some ⟨xb, 0, none⟩)] lm (fun x : EMsg => x.key == r.key2) (fun W' x y => ∃ A1 n1 c1, n1 = (x.insts.filter fun k => !(k == q)).length ∧ y = { x with iA := A1, iN := n1, iC := c1, insts := x.insts.filter fun k => !(k == q) } ∧ Row W' (fun b => W.heap.size ≤ b) 1 n1 (.slice A1 n1 c1) ((x.insts.filter fun k => !(k == q)).flatMap encU64)) W (fun b => S b ∧ b < w.heap.size) egm eg1 hl11 hby11 (hr11s.below hW)
    (fun V hV x _ => p_ofMessage_1 _ x r vA vN vC V (block_below hV hq))
    (fun V b cur i hi hV hwb hg ht hs => (c_missed_1 b i n11 cur lm xb q (by omega) V S (cell_below hV hx) hi hl11 (him _ (List.getElem_mem hi)).2.1 (him _ (List.getElem_mem hi)).1 ((him _ (List.getElem_mem hi)).2.2.below (below2 hW hV)) hg ht hs).mono (fun e w' ⟨he, A1, n1, c1, cur', h0, h1, h2, h3, h4, hm⟩ => ⟨he, _, cur', ⟨A1, n1, c1, h0, rfl, h4.weaken (fun x _ hx => Nat.le_trans hV.size hx)⟩, h1, h2, h3, below_mut hV hm (fun b' hb' => hb' ▸ hwb)⟩)))
  have HMK := Lib.hid (fun W => mk_ofListed r vA vN vC W hvc hvm)
  have HMM := Lib.hid (fun W => mk_ofMessage r vA vN vC W hvc hvm)
  have HR10 := Lib.hid hr10s
  have HR11 := Lib.hid hr11s
  have HL10 := Lib.hid hl10
  have HL11 := Lib.hid hl11
  obtain ⟨X10, y10, hx10, hnc10, hcm10⟩ := hr10.open_
  injection hx10 with hxa _ hxb
  subst hxa hxb
  obtain ⟨X11, y11, hx11, hnc11, hcm11⟩ := hr11.open_
  injection hx11 with hxa _ hxb
  subst hxa hxb
  clear hN hB hsz b0 b1 b2 hst hr10 hr11 hr10s hr11s hl10 hl11 hby10 hby11 him egl egm eg1 HB HSZ K0 K1 K2
  have k0 := HST.out.k0
  have k1 := HST.out.k1
  rcases idxP_spec (fun x : ELst => x.token == r.key && x.node == r.n) ll with ⟨h1, -⟩ | ⟨j, hj, h1, -, -⟩
  · go_enter Tryz.func74, Tryz.ntmps74
    go_wp2_with fail
    rw [show ((w.alloc (.cells #[.int .u64 Pp, .int .u64 Dd, .int .u64 Mm, .slice A3 n3 c3, .slice A4 n4 c4, .slice A5 n5 c5, .slice A6 n6 c6, .slice A7 n7 c7, .slice A8 n8 c8, .slice A9 n9 c9, .slice A10 n10 c10, .slice A11 n11 c11] 35)).alloc (.cells #[.int .i64 r.cls, .int .i64 r.kind, .int .u64 r.frm, .int .i64 r.time, .int .u64 r.key, .int .u64 r.key2, .int .u64 r.key3, .int .i64 r.n, .int .i64 r.m, .string r.a, .string r.b, .string r.c, .slice vA vN vC] 39)).alloc (.cells #[.int .u64 0, .int .u64 0, .int .u64 0, .slice none 0 0, .slice none 0 0, .slice none 0 0, .slice none 0 0, .slice none 0 0, .slice none 0 0, .slice none 0 0, .slice none 0 0, .slice none 0 0] 35) = N from HN.out.symm]
    clear HN
    have s10 := cell_regrown (cell_of_blk k0 10)
    have q0 := cell_regrown (cell_of_blk k1 0)
    have q1 := cell_regrown (cell_of_blk k1 1)
    have q2 := cell_regrown (cell_of_blk k1 2)
    have q3 := cell_regrown (cell_of_blk k1 3)
    have q4 := cell_regrown (cell_of_blk k1 4)
    have q5 := cell_regrown (cell_of_blk k1 5)
    have q6 := cell_regrown (cell_of_blk k1 6)
    have q7 := cell_regrown (cell_of_blk k1 7)
    have q8 := cell_regrown (cell_of_blk k1 8)
    have q9 := cell_regrown (cell_of_blk k1 9)
    have q10 := cell_regrown (cell_of_blk k1 10)
    have q11 := cell_regrown (cell_of_blk k1 11)
    have q12 := cell_regrown (cell_of_blk k1 12)
    clear k0 k1
    refine wp_region_ord [] (n := 6) (listed := #[false, false, false, false, false, false]) (by kernel_rfl) rfl rfl ?_
    ((refine wpK_pure (fuel := 5) (listed' := #[true, false, false, false, false, false]) 0 rfl (by kernel_rfl) rfl ?_; (first | go_big_quiet_step (fail) | quiet_step (fail)); refine wpQuiet_nil ?_))
    ((refine wpK_read (fuel := 4) (listed' := #[true, true, false, false, false, false]) 1 (by first | exact regrown_first _ _ | exact regrown_self _) rfl (by kernel_rfl) rfl ?_; (first | go_big_quiet_step (fail) | quiet_step (fail)); refine wpQuiet_nil ?_); (refine wpK_read (fuel := 3) (listed' := #[true, true, true, false, false, false]) 2 (by first | exact regrown_first _ _ | exact regrown_self _) rfl (by kernel_rfl) rfl ?_; (first | go_big_quiet_step (fail) | quiet_step (fail)); refine wpQuiet_nil ?_))
    refine wpK_one (fuel := 2) (listed' := #[true, true, true, true, false, false]) 3 rfl (by kernel_rfl) rfl ?_
    go_wp2_with (go_at_call 120; refine (HMK.out _).mono ?_; rintro e w0 ⟨rfl, hq, hb⟩; have HQ := Lib.hid hq; have HB1 := Lib.hid (below2 (below_redrawn N (N.drawn + 1)) hb); clear hq hb)
    refine ⟨rfl, fun _ _ => regrown_of_below HB1.out, ?_⟩
    refine wpK_one (fuel := 1) (listed' := #[true, true, true, true, true, false]) 4 rfl (by kernel_rfl) rfl ?_
    go_wp2_with fail
    refine (HIX.out w0 _ (below2 HST.out.below HB1.out) HQ.out).mono ?_
    rintro e w1 ⟨rfl, hb⟩
    rw [h1]
    have HST1 := Lib.hid (HST.out.more (below2 HB1.out hb))
    have HB2 := Lib.hid (below2 HB1.out hb)
    clear hb s10 q0 q1 q2 q3 q4 q5 q6 q7 q8 q9 q10 q11 q12
    go_wp2_with fail
    refine ⟨rfl, fun _ _ => regrown_of_below HB2.out, ?_⟩
    refine wpK_one (fuel := 0) (listed' := #[true, true, true, true, true, true]) 5 rfl (by kernel_rfl) rfl ?_
    go_wp2_with fail
    refine ⟨rfl, fun _ h => h, ?_⟩
    refine wpK_end rfl ?_
    clear HB1 HB2 HQ HST HIX
    have k0 := HST1.out.k0
    have k2 := HST1.out.k2
    have KZ := Lib.hid k2
    have HWB := Lib.hid HST1.out.below
    have s0 := cell_of_blk k0 0
    have s1 := cell_of_blk k0 1
    have s2 := cell_of_blk k0 2
    have s3 := cell_of_blk k0 3
    have s4 := cell_of_blk k0 4
    have s5 := cell_of_blk k0 5
    have s6 := cell_of_blk k0 6
    have s7 := cell_of_blk k0 7
    have s8 := cell_of_blk k0 8
    have s9 := cell_of_blk k0 9
    have s10 := cell_of_blk k0 10
    have s11 := cell_of_blk k0 11
    have f0 := frozen_of_blk k0 0
    have f1 := frozen_of_blk k0 1
    have f2 := frozen_of_blk k0 2
    have f3 := frozen_of_blk k0 3
    have f4 := frozen_of_blk k0 4
    have f5 := frozen_of_blk k0 5
    have f6 := frozen_of_blk k0 6
    have f7 := frozen_of_blk k0 7
    have f8 := frozen_of_blk k0 8
    have f9 := frozen_of_blk k0 9
    have f10 := frozen_of_blk k0 10
    have f11 := frozen_of_blk k0 11
    have z0 := cell_of_blk k2 0
    have z1 := cell_of_blk k2 1
    have z2 := cell_of_blk k2 2
    have z3 := cell_of_blk k2 3
    have z4 := cell_of_blk k2 4
    have z5 := cell_of_blk k2 5
    have z6 := cell_of_blk k2 6
    have z7 := cell_of_blk k2 7
    have z8 := cell_of_blk k2 8
    have z9 := cell_of_blk k2 9
    have z10 := cell_of_blk k2 10
    have z11 := cell_of_blk k2 11
    have g0 := frozen_of_blk k2 0
    have g1 := frozen_of_blk k2 1
    have g2 := frozen_of_blk k2 2
    have g3 := frozen_of_blk k2 3
    have g4 := frozen_of_blk k2 4
    have g5 := frozen_of_blk k2 5
    have g6 := frozen_of_blk k2 6
    have g7 := frozen_of_blk k2 7
    have g8 := frozen_of_blk k2 8
    have g9 := frozen_of_blk k2 9
    have g10 := frozen_of_blk k2 10
    have g11 := frozen_of_blk k2 11
    clear k0 k2
    go_wp2_with fail
    generalize hWE : World.setCell (World.setCell (World.setCell (World.setCell (World.setCell (World.setCell (World.setCell (World.setCell (World.setCell (World.setCell (World.setCell (World.setCell (_) _ _) _ _) _ _) _ _) _ _) _ _) _ _) _ _) _ _) _ _) _ _) _ _ = WE
    have ho : WE.heap[w.heap.size + 1 + 1]? = some (.cells #[.int .u64 Pp, .int .u64 Dd, .int .u64 Mm, .slice A3 n3 c3, .slice A4 n4 c4, .slice A5 n5 c5, .slice A6 n6 c6, .slice A7 n7 c7, .slice A8 n8 c8, .slice A9 n9 c9, .slice A10 n10 c10, .slice A11 n11 c11] 35 (0, 0)) := by rw [← hWE]; exact set_blk12 (KZ.out) (.int .u64 Pp) (.int .u64 Dd) (.int .u64 Mm) (.slice A3 n3 c3) (.slice A4 n4 c4) (.slice A5 n5 c5) (.slice A6 n6 c6) (.slice A7 n7 c7) (.slice A8 n8 c8) (.slice A9 n9 c9) (.slice A10 n10 c10) (.slice A11 n11 c11)
    have hbe : Below w.heap.size w WE := by rw [← hWE]; exact ((((((((((((HWB.out).setCell (p := ⟨w.heap.size + 1 + 1, 0, none⟩) (by show _ ≤ _ + 1 + 1; omega) _).setCell (p := ⟨w.heap.size + 1 + 1, 1, none⟩) (by show _ ≤ _ + 1 + 1; omega) _).setCell (p := ⟨w.heap.size + 1 + 1, 2, none⟩) (by show _ ≤ _ + 1 + 1; omega) _).setCell (p := ⟨w.heap.size + 1 + 1, 3, none⟩) (by show _ ≤ _ + 1 + 1; omega) _).setCell (p := ⟨w.heap.size + 1 + 1, 4, none⟩) (by show _ ≤ _ + 1 + 1; omega) _).setCell (p := ⟨w.heap.size + 1 + 1, 5, none⟩) (by show _ ≤ _ + 1 + 1; omega) _).setCell (p := ⟨w.heap.size + 1 + 1, 6, none⟩) (by show _ ≤ _ + 1 + 1; omega) _).setCell (p := ⟨w.heap.size + 1 + 1, 7, none⟩) (by show _ ≤ _ + 1 + 1; omega) _).setCell (p := ⟨w.heap.size + 1 + 1, 8, none⟩) (by show _ ≤ _ + 1 + 1; omega) _).setCell (p := ⟨w.heap.size + 1 + 1, 9, none⟩) (by show _ ≤ _ + 1 + 1; omega) _).setCell (p := ⟨w.heap.size + 1 + 1, 10, none⟩) (by show _ ≤ _ + 1 + 1; omega) _).setCell (p := ⟨w.heap.size + 1 + 1, 11, none⟩) (by show _ ≤ _ + 1 + 1; omega) _
    have hmu : Mut (fun b => b = w.heap.size ∨ b = w.heap.size + 1 + 1) w1 WE := by
      rw [← hWE]
      exact Mut.setCell (T := fun b => b = w.heap.size ∨ b = w.heap.size + 1 + 1) (Mut.setCell (T := fun b => b = w.heap.size ∨ b = w.heap.size + 1 + 1) (Mut.setCell (T := fun b => b = w.heap.size ∨ b = w.heap.size + 1 + 1) (Mut.setCell (T := fun b => b = w.heap.size ∨ b = w.heap.size + 1 + 1) (Mut.setCell (T := fun b => b = w.heap.size ∨ b = w.heap.size + 1 + 1) (Mut.setCell (T := fun b => b = w.heap.size ∨ b = w.heap.size + 1 + 1) (Mut.setCell (T := fun b => b = w.heap.size ∨ b = w.heap.size + 1 + 1) (Mut.setCell (T := fun b => b = w.heap.size ∨ b = w.heap.size + 1 + 1) (Mut.setCell (T := fun b => b = w.heap.size ∨ b = w.heap.size + 1 + 1) (Mut.setCell (T := fun b => b = w.heap.size ∨ b = w.heap.size + 1 + 1) (Mut.setCell (T := fun b => b = w.heap.size ∨ b = w.heap.size + 1 + 1) (Mut.setCell (T := fun b => b = w.heap.size ∨ b = w.heap.size + 1 + 1) (Mut.refl _ _) (p := ⟨w.heap.size + 1 + 1, 0, none⟩) (fun _ => .inr rfl) _) (p := ⟨w.heap.size + 1 + 1, 1, none⟩) (fun _ => .inr rfl) _) (p := ⟨w.heap.size + 1 + 1, 2, none⟩) (fun _ => .inr rfl) _) (p := ⟨w.heap.size + 1 + 1, 3, none⟩) (fun _ => .inr rfl) _) (p := ⟨w.heap.size + 1 + 1, 4, none⟩) (fun _ => .inr rfl) _) (p := ⟨w.heap.size + 1 + 1, 5, none⟩) (fun _ => .inr rfl) _) (p := ⟨w.heap.size + 1 + 1, 6, none⟩) (fun _ => .inr rfl) _) (p := ⟨w.heap.size + 1 + 1, 7, none⟩) (fun _ => .inr rfl) _) (p := ⟨w.heap.size + 1 + 1, 8, none⟩) (fun _ => .inr rfl) _) (p := ⟨w.heap.size + 1 + 1, 9, none⟩) (fun _ => .inr rfl) _) (p := ⟨w.heap.size + 1 + 1, 10, none⟩) (fun _ => .inr rfl) _) (p := ⟨w.heap.size + 1 + 1, 11, none⟩) (fun _ => .inr rfl) _
    have r0 := cell_of_blk ho 0
    have r1 := cell_of_blk ho 1
    have r2 := cell_of_blk ho 2
    have r3 := cell_of_blk ho 3
    have r4 := cell_of_blk ho 4
    have r5 := cell_of_blk ho 5
    have r6 := cell_of_blk ho 6
    have r7 := cell_of_blk ho 7
    have r8 := cell_of_blk ho 8
    have r9 := cell_of_blk ho 9
    have r10 := cell_of_blk ho 10
    have r11 := cell_of_blk ho 11
    refine bodyPost_ret (v := .agg #[.int .u64 Pp, .int .u64 Dd, .int .u64 Mm, .slice A3 n3 c3, .slice A4 n4 c4, .slice A5 n5 c5, .slice A6 n6 c6, .slice A7 n7 c7, .slice A8 n8 c8, .slice A9 n9 c9, .slice A10 n10 c10, .slice A11 n11 c11]) (by simp [results, Tryz.results74, go_sem, r0, r1, r2, r3, r4, r5, r6, r7, r8, r9, r10, r11]) rfl ⟨.inl ⟨h1, rfl⟩, hbe⟩
  · have HJ := Lib.hid hj
    have hjn : j < n10 := by have := HL10.out; omega
    have hj0 : ¬ ((j : Int) < 0) := by omega
    obtain ⟨b, o, hA, _, hlt, hc⟩ := HR10.out.at_ (by omega)
    have HA := Lib.hid hA
    have c1 : w.cell? ⟨b, o + j * 7 + 1, none⟩ = some (.int .u64 ll[j].inst) := hc j 1 _ ((flat_at (enc := encLst) lenLst hj 1 (by decide)).trans rfl)
    have C1 := Lib.hid c1
    have HLT := Lib.hid hlt
    clear c1 hc hlt hj hA
    go_enter Tryz.func74, Tryz.ntmps74
    go_wp2_with fail
    rw [show ((w.alloc (.cells #[.int .u64 Pp, .int .u64 Dd, .int .u64 Mm, .slice A3 n3 c3, .slice A4 n4 c4, .slice A5 n5 c5, .slice A6 n6 c6, .slice A7 n7 c7, .slice A8 n8 c8, .slice A9 n9 c9, .slice A10 n10 c10, .slice A11 n11 c11] 35)).alloc (.cells #[.int .i64 r.cls, .int .i64 r.kind, .int .u64 r.frm, .int .i64 r.time, .int .u64 r.key, .int .u64 r.key2, .int .u64 r.key3, .int .i64 r.n, .int .i64 r.m, .string r.a, .string r.b, .string r.c, .slice vA vN vC] 39)).alloc (.cells #[.int .u64 0, .int .u64 0, .int .u64 0, .slice none 0 0, .slice none 0 0, .slice none 0 0, .slice none 0 0, .slice none 0 0, .slice none 0 0, .slice none 0 0, .slice none 0 0, .slice none 0 0] 35) = N from HN.out.symm]
    clear HN
    have s10 := cell_regrown (cell_of_blk k0 10)
    have q0 := cell_regrown (cell_of_blk k1 0)
    have q1 := cell_regrown (cell_of_blk k1 1)
    have q2 := cell_regrown (cell_of_blk k1 2)
    have q3 := cell_regrown (cell_of_blk k1 3)
    have q4 := cell_regrown (cell_of_blk k1 4)
    have q5 := cell_regrown (cell_of_blk k1 5)
    have q6 := cell_regrown (cell_of_blk k1 6)
    have q7 := cell_regrown (cell_of_blk k1 7)
    have q8 := cell_regrown (cell_of_blk k1 8)
    have q9 := cell_regrown (cell_of_blk k1 9)
    have q10 := cell_regrown (cell_of_blk k1 10)
    have q11 := cell_regrown (cell_of_blk k1 11)
    have q12 := cell_regrown (cell_of_blk k1 12)
    clear k0 k1
    refine wp_region_ord [] (n := 6) (listed := #[false, false, false, false, false, false]) (by kernel_rfl) rfl rfl ?_
    ((refine wpK_pure (fuel := 5) (listed' := #[true, false, false, false, false, false]) 0 rfl (by kernel_rfl) rfl ?_; (first | go_big_quiet_step (fail) | quiet_step (fail)); refine wpQuiet_nil ?_))
    ((refine wpK_read (fuel := 4) (listed' := #[true, true, false, false, false, false]) 1 (by first | exact regrown_first _ _ | exact regrown_self _) rfl (by kernel_rfl) rfl ?_; (first | go_big_quiet_step (fail) | quiet_step (fail)); refine wpQuiet_nil ?_); (refine wpK_read (fuel := 3) (listed' := #[true, true, true, false, false, false]) 2 (by first | exact regrown_first _ _ | exact regrown_self _) rfl (by kernel_rfl) rfl ?_; (first | go_big_quiet_step (fail) | quiet_step (fail)); refine wpQuiet_nil ?_))
    refine wpK_one (fuel := 2) (listed' := #[true, true, true, true, false, false]) 3 rfl (by kernel_rfl) rfl ?_
    go_wp2_with (go_at_call 120; refine (HMK.out _).mono ?_; rintro e w0 ⟨rfl, hq, hb⟩; have HQ := Lib.hid hq; have HB1 := Lib.hid (below2 (below_redrawn N (N.drawn + 1)) hb); clear hq hb)
    refine ⟨rfl, fun _ _ => regrown_of_below HB1.out, ?_⟩
    refine wpK_one (fuel := 1) (listed' := #[true, true, true, true, true, false]) 4 rfl (by kernel_rfl) rfl ?_
    go_wp2_with fail
    refine (HIX.out w0 _ (below2 HST.out.below HB1.out) HQ.out).mono ?_
    rintro e w1 ⟨rfl, hb⟩
    rw [h1]
    have HST1 := Lib.hid (HST.out.more (below2 HB1.out hb))
    have HB2 := Lib.hid (below2 HB1.out hb)
    clear hb s10 q0 q1 q2 q3 q4 q5 q6 q7 q8 q9 q10 q11 q12
    go_wp2_with fail
    refine ⟨rfl, fun _ _ => regrown_of_below HB2.out, ?_⟩
    refine wpK_one (fuel := 0) (listed' := #[true, true, true, true, true, true]) 5 rfl (by kernel_rfl) rfl ?_
    go_wp2_with fail
    refine ⟨rfl, fun _ h => h, ?_⟩
    refine wpK_end rfl ?_
    clear HB1 HB2 HQ HST HIX
    have k0 := HST1.out.k0
    have s10 := cell_of_blk k0 10
    rw [HA.out] at s10
    have c1 := (HST1.out.below.cell (p := ⟨b, o + j * 7 + 1, none⟩) HLT.out).trans C1.out
    clear k0 C1 HLT
    generalize hxx : ll[j]'HJ.out = x at *
    have HX := Lib.hid hxx
    clear hxx
    go_wp2_with fail
    obtain ⟨xb, hxb⟩ : ∃ xb, xb = w1.heap.size := ⟨_, rfl⟩
    rw [← hxb]
    have HXB : Hid ((w1.alloc (.cells #[.int .u64 x.inst] 24)).heap[xb]? = some (.cells #[.int .u64 x.inst] 24 (0, 0))) := Lib.hid (blk_new_of _ hxb)
    have HSTV := Lib.hid (HST1.out.more (below_alloc (Below.refl _ _) (.cells #[.int .u64 x.inst] 24)))
    have HFX : Hid (w.heap.size + 3 ≤ xb) := Lib.hid (by have := HST1.out.far; omega)
    clear s10 c1 HST1 hxb
    generalize w1.alloc (.cells #[.int .u64 x.inst] 24) = V at *
    have k0 := HSTV.out.k0
    have k1 := HSTV.out.k1
    have s10 := cell_regrown (cell_of_blk k0 10)
    have q0 := cell_regrown (cell_of_blk k1 0)
    have q1 := cell_regrown (cell_of_blk k1 1)
    have q2 := cell_regrown (cell_of_blk k1 2)
    have q3 := cell_regrown (cell_of_blk k1 3)
    have q4 := cell_regrown (cell_of_blk k1 4)
    have q5 := cell_regrown (cell_of_blk k1 5)
    have q6 := cell_regrown (cell_of_blk k1 6)
    have q7 := cell_regrown (cell_of_blk k1 7)
    have q8 := cell_regrown (cell_of_blk k1 8)
    have q9 := cell_regrown (cell_of_blk k1 9)
    have q10 := cell_regrown (cell_of_blk k1 10)
    have q11 := cell_regrown (cell_of_blk k1 11)
    have q12 := cell_regrown (cell_of_blk k1 12)
    clear k0 k1
    refine wp_region_ord [6] (n := 7) (listed := #[false, false, false, false, false, false, false]) (by kernel_rfl) rfl rfl ?_
    ((refine wpK_pure (fuel := 6) (listed' := #[true, false, false, false, false, false, false]) 0 rfl (by kernel_rfl) rfl ?_; (first | go_big_quiet_step (fail) | quiet_step (fail)); refine wpQuiet_nil ?_))
    ((refine wpK_read (fuel := 5) (listed' := #[true, true, false, false, false, false, false]) 1 (by first | exact regrown_first _ _ | exact regrown_self _) rfl (by kernel_rfl) rfl ?_; (first | go_big_quiet_step (fail) | quiet_step (fail)); refine wpQuiet_nil ?_); (refine wpK_read (fuel := 4) (listed' := #[true, true, true, false, false, false, false]) 2 (by first | exact regrown_first _ _ | exact regrown_self _) rfl (by kernel_rfl) rfl ?_; (first | go_big_quiet_step (fail) | quiet_step (fail)); refine wpQuiet_nil ?_))
    refine wpK_one (fuel := 3) (listed' := #[true, true, true, true, false, false, false]) 3 rfl (by kernel_rfl) rfl ?_
    go_wp2_with (go_at_call 120; refine (HMK.out _).mono ?_; rintro e w2 ⟨rfl, hq, hb⟩; have HQ := Lib.hid hq; have HB1 := Lib.hid (below2 (below_redrawn V (V.drawn + 1)) hb); clear hq hb)
    refine ⟨rfl, fun _ _ => regrown_of_below HB1.out, ?_⟩
    refine wpK_one (fuel := 2) (listed' := #[true, true, true, true, true, false, false]) 4 rfl (by kernel_rfl) rfl ?_
    go_wp2_with fail
    refine (HWO.out w2 _ (below2 HSTV.out.below HB1.out) HQ.out).mono ?_
    rintro e w3 ⟨A', c', rfl, hown, hb⟩
    generalize hLn : (ll.filter fun x => !(x.token == r.key && x.node == r.n)).length = Ln at *
    have HLN := Lib.hid hLn
    have HO := Lib.hid hown
    obtain ⟨_, _, _, hnw, hcw⟩ := (Row.of_own hown).open_
    have HB2 := Lib.hid (below2 HB1.out hb)
    have HST3 := Lib.hid (HSTV.out.more (below2 HB1.out hb))
    have HXB3 := Lib.hid (block_below (below2 HB1.out hb) HXB.out)
    have HW2 : Hid (w.heap.size + 3 ≤ w2.heap.size) := Lib.hid (by have := HB1.out.size; have := HSTV.out.far; omega)
    clear hLn hown hb s10 q0 q1 q2 q3 q4 q5 q6 q7 q8 q9 q10 q11 q12
    have k0 := HST3.out.k0
    have s10 := cell_of_blk k0 10
    have f10 := frozen_of_blk k0 10
    clear k0
    go_wp2_with fail
    refine ⟨rfl, fun _ _ => regrown_of_below HB2.out, ?_⟩
    ((refine wpK_pure (fuel := 1) (listed' := #[true, true, true, true, true, true, false]) 5 rfl (by kernel_rfl) rfl ?_; (first | go_big_quiet_step (fail) | quiet_step (fail)); refine wpQuiet_nil ?_))
    refine wpK_one (fuel := 0) (listed' := #[true, true, true, true, true, true, true]) 6 rfl (by kernel_rfl) rfl ?_
    go_wp2_with fail
    refine ⟨rfl, fun h => absurd h (by decide), ?_⟩
    refine wpK_end rfl ?_
    go_wp2_with fail
    have HSTU : Hid (MStage w (w3.setCell ⟨w.heap.size, 10, none⟩ (.slice A' Ln c')) r vA vN vC #[.int .u64 Pp, .int .u64 Dd, .int .u64 Mm, .slice A3 n3 c3, .slice A4 n4 c4, .slice A5 n5 c5, .slice A6 n6 c6, .slice A7 n7 c7, .slice A8 n8 c8, .slice A9 n9 c9, .slice A' Ln c', .slice A11 n11 c11]) := Lib.hid (HST3.out.set 10 (.slice A' Ln c'))
    have HXBU := Lib.hid (blk_set_other (b := w.heap.size) (o := 10) (u := .slice A' Ln c') HXB3.out (by have := HFX.out; omega))
    have HOU := Lib.hid (own_mut HO.out (Mut.setCell (T := fun b => b = w.heap.size) (Mut.refl _ _) (p := ⟨w.heap.size, 10, none⟩) (fun _ => rfl) (.slice A' Ln c')) (fun b hb h => by have := (HO.out.lt b hb).1; have := HW2.out; omega))
    clear s10 f10 HST3 HXB3 HO HB2 HB1 HQ HSTV HXB
    generalize w3.setCell ⟨w.heap.size, 10, none⟩ (.slice A' Ln c') = U at *
    have k0 := HSTU.out.k0
    have k1 := HSTU.out.k1
    have s11 := cell_regrown (cell_of_blk k0 11)
    have q0 := cell_regrown (cell_of_blk k1 0)
    have q1 := cell_regrown (cell_of_blk k1 1)
    have q2 := cell_regrown (cell_of_blk k1 2)
    have q3 := cell_regrown (cell_of_blk k1 3)
    have q4 := cell_regrown (cell_of_blk k1 4)
    have q5 := cell_regrown (cell_of_blk k1 5)
    have q6 := cell_regrown (cell_of_blk k1 6)
    have q7 := cell_regrown (cell_of_blk k1 7)
    have q8 := cell_regrown (cell_of_blk k1 8)
    have q9 := cell_regrown (cell_of_blk k1 9)
    have q10 := cell_regrown (cell_of_blk k1 10)
    have q11 := cell_regrown (cell_of_blk k1 11)
    have q12 := cell_regrown (cell_of_blk k1 12)
    clear k0 k1
    refine wp_region_ord [7] (n := 8) (listed := #[false, false, false, false, false, false, false, false]) (by kernel_rfl) rfl rfl ?_
    ((refine wpK_pure (fuel := 7) (listed' := #[true, false, false, false, false, false, false, false]) 0 rfl (by kernel_rfl) rfl ?_; (first | go_big_quiet_step (fail) | quiet_step (fail)); refine wpQuiet_nil ?_); (refine wpK_pure (fuel := 6) (listed' := #[true, false, false, false, true, false, false, false]) 4 rfl (by kernel_rfl) rfl ?_; (first | go_big_quiet_step (fail) | quiet_step (fail)); refine wpQuiet_nil ?_))
    ((refine wpK_read (fuel := 5) (listed' := #[true, true, false, false, true, false, false, false]) 1 (by first | exact regrown_first _ _ | exact regrown_self _) rfl (by kernel_rfl) rfl ?_; (first | go_big_quiet_step (fail) | quiet_step (fail)); refine wpQuiet_nil ?_); (refine wpK_read (fuel := 4) (listed' := #[true, true, true, false, true, false, false, false]) 2 (by first | exact regrown_first _ _ | exact regrown_self _) rfl (by kernel_rfl) rfl ?_; (first | go_big_quiet_step (fail) | quiet_step (fail)); refine wpQuiet_nil ?_))
    refine wpK_one (fuel := 3) (listed' := #[true, true, true, true, true, false, false, false]) 3 rfl (by kernel_rfl) rfl ?_
    go_wp2_with (go_at_call 122; refine (HMM.out _).mono ?_; rintro e w4 ⟨rfl, hq, hb⟩; have HQ := Lib.hid hq; have HB1 := Lib.hid (below2 (below_redrawn U (U.drawn + 1)) hb); clear hq hb)
    refine ⟨rfl, fun _ _ => regrown_of_below HB1.out, ?_⟩
    refine wpK_one (fuel := 2) (listed' := #[true, true, true, true, true, true, false, false]) 5 rfl (by kernel_rfl) rfl ?_
    go_wp2_with fail
    refine (HCH.out w4 _ xb x.inst (below2 HSTU.out.below HB1.out) HQ.out (lt_of_blk (block_below HB1.out HXBU.out)) (cell_of_blk (block_below HB1.out HXBU.out) 0)).mono ?_
    rintro e w5 ⟨B', d', lm', rfl, hrow, hll, hrel, hb⟩
    have HRW := Lib.hid hrow
    have HREL := Lib.hid hrel
    have HB2 := Lib.hid (below2 HB1.out hb)
    have HST5 := Lib.hid (HSTU.out.more (below2 HB1.out hb))
    have HO5 := Lib.hid (own_mut HOU.out (Mut.of_below (below2 HB1.out hb) (fun _ => False)) (fun _ _ h => h))
    have HW4 : Hid (w.heap.size + 3 ≤ w4.heap.size) := Lib.hid (by have := HB1.out.size; have := HSTU.out.far; omega)
    obtain ⟨Ab, cb, heb, hncb, hcmb⟩ := hrow.open_
    injection heb with eb1 _ eb3
    subst eb1 eb3
    clear hrow hll hrel hb s11 q0 q1 q2 q3 q4 q5 q6 q7 q8 q9 q10 q11 q12
    have k0 := HST5.out.k0
    have k2 := HST5.out.k2
    have KZ := Lib.hid k2
    have HWB := Lib.hid HST5.out.below
    have s0 := cell_of_blk k0 0
    have s1 := cell_of_blk k0 1
    have s2 := cell_of_blk k0 2
    have s3 := cell_of_blk k0 3
    have s4 := cell_of_blk k0 4
    have s5 := cell_of_blk k0 5
    have s6 := cell_of_blk k0 6
    have s7 := cell_of_blk k0 7
    have s8 := cell_of_blk k0 8
    have s9 := cell_of_blk k0 9
    have s10 := cell_of_blk k0 10
    have s11 := cell_of_blk k0 11
    have f0 := frozen_of_blk k0 0
    have f1 := frozen_of_blk k0 1
    have f2 := frozen_of_blk k0 2
    have f3 := frozen_of_blk k0 3
    have f4 := frozen_of_blk k0 4
    have f5 := frozen_of_blk k0 5
    have f6 := frozen_of_blk k0 6
    have f7 := frozen_of_blk k0 7
    have f8 := frozen_of_blk k0 8
    have f9 := frozen_of_blk k0 9
    have f10 := frozen_of_blk k0 10
    have f11 := frozen_of_blk k0 11
    have z0 := cell_of_blk k2 0
    have z1 := cell_of_blk k2 1
    have z2 := cell_of_blk k2 2
    have z3 := cell_of_blk k2 3
    have z4 := cell_of_blk k2 4
    have z5 := cell_of_blk k2 5
    have z6 := cell_of_blk k2 6
    have z7 := cell_of_blk k2 7
    have z8 := cell_of_blk k2 8
    have z9 := cell_of_blk k2 9
    have z10 := cell_of_blk k2 10
    have z11 := cell_of_blk k2 11
    have g0 := frozen_of_blk k2 0
    have g1 := frozen_of_blk k2 1
    have g2 := frozen_of_blk k2 2
    have g3 := frozen_of_blk k2 3
    have g4 := frozen_of_blk k2 4
    have g5 := frozen_of_blk k2 5
    have g6 := frozen_of_blk k2 6
    have g7 := frozen_of_blk k2 7
    have g8 := frozen_of_blk k2 8
    have g9 := frozen_of_blk k2 9
    have g10 := frozen_of_blk k2 10
    have g11 := frozen_of_blk k2 11
    clear k0 k2
    go_wp2_with fail
    refine ⟨rfl, fun _ _ => regrown_of_below HB2.out, ?_⟩
    ((refine wpK_pure (fuel := 1) (listed' := #[true, true, true, true, true, true, true, false]) 6 rfl (by kernel_rfl) rfl ?_; (first | go_big_quiet_step (fail) | quiet_step (fail)); refine wpQuiet_nil ?_))
    refine wpK_one (fuel := 0) (listed' := #[true, true, true, true, true, true, true, true]) 7 rfl (by kernel_rfl) rfl ?_
    go_wp2_with fail
    refine ⟨rfl, fun h => absurd h (by decide), ?_⟩
    refine wpK_end rfl ?_
    go_wp2_with fail
    generalize hWE : World.setCell (World.setCell (World.setCell (World.setCell (World.setCell (World.setCell (World.setCell (World.setCell (World.setCell (World.setCell (World.setCell (World.setCell (World.setCell (_) _ _) _ _) _ _) _ _) _ _) _ _) _ _) _ _) _ _) _ _) _ _) _ _) _ _ = WE
    have ho : WE.heap[w.heap.size + 1 + 1]? = some (.cells #[.int .u64 Pp, .int .u64 Dd, .int .u64 Mm, .slice A3 n3 c3, .slice A4 n4 c4, .slice A5 n5 c5, .slice A6 n6 c6, .slice A7 n7 c7, .slice A8 n8 c8, .slice A9 n9 c9, .slice A' Ln c', .slice B' n11 d'] 35 (0, 0)) := by rw [← hWE]; exact set_blk12 (blk_set_other (b := w.heap.size) (o := 11) (KZ.out) (by omega)) (.int .u64 Pp) (.int .u64 Dd) (.int .u64 Mm) (.slice A3 n3 c3) (.slice A4 n4 c4) (.slice A5 n5 c5) (.slice A6 n6 c6) (.slice A7 n7 c7) (.slice A8 n8 c8) (.slice A9 n9 c9) (.slice A' Ln c') (.slice B' n11 d')
    have hbe : Below w.heap.size w WE := by rw [← hWE]; exact (((((((((((((HWB.out).setCell (p := ⟨w.heap.size, 11, none⟩) (Nat.le_refl _) _).setCell (p := ⟨w.heap.size + 1 + 1, 0, none⟩) (by show _ ≤ _ + 1 + 1; omega) _).setCell (p := ⟨w.heap.size + 1 + 1, 1, none⟩) (by show _ ≤ _ + 1 + 1; omega) _).setCell (p := ⟨w.heap.size + 1 + 1, 2, none⟩) (by show _ ≤ _ + 1 + 1; omega) _).setCell (p := ⟨w.heap.size + 1 + 1, 3, none⟩) (by show _ ≤ _ + 1 + 1; omega) _).setCell (p := ⟨w.heap.size + 1 + 1, 4, none⟩) (by show _ ≤ _ + 1 + 1; omega) _).setCell (p := ⟨w.heap.size + 1 + 1, 5, none⟩) (by show _ ≤ _ + 1 + 1; omega) _).setCell (p := ⟨w.heap.size + 1 + 1, 6, none⟩) (by show _ ≤ _ + 1 + 1; omega) _).setCell (p := ⟨w.heap.size + 1 + 1, 7, none⟩) (by show _ ≤ _ + 1 + 1; omega) _).setCell (p := ⟨w.heap.size + 1 + 1, 8, none⟩) (by show _ ≤ _ + 1 + 1; omega) _).setCell (p := ⟨w.heap.size + 1 + 1, 9, none⟩) (by show _ ≤ _ + 1 + 1; omega) _).setCell (p := ⟨w.heap.size + 1 + 1, 10, none⟩) (by show _ ≤ _ + 1 + 1; omega) _).setCell (p := ⟨w.heap.size + 1 + 1, 11, none⟩) (by show _ ≤ _ + 1 + 1; omega) _
    have hmu : Mut (fun b => b = w.heap.size ∨ b = w.heap.size + 1 + 1) w5 WE := by
      rw [← hWE]
      exact Mut.setCell (T := fun b => b = w.heap.size ∨ b = w.heap.size + 1 + 1) (Mut.setCell (T := fun b => b = w.heap.size ∨ b = w.heap.size + 1 + 1) (Mut.setCell (T := fun b => b = w.heap.size ∨ b = w.heap.size + 1 + 1) (Mut.setCell (T := fun b => b = w.heap.size ∨ b = w.heap.size + 1 + 1) (Mut.setCell (T := fun b => b = w.heap.size ∨ b = w.heap.size + 1 + 1) (Mut.setCell (T := fun b => b = w.heap.size ∨ b = w.heap.size + 1 + 1) (Mut.setCell (T := fun b => b = w.heap.size ∨ b = w.heap.size + 1 + 1) (Mut.setCell (T := fun b => b = w.heap.size ∨ b = w.heap.size + 1 + 1) (Mut.setCell (T := fun b => b = w.heap.size ∨ b = w.heap.size + 1 + 1) (Mut.setCell (T := fun b => b = w.heap.size ∨ b = w.heap.size + 1 + 1) (Mut.setCell (T := fun b => b = w.heap.size ∨ b = w.heap.size + 1 + 1) (Mut.setCell (T := fun b => b = w.heap.size ∨ b = w.heap.size + 1 + 1) (Mut.setCell (T := fun b => b = w.heap.size ∨ b = w.heap.size + 1 + 1) (Mut.refl _ _) (p := ⟨w.heap.size, 11, none⟩) (fun _ => .inl rfl) _) (p := ⟨w.heap.size + 1 + 1, 0, none⟩) (fun _ => .inr rfl) _) (p := ⟨w.heap.size + 1 + 1, 1, none⟩) (fun _ => .inr rfl) _) (p := ⟨w.heap.size + 1 + 1, 2, none⟩) (fun _ => .inr rfl) _) (p := ⟨w.heap.size + 1 + 1, 3, none⟩) (fun _ => .inr rfl) _) (p := ⟨w.heap.size + 1 + 1, 4, none⟩) (fun _ => .inr rfl) _) (p := ⟨w.heap.size + 1 + 1, 5, none⟩) (fun _ => .inr rfl) _) (p := ⟨w.heap.size + 1 + 1, 6, none⟩) (fun _ => .inr rfl) _) (p := ⟨w.heap.size + 1 + 1, 7, none⟩) (fun _ => .inr rfl) _) (p := ⟨w.heap.size + 1 + 1, 8, none⟩) (fun _ => .inr rfl) _) (p := ⟨w.heap.size + 1 + 1, 9, none⟩) (fun _ => .inr rfl) _) (p := ⟨w.heap.size + 1 + 1, 10, none⟩) (fun _ => .inr rfl) _) (p := ⟨w.heap.size + 1 + 1, 11, none⟩) (fun _ => .inr rfl) _
    have r0 := cell_of_blk ho 0
    have r1 := cell_of_blk ho 1
    have r2 := cell_of_blk ho 2
    have r3 := cell_of_blk ho 3
    have r4 := cell_of_blk ho 4
    have r5 := cell_of_blk ho 5
    have r6 := cell_of_blk ho 6
    have r7 := cell_of_blk ho 7
    have r8 := cell_of_blk ho 8
    have r9 := cell_of_blk ho 9
    have r10 := cell_of_blk ho 10
    have r11 := cell_of_blk ho 11
    have hw2 := HW2.out
    have hw4 := HW4.out
    have hon := own_base (own_mut HO5.out hmu (fun b hb h => by have := (HO5.out.lt b hb).1; omega)) (show w.heap.size ≤ w2.heap.size by omega)
    have hov : Row WE (fun b => S b ∨ w.heap.size ≤ b) 7 n11 (.slice B' n11 d') (lm'.flatMap encMsg) := (HRW.out.mut hmu (fun b _ hb h => by omega)).weaken (fun b _ h => h.elim (fun h => .inl h.1) (fun h => .inr (by omega)))
    have hq : (ll[j]'HJ.out).inst = x.inst := by rw [HX.out]
    have hrl : ((idxP (fun x : EMsg => x.key == r.key2) lm = -1 ∧ lm' = lm) ∨ ∃ u, ∃ hu : u < lm.length, ∃ A1 n1 c1, idxP (fun x : EMsg => x.key == r.key2) lm = (u : Int) ∧ n1 = (lm[u].insts.filter fun k => !(k == (ll[j]'HJ.out).inst)).length ∧ Row WE (fun b => w.heap.size ≤ b) 1 n1 (.slice A1 n1 c1) ((lm[u].insts.filter fun k => !(k == (ll[j]'HJ.out).inst)).flatMap encU64) ∧ lm' = lm.set u { lm[u] with iA := A1, iN := n1, iC := c1, insts := lm[u].insts.filter fun k => !(k == (ll[j]'HJ.out).inst) }) := by
      rw [hq]
      rcases HREL.out with h | ⟨i, hi, y, g1, ⟨A1, n1, c1, g2, rfl, g3⟩, g4⟩
      · exact .inl h
      · exact .inr ⟨i, hi, A1, n1, c1, g1, g2, (g3.mut hmu (fun b _ hb h => by omega)).weaken (fun b _ hb => by omega), g4⟩
    refine bodyPost_ret (v := .agg #[.int .u64 Pp, .int .u64 Dd, .int .u64 Mm, .slice A3 n3 c3, .slice A4 n4 c4, .slice A5 n5 c5, .slice A6 n6 c6, .slice A7 n7 c7, .slice A8 n8 c8, .slice A9 n9 c9, .slice A' Ln c', .slice B' n11 d']) (by simp [results, Tryz.results74, go_sem, r0, r1, r2, r3, r4, r5, r6, r7, r8, r9, r10, r11]) rfl ⟨.inr ⟨j, HJ.out, h1, A', Ln, c', B', d', lm', rfl, HLN.out.symm, hon, hov, hrl⟩, hbe⟩
end Go.Proofs.YtgpkmellpllmgaaGreat
