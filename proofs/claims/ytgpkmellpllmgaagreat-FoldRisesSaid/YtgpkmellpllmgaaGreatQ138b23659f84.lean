/-
  Merged from Fu_put, FdJob, FcJob, FdInst, FcInst, FdSub, FcSub, FdTok, FcTok, FdLst, FcLst, FdMsg, FcMsg, Fe_change.
-/
import Derived.Test.YtgpkmellpllmgaaGreatQ473ec255ccbe
import Derived.Test.YtgpkmellpllmgaaGreatQ7b67ab243e98
import Derived.Test.YtgpkmellpllmgaaGreatQ5ebf1c882415
import Derived.Test.YtgpkmellpllmgaaGreatQ39ed21976fe9
/-
  The events that put, from a state to a state. Printed by gfold2.py.
-/
set_option linter.unusedVariables false
set_option linter.unusedSimpArgs false
namespace Go.Proofs.YtgpkmellpllmgaaGreat
open Go Go.RowKit Go.Proofs.Base
open Go.Sort (grow)
theorem mem_putL {α : Type} {c : α → α → Int} {x y : α} {l : List α} (h : y ∈ putL c x l) : y = x ∨ y ∈ l := by
  unfold putL at h
  split at h
  · exact (List.mem_or_eq_of_mem_set h).symm
  · rcases List.mem_append.1 h with h | h
    · exact .inr (List.mem_of_mem_take h)
    · rcases List.mem_cons.1 h with h | h
      · exact .inl h
      · exact .inr (List.mem_of_mem_drop h)
set_option maxRecDepth 100000 in
set_option maxHeartbeats 4000000 in
theorem u_deployed (W : World) (S : Nat → Prop) (v : StV) (g : GSt) (r : GRec) (vA : Option Addr) (vN vC : Nat) (hst : StR W S v g) (hv : VarsR W S vA vN vC r.vars) (hroom : g.room) :
    Calls Tryz.prog 54 #[.agg v.vals, .agg #[.int .i64 r.cls, .int .i64 r.kind, .int .u64 r.frm, .int .i64 r.time, .int .u64 r.key, .int .u64 r.key2, .int .u64 r.key3, .int .i64 r.n, .int .i64 r.m, .string r.a, .string r.b, .string r.c, .slice vA vN vC]] W fun e w' => ∃ v' g', e = .returned (.agg v'.vals) ∧ StR w' (fun b => S b ∨ W.heap.size ≤ b) v' g' ∧ g'.pure = { g.pure with procs := putL cmpProc ⟨r.a, r.b⟩ g.pure.procs } ∧ Below W.heap.size W w' := by
  refine (ev_deployed v.Pp v.Dd v.Mm v.A3 v.n3 v.c3 v.A4 v.n4 v.c4 v.A5 v.n5 v.c5 v.A6 v.n6 v.c6 v.A7 v.n7 v.c7 v.A8 v.n8 v.c8 v.A9 v.n9 v.c9 v.A10 v.n10 v.c10 v.A11 v.n11 v.c11 r vA vN vC g.procs W S hst.procs.1 (by rw [← hst.procs.1]; exact hroom.1) hst.procs.2).mono ?_
  rintro e w' ⟨A', c', Ln, rfl, hLn, hown, hb⟩
  refine ⟨{ v with A3 := A', n3 := Ln, c3 := c' }, { g with procs := putL cmpProc ⟨r.a, r.b⟩ g.procs }, rfl, ?_, rfl, hb⟩
  exact { (hst.below (S' := fun b => S b ∨ W.heap.size ≤ b) hb (fun b _ h => .inl h)) with procs := ⟨hLn.symm, (Row.of_own hown).weaken (fun b _ h => .inr h.1)⟩ }
set_option maxRecDepth 100000 in
set_option maxHeartbeats 4000000 in
theorem u_entered (W : World) (S : Nat → Prop) (v : StV) (g : GSt) (r : GRec) (vA : Option Addr) (vN vC : Nat) (hst : StR W S v g) (hv : VarsR W S vA vN vC r.vars) (hroom : g.room) :
    Calls Tryz.prog 56 #[.agg v.vals, .agg #[.int .i64 r.cls, .int .i64 r.kind, .int .u64 r.frm, .int .i64 r.time, .int .u64 r.key, .int .u64 r.key2, .int .u64 r.key3, .int .i64 r.n, .int .i64 r.m, .string r.a, .string r.b, .string r.c, .slice vA vN vC]] W fun e w' => ∃ v' g', e = .returned (.agg v'.vals) ∧ StR w' (fun b => S b ∨ W.heap.size ≤ b) v' g' ∧ g'.pure = { g.pure with tokens := putL cmpTok ⟨r.key, r.key2, r.key3, r.n, r.m, ⟨#[]⟩⟩ g.pure.tokens, made := IntKind.u64.wrap (g.pure.made + 1) } ∧ Below W.heap.size W w' := by
  refine (ev_entered v.Pp v.Dd v.Mm v.A3 v.n3 v.c3 v.A4 v.n4 v.c4 v.A5 v.n5 v.c5 v.A6 v.n6 v.c6 v.A7 v.n7 v.c7 v.A8 v.n8 v.c8 v.A9 v.n9 v.c9 v.A10 v.n10 v.c10 v.A11 v.n11 v.c11 r vA vN vC g.tokens W S hst.tokens.1 (by rw [← hst.tokens.1]; exact hroom.2.2.1) hst.tokens.2).mono ?_
  rintro e w' ⟨A', c', Ln, rfl, hLn, hown, hb⟩
  refine ⟨{ v with A5 := A', n5 := Ln, c5 := c', Mm := IntKind.u64.wrap (v.Mm + 1) }, { g with tokens := putL cmpTok ⟨r.key, r.key2, r.key3, r.n, r.m, ⟨#[]⟩⟩ g.tokens, made := IntKind.u64.wrap (g.made + 1) }, rfl, ?_, rfl, hb⟩
  exact { (hst.below (S' := fun b => S b ∨ W.heap.size ≤ b) hb (fun b _ h => .inl h)) with tokens := ⟨hLn.symm, (Row.of_own hown).weaken (fun b _ h => .inr h.1)⟩, made := by show IntKind.u64.wrap (v.Mm + 1) = IntKind.u64.wrap (g.made + 1); rw [hst.made] }
set_option maxRecDepth 100000 in
set_option maxHeartbeats 4000000 in
theorem u_job (W : World) (S : Nat → Prop) (v : StV) (g : GSt) (r : GRec) (vA : Option Addr) (vN vC : Nat) (hst : StR W S v g) (hv : VarsR W S vA vN vC r.vars) (hroom : g.room) :
    Calls Tryz.prog 58 #[.agg v.vals, .agg #[.int .i64 r.cls, .int .i64 r.kind, .int .u64 r.frm, .int .i64 r.time, .int .u64 r.key, .int .u64 r.key2, .int .u64 r.key3, .int .i64 r.n, .int .i64 r.m, .string r.a, .string r.b, .string r.c, .slice vA vN vC]] W fun e w' => ∃ v' g', e = .returned (.agg v'.vals) ∧ StR w' (fun b => S b ∨ W.heap.size ≤ b) v' g' ∧ g'.pure = { g.pure with jobs := putL cmpJob ⟨r.key, r.key2, r.a, r.n, ⟨#[]⟩, 0⟩ g.pure.jobs, made := IntKind.u64.wrap (g.pure.made + 1) } ∧ Below W.heap.size W w' := by
  refine (ev_job v.Pp v.Dd v.Mm v.A3 v.n3 v.c3 v.A4 v.n4 v.c4 v.A5 v.n5 v.c5 v.A6 v.n6 v.c6 v.A7 v.n7 v.c7 v.A8 v.n8 v.c8 v.A9 v.n9 v.c9 v.A10 v.n10 v.c10 v.A11 v.n11 v.c11 r vA vN vC g.jobs W S hst.jobs.1 (by rw [← hst.jobs.1]; exact hroom.2.2.2.1) hst.jobs.2).mono ?_
  rintro e w' ⟨A', c', Ln, rfl, hLn, hown, hb⟩
  refine ⟨{ v with A6 := A', n6 := Ln, c6 := c', Mm := IntKind.u64.wrap (v.Mm + 1) }, { g with jobs := putL cmpJob ⟨r.key, r.key2, r.a, r.n, ⟨#[]⟩, 0⟩ g.jobs, made := IntKind.u64.wrap (g.made + 1) }, rfl, ?_, rfl, hb⟩
  exact { (hst.below (S' := fun b => S b ∨ W.heap.size ≤ b) hb (fun b _ h => .inl h)) with jobs := ⟨hLn.symm, (Row.of_own hown).weaken (fun b _ h => .inr h.1)⟩, made := by show IntKind.u64.wrap (v.Mm + 1) = IntKind.u64.wrap (g.made + 1); rw [hst.made] }
set_option maxRecDepth 100000 in
set_option maxHeartbeats 4000000 in
theorem u_timer (W : World) (S : Nat → Prop) (v : StV) (g : GSt) (r : GRec) (vA : Option Addr) (vN vC : Nat) (hst : StR W S v g) (hv : VarsR W S vA vN vC r.vars) (hroom : g.room) :
    Calls Tryz.prog 62 #[.agg v.vals, .agg #[.int .i64 r.cls, .int .i64 r.kind, .int .u64 r.frm, .int .i64 r.time, .int .u64 r.key, .int .u64 r.key2, .int .u64 r.key3, .int .i64 r.n, .int .i64 r.m, .string r.a, .string r.b, .string r.c, .slice vA vN vC]] W fun e w' => ∃ v' g', e = .returned (.agg v'.vals) ∧ StR w' (fun b => S b ∨ W.heap.size ≤ b) v' g' ∧ g'.pure = { g.pure with timers := putL cmpTim ⟨r.key, r.n, r.m⟩ g.pure.timers } ∧ Below W.heap.size W w' := by
  refine (ev_timer v.Pp v.Dd v.Mm v.A3 v.n3 v.c3 v.A4 v.n4 v.c4 v.A5 v.n5 v.c5 v.A6 v.n6 v.c6 v.A7 v.n7 v.c7 v.A8 v.n8 v.c8 v.A9 v.n9 v.c9 v.A10 v.n10 v.c10 v.A11 v.n11 v.c11 r vA vN vC g.timers W S hst.timers.1 (by rw [← hst.timers.1]; exact hroom.2.2.2.2.1) hst.timers.2).mono ?_
  rintro e w' ⟨A', c', Ln, rfl, hLn, hown, hb⟩
  refine ⟨{ v with A7 := A', n7 := Ln, c7 := c' }, { g with timers := putL cmpTim ⟨r.key, r.n, r.m⟩ g.timers }, rfl, ?_, rfl, hb⟩
  exact { (hst.below (S' := fun b => S b ∨ W.heap.size ≤ b) hb (fun b _ h => .inl h)) with timers := ⟨hLn.symm, (Row.of_own hown).weaken (fun b _ h => .inr h.1)⟩ }
set_option maxRecDepth 100000 in
set_option maxHeartbeats 4000000 in
theorem u_sub (W : World) (S : Nat → Prop) (v : StV) (g : GSt) (r : GRec) (vA : Option Addr) (vN vC : Nat) (hst : StR W S v g) (hv : VarsR W S vA vN vC r.vars) (hroom : g.room) :
    Calls Tryz.prog 63 #[.agg v.vals, .agg #[.int .i64 r.cls, .int .i64 r.kind, .int .u64 r.frm, .int .i64 r.time, .int .u64 r.key, .int .u64 r.key2, .int .u64 r.key3, .int .i64 r.n, .int .i64 r.m, .string r.a, .string r.b, .string r.c, .slice vA vN vC]] W fun e w' => ∃ v' g', e = .returned (.agg v'.vals) ∧ StR w' (fun b => S b ∨ W.heap.size ≤ b) v' g' ∧ g'.pure = { g.pure with subs := putL cmpSub ⟨r.key, r.key2, r.n, r.a, r.b, false⟩ g.pure.subs } ∧ Below W.heap.size W w' := by
  refine (ev_sub v.Pp v.Dd v.Mm v.A3 v.n3 v.c3 v.A4 v.n4 v.c4 v.A5 v.n5 v.c5 v.A6 v.n6 v.c6 v.A7 v.n7 v.c7 v.A8 v.n8 v.c8 v.A9 v.n9 v.c9 v.A10 v.n10 v.c10 v.A11 v.n11 v.c11 r vA vN vC g.subs W S hst.subs.1 (by rw [← hst.subs.1]; exact hroom.2.2.2.2.2.1) hst.subs.2).mono ?_
  rintro e w' ⟨A', c', Ln, rfl, hLn, hown, hb⟩
  refine ⟨{ v with A8 := A', n8 := Ln, c8 := c' }, { g with subs := putL cmpSub ⟨r.key, r.key2, r.n, r.a, r.b, false⟩ g.subs }, rfl, ?_, rfl, hb⟩
  exact { (hst.below (S' := fun b => S b ∨ W.heap.size ≤ b) hb (fun b _ h => .inl h)) with subs := ⟨hLn.symm, (Row.of_own hown).weaken (fun b _ h => .inr h.1)⟩ }
set_option maxRecDepth 100000 in
set_option maxHeartbeats 4000000 in
theorem u_kept (W : World) (S : Nat → Prop) (v : StV) (g : GSt) (r : GRec) (vA : Option Addr) (vN vC : Nat) (hst : StR W S v g) (hv : VarsR W S vA vN vC r.vars) (hroom : g.room) :
    Calls Tryz.prog 68 #[.agg v.vals, .agg #[.int .i64 r.cls, .int .i64 r.kind, .int .u64 r.frm, .int .i64 r.time, .int .u64 r.key, .int .u64 r.key2, .int .u64 r.key3, .int .i64 r.n, .int .i64 r.m, .string r.a, .string r.b, .string r.c, .slice vA vN vC]] W fun e w' => ∃ v' g', e = .returned (.agg v'.vals) ∧ StR w' (fun b => S b ∨ W.heap.size ≤ b) v' g' ∧ g'.pure = { g.pure with kept := putL cmpKept ⟨r.key, r.key2, r.n⟩ g.pure.kept } ∧ Below W.heap.size W w' := by
  refine (ev_kept v.Pp v.Dd v.Mm v.A3 v.n3 v.c3 v.A4 v.n4 v.c4 v.A5 v.n5 v.c5 v.A6 v.n6 v.c6 v.A7 v.n7 v.c7 v.A8 v.n8 v.c8 v.A9 v.n9 v.c9 v.A10 v.n10 v.c10 v.A11 v.n11 v.c11 r vA vN vC g.kept W S hst.kept.1 (by rw [← hst.kept.1]; exact hroom.2.2.2.2.2.2.1) hst.kept.2).mono ?_
  rintro e w' ⟨A', c', Ln, rfl, hLn, hown, hb⟩
  refine ⟨{ v with A9 := A', n9 := Ln, c9 := c' }, { g with kept := putL cmpKept ⟨r.key, r.key2, r.n⟩ g.kept }, rfl, ?_, rfl, hb⟩
  exact { (hst.below (S' := fun b => S b ∨ W.heap.size ≤ b) hb (fun b _ h => .inl h)) with kept := ⟨hLn.symm, (Row.of_own hown).weaken (fun b _ h => .inr h.1)⟩ }
set_option maxRecDepth 100000 in
set_option maxHeartbeats 4000000 in
theorem u_listed (W : World) (S : Nat → Prop) (v : StV) (g : GSt) (r : GRec) (vA : Option Addr) (vN vC : Nat) (hst : StR W S v g) (hv : VarsR W S vA vN vC r.vars) (hroom : g.room) :
    Calls Tryz.prog 69 #[.agg v.vals, .agg #[.int .i64 r.cls, .int .i64 r.kind, .int .u64 r.frm, .int .i64 r.time, .int .u64 r.key, .int .u64 r.key2, .int .u64 r.key3, .int .i64 r.n, .int .i64 r.m, .string r.a, .string r.b, .string r.c, .slice vA vN vC]] W fun e w' => ∃ v' g', e = .returned (.agg v'.vals) ∧ StR w' (fun b => S b ∨ W.heap.size ≤ b) v' g' ∧ g'.pure = { g.pure with listed := putL cmpLst ⟨r.key, r.key2, r.n, r.a, r.b, 0, none, 0, 0, []⟩ g.pure.listed } ∧ Below W.heap.size W w' := by
  refine (ev_listed v.Pp v.Dd v.Mm v.A3 v.n3 v.c3 v.A4 v.n4 v.c4 v.A5 v.n5 v.c5 v.A6 v.n6 v.c6 v.A7 v.n7 v.c7 v.A8 v.n8 v.c8 v.A9 v.n9 v.c9 v.A10 v.n10 v.c10 v.A11 v.n11 v.c11 r vA vN vC g.listed W S hst.listed.1 (by rw [← hst.listed.1]; exact hroom.2.2.2.2.2.2.2.1) hst.listed.2).mono ?_
  rintro e w' ⟨A', c', Ln, rfl, hLn, hown, hb⟩
  refine ⟨{ v with A10 := A', n10 := Ln, c10 := c' }, { g with listed := putL cmpLst ⟨r.key, r.key2, r.n, r.a, r.b, 0, none, 0, 0, []⟩ g.listed }, rfl, ?_, ?_, hb⟩
  · exact { (hst.below (S' := fun b => S b ∨ W.heap.size ≤ b) hb (fun b _ h => .inl h)) with listed := ⟨hLn.symm, (Row.of_own hown).weaken (fun b _ h => .inr h.1)⟩, vlist := fun y hy => (mem_putL hy).elim (fun e => e ▸ ⟨rfl, by show 0 * 48 ≤ _; decide, Row.nil _ _ _⟩) (fun h => (hst.below (S' := fun b => S b ∨ W.heap.size ≤ b) hb (fun b _ h => .inl h)).vlist y h) }
  · unfold GSt.pure
    simp only
    rw [← putL_map pureLst cmpLst cmpLst (fun _ _ => rfl)]; rfl
set_option maxRecDepth 100000 in
set_option maxHeartbeats 4000000 in
theorem u_began (W : World) (S : Nat → Prop) (v : StV) (g : GSt) (r : GRec) (vA : Option Addr) (vN vC : Nat) (hst : StR W S v g) (hv : VarsR W S vA vN vC r.vars) (hroom : g.room) :
    Calls Tryz.prog 55 #[.agg v.vals, .agg #[.int .i64 r.cls, .int .i64 r.kind, .int .u64 r.frm, .int .i64 r.time, .int .u64 r.key, .int .u64 r.key2, .int .u64 r.key3, .int .i64 r.n, .int .i64 r.m, .string r.a, .string r.b, .string r.c, .slice vA vN vC]] W fun e w' => ∃ v' g', e = .returned (.agg v'.vals) ∧ StR w' (fun b => S b ∨ W.heap.size ≤ b) v' g' ∧ g'.pure = { g.pure with insts := putL cmpInst ⟨r.key, r.a, none, 0, 0, r.vars⟩ g.pure.insts, made := IntKind.u64.wrap (g.pure.made + 1) } ∧ Below W.heap.size W w' := by
  refine (ev_began v.Pp v.Dd v.Mm v.A3 v.n3 v.c3 v.A4 v.n4 v.c4 v.A5 v.n5 v.c5 v.A6 v.n6 v.c6 v.A7 v.n7 v.c7 v.A8 v.n8 v.c8 v.A9 v.n9 v.c9 v.A10 v.n10 v.c10 v.A11 v.n11 v.c11 r vA vN vC g.insts W S hst.insts.1 (by rw [← hst.insts.1]; exact hroom.2.1) hst.insts.2 hv.1 hv.2.1 hv.2.2).mono ?_
  rintro e w' ⟨A', c', Ln, A1, c1, rfl, hLn, hown, hvn, hb⟩
  refine ⟨{ v with A4 := A', n4 := Ln, c4 := c', Mm := IntKind.u64.wrap (v.Mm + 1) }, { g with insts := putL cmpInst ⟨r.key, r.a, A1, vN, c1, r.vars⟩ g.insts, made := IntKind.u64.wrap (g.made + 1) }, rfl, ?_, ?_, hb⟩
  · exact { (hst.below (S' := fun b => S b ∨ W.heap.size ≤ b) hb (fun b _ h => .inl h)) with insts := ⟨hLn.symm, (Row.of_own hown).weaken (fun b _ h => .inr h.1)⟩, made := by show IntKind.u64.wrap (v.Mm + 1) = IntKind.u64.wrap (g.made + 1); rw [hst.made], vinst := fun y hy => (mem_putL hy).elim (fun e => e ▸ ⟨hv.1, hv.2.1, hvn.weaken (fun _ _ h => .inr h)⟩) (fun h => (hst.below (S' := fun b => S b ∨ W.heap.size ≤ b) hb (fun b _ h => .inl h)).vinst y h) }
  · unfold GSt.pure
    simp only
    rw [← putL_map pureInst cmpInst cmpInst (fun _ _ => rfl)]; rfl
set_option maxRecDepth 100000 in
set_option maxHeartbeats 4000000 in
theorem u_published (W : World) (S : Nat → Prop) (v : StV) (g : GSt) (r : GRec) (vA : Option Addr) (vN vC : Nat) (hst : StR W S v g) (hv : VarsR W S vA vN vC r.vars) (hroom : g.room) :
    Calls Tryz.prog 70 #[.agg v.vals, .agg #[.int .i64 r.cls, .int .i64 r.kind, .int .u64 r.frm, .int .i64 r.time, .int .u64 r.key, .int .u64 r.key2, .int .u64 r.key3, .int .i64 r.n, .int .i64 r.m, .string r.a, .string r.b, .string r.c, .slice vA vN vC]] W fun e w' => ∃ v' g', e = .returned (.agg v'.vals) ∧ StR w' (fun b => S b ∨ W.heap.size ≤ b) v' g' ∧ g'.pure = { g.pure with msgs := putL cmpMsg ⟨r.key, r.a, r.b, r.c, r.n, none, 0, 0, r.vars, none, 0, 0, []⟩ g.pure.msgs, made := IntKind.u64.wrap (g.pure.made + 1) } ∧ Below W.heap.size W w' := by
  refine (ev_published v.Pp v.Dd v.Mm v.A3 v.n3 v.c3 v.A4 v.n4 v.c4 v.A5 v.n5 v.c5 v.A6 v.n6 v.c6 v.A7 v.n7 v.c7 v.A8 v.n8 v.c8 v.A9 v.n9 v.c9 v.A10 v.n10 v.c10 v.A11 v.n11 v.c11 r vA vN vC g.msgs W S hst.msgs.1 (by rw [← hst.msgs.1]; exact hroom.2.2.2.2.2.2.2.2.1) hst.msgs.2 hv.1 hv.2.1 hv.2.2).mono ?_
  rintro e w' ⟨A', c', Ln, A1, c1, rfl, hLn, hown, hvn, hb⟩
  refine ⟨{ v with A11 := A', n11 := Ln, c11 := c', Mm := IntKind.u64.wrap (v.Mm + 1) }, { g with msgs := putL cmpMsg ⟨r.key, r.a, r.b, r.c, r.n, A1, vN, c1, r.vars, none, 0, 0, []⟩ g.msgs, made := IntKind.u64.wrap (g.made + 1) }, rfl, ?_, ?_, hb⟩
  · exact { (hst.below (S' := fun b => S b ∨ W.heap.size ≤ b) hb (fun b _ h => .inl h)) with msgs := ⟨hLn.symm, (Row.of_own hown).weaken (fun b _ h => .inr h.1)⟩, made := by show IntKind.u64.wrap (v.Mm + 1) = IntKind.u64.wrap (g.made + 1); rw [hst.made], vmsg := fun y hy => (mem_putL hy).elim (fun e => e ▸ ⟨hv.1, hv.2.1, hvn.weaken (fun _ _ h => .inr h)⟩) (fun h => (hst.below (S' := fun b => S b ∨ W.heap.size ≤ b) hb (fun b _ h => .inl h)).vmsg y h), imsg := fun y hy => (mem_putL hy).elim (fun e => e ▸ ⟨rfl, Row.nil _ _ _⟩) (fun h => (hst.below (S' := fun b => S b ∨ W.heap.size ≤ b) hb (fun b _ h => .inl h)).imsg y h) }
  · unfold GSt.pure
    simp only
    rw [← putL_map pureMsg cmpMsg cmpMsg (fun _ _ => rfl)]; rfl
end Go.Proofs.YtgpkmellpllmgaaGreat
/-
  slices.DeleteFunc, fold.without of Job. Printed by gfold.py.
-/
set_option linter.unusedVariables false
set_option linter.unusedSimpArgs false
namespace Go.Proofs.YtgpkmellpllmgaaGreat
open Go Go.RowKit Go.Proofs.Base
open Go.Sort (grow)
theorem vbox_Job (w : World) (x : EJob) : Below w.heap.size w (w.alloc (.cells #[.int .u64 x.key, .int .u64 x.token, .string x.typ, .int .i64 x.retries, .string x.worker, .int .i64 x.till] 52)) ∧ (w.alloc (.cells #[.int .u64 x.key, .int .u64 x.token, .string x.typ, .int .i64 x.retries, .string x.worker, .int .i64 x.till] 52)).heap[w.heap.size]? = some (.cells #[.int .u64 x.key, .int .u64 x.token, .string x.typ, .int .i64 x.retries, .string x.worker, .int .i64 x.till] 52 (0, 0)) :=
  ⟨below_alloc (Below.refl _ _) _, blk_new _⟩
theorem rowb_Job {g cap i : Nat} {cur : Array Value} {w : World} {base : Nat} {l : List EJob} (hbg : base ≤ g) (hh : w.heap[g]? = some (.cells cur 52 (0, 0))) (hnc : i ≤ cap) (hcm : cap ≤ maxLen) (hcs : cap * 6 = cur.size) (hl : l.length = i) (ht : cur.toList.take (i * 6) = l.flatMap encJob) :
    w.ownsRow base 52 6 (.slice (some ⟨g, 0, none⟩) i cap) i (l.flatMap encJob) :=
  ⟨by rw [flat_len (enc := encJob) lenJob, hl], .inr ⟨g, cap, cur, rfl, hbg, hh, hnc, hcm, by omega, ht⟩⟩
theorem zs_Job : ∀ w, (zeroValue 52).run Tryz.prog w = .ok (.agg #[.int .u64 0, .int .u64 0, .string ⟨#[]⟩, .int .i64 0, .string ⟨#[]⟩, .int .i64 0]) w := Tryz.zeroValue52
set_option maxRecDepth 100000 in
set_option maxHeartbeats 4000000 in
theorem del_Job (base : Nat) (v : Value) (n g : Nat) (lb : Array Value) (l : List EJob) (p : EJob → Bool) (w0 w : World) (eg : ∀ args w, (callFunc g args).run Tryz.prog w = .ok (.enter g args) w) (hl : l.length = n) (hown : w.ownsRow base 52 6 v n (l.flatMap encJob)) (hbase : w0.heap.size ≤ base) (h0 : Below w0.heap.size w0 w)
    (hp : ∀ W, Below w0.heap.size w0 W → ∀ x ∈ l, Calls Tryz.prog g (#[.agg #[.int .u64 x.key, .int .u64 x.token, .string x.typ, .int .i64 x.retries, .string x.worker, .int .i64 x.till]] ++ lb) W fun e w' => e = .returned (.bool (p x)) ∧ Below W.heap.size W w') :
    Calls Tryz.prog 193 #[v, .func (.func g) #[] lb] w fun e w' => ∃ A' c', e = .returned (.slice A' (l.filter fun x => !p x).length c') ∧ w'.ownsRow base 52 6 (.slice A' (l.filter fun x => !p x).length c') (l.filter fun x => !p x).length ((l.filter fun x => !p x).flatMap encJob) ∧ Below w0.heap.size w0 w' := by
  obtain ⟨A, c, rfl, hnc, hcc⟩ := (Row.of_own hown).open_
  have HO := Lib.hid hown
  have HL := Lib.hid hl
  have H0 := Lib.hid h0
  have HP := Lib.hid hp
  have HIX : Hid (Calls Tryz.prog 77 #[.slice A n c, .func (.func g) #[] lb] w fun e w' => e = .returned (.int .i64 (idxP p l)) ∧ Below w.heap.size w w') := Lib.hid (idx_Job A n c g lb l p w0 w _ eg hl (Row.of_own hown) h0 hp)
  rcases idxP_spec p l with ⟨h1, hall⟩ | ⟨k0, hk0, h1, hpt, hbef⟩
  · have hf : l.filter (fun x => !p x) = l := List.filter_eq_self.2 (fun x hx => by rw [hall x hx]; rfl)
    rw [hf, hl]
    clear hown hl h0 hp hall hf
    go_enter Tryz.func193, Tryz.ntmps193
    go_wp2_with (go_at_call 77; refine HIX.out.mono ?_; rintro e w1 ⟨rfl, hb⟩; rw [h1]; have HB1 := Lib.hid hb; clear hb)
    go_ret
    exact ⟨A, c, rfl, own_mut HO.out (Mut.of_below HB1.out (fun _ => False)) (fun _ _ h => h), below2 H0.out HB1.out⟩
  · have hn0 : 0 < n := by omega
    obtain ⟨gb, cap, cur0, hv, hbg, hh0, hnc5, hcm5, hcs5, htk5⟩ := own_some hown (by omega)
    injection hv with hv1 hv2 hv3
    subst hv1 hv3
    have hkn : k0 < n := by omega
    have hne1 : ((k0 : Int) == -1) = false := beq_eq_false_iff_ne.2 (by omega)
    have HS0 : Hid (cur0.size = c * 6 ∧ cur0.toList.take (k0 * 6) = ((l.take (k0 + 1)).filter fun x => !p x).flatMap encJob ∧ (cur0.toList.take (n * 6)).drop ((k0 + 1) * 6) = (l.drop (k0 + 1)).flatMap encJob ∧ k0 = ((l.take (k0 + 1)).filter fun x => !p x).length) := Lib.hid (by
      have e1 : (l.take (k0 + 1)).filter (fun x => !p x) = l.take k0 := by
        rw [List.take_succ_eq_append_getElem hk0, List.filter_append]
        have e2 : (l.take k0).filter (fun x => !p x) = l.take k0 := List.filter_eq_self.2 (fun x hx => by
          obtain ⟨j, hj, rfl⟩ := List.getElem_of_mem hx
          rw [List.length_take] at hj
          rw [List.getElem_take, hbef j (by omega)]; rfl)
        rw [e2]
        simp [hpt]
      refine ⟨by omega, ?_, ?_, ?_⟩
      · rw [e1, ← flat_take (enc := encJob) lenJob, ← htk5, List.take_take]
        congr 1
        exact (Nat.min_eq_left (Nat.mul_le_mul_right _ (Nat.le_of_lt hkn))).symm
      · rw [htk5, flat_drop (enc := encJob) lenJob]
      · rw [e1, List.length_take]; omega)
    have HG0 := Lib.hid hh0
    have HCM := Lib.hid hcm5
    have HBS := Lib.hid hbase
    have HBG := Lib.hid hbg
    have HFL : Hid (l.filter (fun x => !p x) = (l.take n).filter fun x => !p x) := Lib.hid (by rw [← hl, List.take_length])
    have hmx : ∀ k, k < n → ∃ x, l[k]? = some x ∧ x ∈ l := fun k hk => ⟨l[k]'(by omega), List.getElem?_eq_getElem (by omega), List.getElem_mem _⟩
    have HMX := Lib.hid hmx
    clear hown hl h0 hp htk5 hcs5 hh0 hcm5 hbase hbg hk0 hpt hbef hmx HO
    go_enter Tryz.func193, Tryz.ntmps193
    go_wp2_with (go_at_call 77; refine HIX.out.mono ?_; rintro e w1 ⟨rfl, hb⟩; rw [h1]; have HB1 := Lib.hid (below2 H0.out hb); have HG1 := Lib.hid (block_below hb HG0.out); clear hb)
    go_loopw [5, 6, 7] (fun s5 s6 _ wr => ∃ (i j : Nat) (cur : Array Value), s5 = .int .i64 i ∧ s6 = .int .i64 j ∧ j ≤ n ∧ i < j ∧ Hid (Below w0.heap.size w0 wr) ∧ Hid (wr.heap[gb]? = some (.cells cur 52 (0, 0))) ∧ Hid (cur.size = c * 6 ∧ cur.toList.take (i * 6) = ((l.take j).filter fun x => !p x).flatMap encJob ∧ (cur.toList.take (n * 6)).drop (j * 6) = (l.drop j).flatMap encJob ∧ i = ((l.take j).filter fun x => !p x).length)) (fun _ s6 _ _ => n - (intOf s6).toNat)
    case atStart => exact ⟨k0, k0 + 1, cur0, rfl, by go_num, by omega, by omega, HB1, HG1, HS0⟩
    case round =>
      obtain ⟨i, j, cur, rfl, rfl, hjn, hij, HB, HG, HI⟩ := hrel
      have hgs := lt_of_blk HG.out
      by_cases hlt : j < n
      · obtain ⟨x, hx, hxm⟩ := HMX.out j hlt
        have hszc : cur.size = c * 6 := HI.out.1
        have hdr : (cur.toList.take (n * 6)).drop (j * 6) = encJob x ++ (l.drop (j + 1)).flatMap encJob := by
          have hjl : j < l.length := by rw [HL.out]; exact hlt
          have he : l[j] = x := by rw [List.getElem?_eq_getElem hjl] at hx; exact Option.some.inj hx
          rw [HI.out.2.2.1, List.drop_eq_getElem_cons hjl, List.flatMap_cons, he]
        have hcj : ∀ t u, (encJob x)[t]? = some u → t < 6 → cur[j * 6 + t]? = some u := fun t u hu ht => by
          have e := congrArg (fun L => L[t]?) hdr
          simp only [List.getElem?_drop] at e
          rw [List.getElem?_take, if_pos (by omega), List.getElem?_append_left (by rw [lenJob]; exact ht), hu] at e
          rw [← Array.getElem?_toList]; exact e
        have c0 : wr.cell? ⟨gb, j * 6, none⟩ = some (.int .u64 x.key) := (cell_of_blk HG.out _).trans (hcj 0 _ rfl (by decide))
        have c1 : wr.cell? ⟨gb, j * 6 + 1, none⟩ = some (.int .u64 x.token) := (cell_of_blk HG.out _).trans (hcj 1 _ rfl (by decide))
        have c2 : wr.cell? ⟨gb, j * 6 + 2, none⟩ = some (.string x.typ) := (cell_of_blk HG.out _).trans (hcj 2 _ rfl (by decide))
        have c3 : wr.cell? ⟨gb, j * 6 + 3, none⟩ = some (.int .i64 x.retries) := (cell_of_blk HG.out _).trans (hcj 3 _ rfl (by decide))
        have c4 : wr.cell? ⟨gb, j * 6 + 4, none⟩ = some (.string x.worker) := (cell_of_blk HG.out _).trans (hcj 4 _ rfl (by decide))
        have c5 : wr.cell? ⟨gb, j * 6 + 5, none⟩ = some (.int .i64 x.till) := (cell_of_blk HG.out _).trans (hcj 5 _ rfl (by decide))
        have hcall := fun W hW => HP.out W hW x hxm
        have HX := Lib.hid hx
        have HDR := Lib.hid hdr
        clear hcj hdr hx hxm
        cases hq : p x with
        | false =>
          rw [hq] at hcall
          have HQ := Lib.hid hq
          have HCALL := Lib.hid hcall
          clear hq hcall
          go_wp2_with fail
          refine (HCALL.out _ (below2 HB.out (vbox_Job wr x).1)).mono ?_
          rintro e w1 ⟨rfl, hb1⟩
          have hv1 := block_below hb1 (vbox_Job wr x).2
          have HBW := Lib.hid (below2 HB.out (below2 (vbox_Job wr x).1 hb1))
          have hgw := block_below hb1 (block_below (vbox_Job wr x).1 HG.out)
          have k0 := cell_of_blk hv1 0
          have k1 := cell_of_blk hv1 1
          have k2 := cell_of_blk hv1 2
          have k3 := cell_of_blk hv1 3
          have k4 := cell_of_blk hv1 4
          have k5 := cell_of_blk hv1 5
          clear hv1
          obtain ⟨u0, hu0⟩ : ∃ u, cur[i * 6]? = some u := ⟨_, Array.getElem?_eq_getElem (by rw [hszc]; have : i * 6 + 6 ≤ c * 6 := (by have := Nat.mul_le_mul_right 6 (show i + 1 ≤ c by omega); omega); omega)⟩
          have j0 := (cell_of_blk hgw (i * 6)).trans hu0
          have f0 := frozen_of_blk hgw (i * 6)
          clear hu0
          obtain ⟨u1, hu1⟩ : ∃ u, cur[i * 6 + 1]? = some u := ⟨_, Array.getElem?_eq_getElem (by rw [hszc]; have : i * 6 + 6 ≤ c * 6 := (by have := Nat.mul_le_mul_right 6 (show i + 1 ≤ c by omega); omega); omega)⟩
          have j1 := (cell_of_blk hgw (i * 6 + 1)).trans hu1
          have f1 := frozen_of_blk hgw (i * 6 + 1)
          clear hu1
          obtain ⟨u2, hu2⟩ : ∃ u, cur[i * 6 + 2]? = some u := ⟨_, Array.getElem?_eq_getElem (by rw [hszc]; have : i * 6 + 6 ≤ c * 6 := (by have := Nat.mul_le_mul_right 6 (show i + 1 ≤ c by omega); omega); omega)⟩
          have j2 := (cell_of_blk hgw (i * 6 + 2)).trans hu2
          have f2 := frozen_of_blk hgw (i * 6 + 2)
          clear hu2
          obtain ⟨u3, hu3⟩ : ∃ u, cur[i * 6 + 3]? = some u := ⟨_, Array.getElem?_eq_getElem (by rw [hszc]; have : i * 6 + 6 ≤ c * 6 := (by have := Nat.mul_le_mul_right 6 (show i + 1 ≤ c by omega); omega); omega)⟩
          have j3 := (cell_of_blk hgw (i * 6 + 3)).trans hu3
          have f3 := frozen_of_blk hgw (i * 6 + 3)
          clear hu3
          obtain ⟨u4, hu4⟩ : ∃ u, cur[i * 6 + 4]? = some u := ⟨_, Array.getElem?_eq_getElem (by rw [hszc]; have : i * 6 + 6 ≤ c * 6 := (by have := Nat.mul_le_mul_right 6 (show i + 1 ≤ c by omega); omega); omega)⟩
          have j4 := (cell_of_blk hgw (i * 6 + 4)).trans hu4
          have f4 := frozen_of_blk hgw (i * 6 + 4)
          clear hu4
          obtain ⟨u5, hu5⟩ : ∃ u, cur[i * 6 + 5]? = some u := ⟨_, Array.getElem?_eq_getElem (by rw [hszc]; have : i * 6 + 6 ≤ c * 6 := (by have := Nat.mul_le_mul_right 6 (show i + 1 ≤ c by omega); omega); omega)⟩
          have j5 := (cell_of_blk hgw (i * 6 + 5)).trans hu5
          have f5 := frozen_of_blk hgw (i * 6 + 5)
          clear hu5
          have HGW := Lib.hid hgw
          clear hgw hb1
          go_wp2_with fail
          go_roundw
          case rel =>
            refine ⟨i + 1, j + 1, _, by go_num, by go_num, by omega, by omega, Lib.hid (((((((HBW.out).setCell (p := ⟨gb, i * 6, none⟩) (by show _ ≤ gb; have := HBS.out; have := HBG.out; omega) _).setCell (p := ⟨gb, i * 6 + 1, none⟩) (by show _ ≤ gb; have := HBS.out; have := HBG.out; omega) _).setCell (p := ⟨gb, i * 6 + 2, none⟩) (by show _ ≤ gb; have := HBS.out; have := HBG.out; omega) _).setCell (p := ⟨gb, i * 6 + 3, none⟩) (by show _ ≤ gb; have := HBS.out; have := HBG.out; omega) _).setCell (p := ⟨gb, i * 6 + 4, none⟩) (by show _ ≤ gb; have := HBS.out; have := HBG.out; omega) _).setCell (p := ⟨gb, i * 6 + 5, none⟩) (by show _ ≤ gb; have := HBS.out; have := HBG.out; omega) _), Lib.hid (set_blk (o := i * 6 + 5) (set_blk (o := i * 6 + 4) (set_blk (o := i * 6 + 3) (set_blk (o := i * 6 + 2) (set_blk (o := i * 6 + 1) (set_blk (o := i * 6) (HGW.out) (.int .u64 x.key)) (.int .u64 x.token)) (.string x.typ)) (.int .i64 x.retries)) (.string x.worker)) (.int .i64 x.till)), Lib.hid ?_⟩
            have e1 : (l.take (j + 1)).filter (fun x => !p x) = (l.take j).filter (fun x => !p x) ++ [x] := by
              rw [List.take_add_one, HX.out, List.filter_append]
              congr 1
              simp [HQ.out]
            have hil : (i + 1) * 6 ≤ cur.size := by rw [hszc]; exact Nat.mul_le_mul_right _ (by omega)
            have e2 : ((((((cur.setIfInBounds (i * 6) (.int .u64 x.key)).setIfInBounds (i * 6 + 1) (.int .u64 x.token)).setIfInBounds (i * 6 + 2) (.string x.typ)).setIfInBounds (i * 6 + 3) (.int .i64 x.retries)).setIfInBounds (i * 6 + 4) (.string x.worker)).setIfInBounds (i * 6 + 5) (.int .i64 x.till)).toList = splice cur.toList (i * 6) (encJob x) := by
              rw [← setAll_splice _ _ _ (by rw [lenJob, Array.length_toList]; omega)]
              simp only [Array.toList_setIfInBounds]
              first | rfl | (simp only [Nat.mul_one]; rfl)
            refine ⟨by simp only [Array.size_setIfInBounds]; exact hszc, ?_, ?_, ?_⟩
            · rw [e2, e1, List.flatMap_append, ← HI.out.2.1, splice_take (by rw [lenJob, Nat.succ_mul]) (by rw [lenJob, Array.length_toList]; omega), List.flatMap_singleton]
            · have e3 := congrArg (fun L => L.drop 6) HI.out.2.2.1
              simp only [List.drop_drop] at e3
              rw [show j * 6 + 6 = (j + 1) * 6 by omega, flat_drop1 (enc := encJob) lenJob] at e3
              have hle : (i + 1) * 6 ≤ (j + 1) * 6 := Nat.mul_le_mul_right _ (by omega)
              rw [e2, ← e3, List.drop_take, List.drop_take, splice_drop (by rw [lenJob]; omega) (by rw [lenJob, Array.length_toList]; omega)]
            · rw [e1, List.length_append, ← HI.out.2.2.2]; rfl
          case measure => simp [intOf]; omega
        | true =>
          rw [hq] at hcall
          have HQ := Lib.hid hq
          have HCALL := Lib.hid hcall
          clear hq hcall
          go_wp2_with fail
          refine (HCALL.out _ (below2 HB.out (vbox_Job wr x).1)).mono ?_
          rintro e w1 ⟨rfl, hb1⟩
          have hv1 := block_below hb1 (vbox_Job wr x).2
          have HBW := Lib.hid (below2 HB.out (below2 (vbox_Job wr x).1 hb1))
          have hgw := block_below hb1 (block_below (vbox_Job wr x).1 HG.out)
          clear hv1
          have HGW := Lib.hid hgw
          clear hgw hb1
          go_wp2_with fail
          go_roundw
          case rel =>
            refine ⟨i, j + 1, cur, rfl, by go_num, by omega, by omega, HBW, HGW, Lib.hid ?_⟩
            have e1 : (l.take (j + 1)).filter (fun x => !p x) = (l.take j).filter (fun x => !p x) := by
              rw [List.take_add_one, HX.out, List.filter_append]
              simp [HQ.out]
            rw [e1]
            refine ⟨hszc, HI.out.2.1, ?_, HI.out.2.2.2⟩
            have e3 := congrArg (fun L => L.drop 6) HDR.out
            simp only [List.drop_drop] at e3
            rw [show j * 6 + 6 = (j + 1) * 6 by omega] at e3
            rw [e3, List.drop_append, List.drop_of_length_le (by rw [lenJob]; exact Nat.le_refl _), lenJob]
            simp
          case measure => simp [intOf]; omega
      · obtain rfl : j = n := by omega
        have hszc : cur.size = c * 6 := HI.out.1
        have hfit : i * 6 + (j - i) * 6 ≤ cur.size := by
          rw [hszc, ← Nat.add_mul]; exact Nat.mul_le_mul_right _ (by omega)
        have hcl : ∀ ty, (Builtin.clear_ #[28] ty #[.slice (some ⟨gb, i * 6, none⟩) (j - i) (c - i)]).run Tryz.prog wr = .ok (.tuple #[]) (wr.setRow gb (splice cur.toList (i * 6) (Builtin.zeroCells (.agg #[.int .u64 0, .int .u64 0, .string ⟨#[]⟩, .int .i64 0, .string ⟨#[]⟩, .int .i64 0] : Value).cells (j - i)).toList).toArray) := fun ty =>
          run_clear_wide wr 28 52 ty _ 6 Tryz.underlying28 zs_Job rfl (by intro u hu; simp [Value.cells] at hu; rcases hu with rfl | rfl | rfl | rfl | rfl | rfl <;> rfl) gb (i * 6) (j - i) (c - i) cur 52 (by omega) HG.out hfit
        have hci : ¬ (c = i) := by omega
        have hcl2 : i ≤ c := by omega
        have hin : i ≤ j := by omega
        have HCL := Lib.hid hcl
        clear hcl
        have HHQ := Lib.hid (setRow_heap wr gb cur (splice cur.toList (i * 6) (Builtin.zeroCells (.agg #[.int .u64 0, .int .u64 0, .string ⟨#[]⟩, .int .i64 0, .string ⟨#[]⟩, .int .i64 0] : Value).cells (j - i)).toList).toArray 52 (0, 0) HG.out)
        have HHB : Hid (Below w0.heap.size w0 (wr.setRow gb (splice cur.toList (i * 6) (Builtin.zeroCells (.agg #[.int .u64 0, .int .u64 0, .string ⟨#[]⟩, .int .i64 0, .string ⟨#[]⟩, .int .i64 0] : Value).cells (j - i)).toList).toArray)) := Lib.hid (below_setRow HB.out (by have := HBS.out; have := HBG.out; omega) _)
        have hsp : (splice cur.toList (i * 6) (Builtin.zeroCells (.agg #[.int .u64 0, .int .u64 0, .string ⟨#[]⟩, .int .i64 0, .string ⟨#[]⟩, .int .i64 0] : Value).cells (j - i)).toList).toArray.size = cur.size ∧ (splice cur.toList (i * 6) (Builtin.zeroCells (.agg #[.int .u64 0, .int .u64 0, .string ⟨#[]⟩, .int .i64 0, .string ⟨#[]⟩, .int .i64 0] : Value).cells (j - i)).toList).toArray.toList.take (i * 6) = cur.toList.take (i * 6) := by
          have hzl : (Builtin.zeroCells (.agg #[.int .u64 0, .int .u64 0, .string ⟨#[]⟩, .int .i64 0, .string ⟨#[]⟩, .int .i64 0] : Value).cells (j - i)).toList.length = (j - i) * 6 := by rw [Array.length_toList, size_zeroCells]; rfl
          have hle : i * 6 + (j - i) * 6 ≤ cur.size := by
            exact hfit
          refine ⟨by rw [List.size_toArray, length_splice _ _ _ (by rw [hzl, Array.length_toList]; exact hle), Array.length_toList], ?_⟩
          rw [List.toList_toArray]
          unfold splice
          have hll : (cur.toList.take (i * 6)).length = i * 6 := by rw [List.length_take, Array.length_toList]; omega
          rw [List.take_append_of_le_length (by rw [hll]; exact Nat.le_refl _), List.take_of_length_le (by rw [hll]; exact Nat.le_refl _)]
        have HSP := Lib.hid hsp
        clear hsp
        generalize (splice cur.toList (i * 6) (Builtin.zeroCells (.agg #[.int .u64 0, .int .u64 0, .string ⟨#[]⟩, .int .i64 0, .string ⟨#[]⟩, .int .i64 0] : Value).cells (j - i)).toList).toArray = CR at *
        have hcl' := HCL.out
        have hji : ((j : Int) - (i : Int)).toNat = j - i := by omega
        go_wp2
        go_ret
        have hfl : (l.filter fun x => !p x).length = i := by rw [HFL.out]; exact HI.out.2.2.2.symm
        rw [hfl]
        refine ⟨_, _, rfl, rowb_Job HBG.out HHQ.out (by omega) HCM.out (by rw [HSP.out.1]; exact hszc.symm) hfl ?_, HHB.out⟩
        rw [HFL.out, ← HI.out.2.1]
        first | exact HSP.out.2 | (rw [Nat.mul_one]; exact HSP.out.2)
set_option maxRecDepth 100000 in
theorem without_Job (A : Option Addr) (n c g : Nat) (lb : Array Value) (l : List EJob) (p : EJob → Bool) (w : World) (S : Nat → Prop) (eg : ∀ args w, (callFunc g args).run Tryz.prog w = .ok (.enter g args) w) (hl : l.length = n) (hby : n * 64 ≤ 140737488355328) (hr : Row w S 6 n (.slice A n c) (l.flatMap encJob))
    (hp : ∀ W, Below w.heap.size w W → ∀ x ∈ l, Calls Tryz.prog g (#[.agg #[.int .u64 x.key, .int .u64 x.token, .string x.typ, .int .i64 x.retries, .string x.worker, .int .i64 x.till]] ++ lb) W fun e w' => e = .returned (.bool (p x)) ∧ Below W.heap.size W w') :
    Calls Tryz.prog 146 #[.slice A n c, .func (.func g) #[] lb] w fun e w' => ∃ A' c', e = .returned (.slice A' (l.filter fun x => !p x).length c') ∧ w'.ownsRow w.heap.size 52 6 (.slice A' (l.filter fun x => !p x).length c') (l.filter fun x => !p x).length ((l.filter fun x => !p x).flatMap encJob) ∧ Below w.heap.size w w' := by
  have HC := Lib.hid (clone_Job A n c l w S hl hby hr)
  have HP := Lib.hid hp
  have HL := Lib.hid hl
  have EG := Lib.hid eg
  clear hp hr hl eg
  go_enter Tryz.func146, Tryz.ntmps146
  go_wp2_with (go_at_call 25; refine HC.out.mono ?_; rintro e w1 ⟨A1, c1, rfl, hown, hb⟩; have HO1 := Lib.hid hown; have HB1 := Lib.hid hb; clear hown hb)
  refine (del_Job w.heap.size _ n g lb l p w w1 EG.out HL.out HO1.out (Nat.le_refl _) HB1.out HP.out).mono ?_
  rintro e w2 ⟨A2, c2, rfl, hown, hb⟩
  have HO2 := Lib.hid hown
  have HB2 := Lib.hid hb
  clear hown hb
  go_wp2_with fail
  go_ret
  exact ⟨A2, c2, rfl, HO2.out, HB2.out⟩
end Go.Proofs.YtgpkmellpllmgaaGreat
/-
  fold.change of Job. Printed by gfold.py.
-/
set_option linter.unusedVariables false
set_option linter.unusedSimpArgs false
namespace Go.Proofs.YtgpkmellpllmgaaGreat
open Go Go.RowKit Go.Proofs.Base
open Go.Sort (grow)
set_option maxRecDepth 100000 in
set_option maxHeartbeats 4000000 in
theorem change_Job (A : Option Addr) (n c g g2 : Nat) (lb lb2 : Array Value) (l : List EJob) (p : EJob → Bool) (F : World → EJob → EJob → Prop) (w : World) (S : Nat → Prop) (eg : ∀ args w, (callFunc g args).run Tryz.prog w = .ok (.enter g args) w) (eg2 : ∀ args w, (callFunc g2 args).run Tryz.prog w = .ok (.enter g2 args) w)
    (hl : l.length = n) (hby : n * 64 ≤ 140737488355328) (hr : Row w S 6 n (.slice A n c) (l.flatMap encJob))
    (hp : ∀ W, Below w.heap.size w W → ∀ x ∈ l, Calls Tryz.prog g (#[.agg #[.int .u64 x.key, .int .u64 x.token, .string x.typ, .int .i64 x.retries, .string x.worker, .int .i64 x.till]] ++ lb) W fun e w' => e = .returned (.bool (p x)) ∧ Below W.heap.size W w')
    (hf : ∀ (W : World) (b : Nat) (cur : Array Value) (i : Nat) (hi : i < l.length), Below w.heap.size w W → w.heap.size ≤ b → W.heap[b]? = some (.cells cur 52 (0, 0)) → cur.toList.take (n * 6) = l.flatMap encJob → n * 6 ≤ cur.size →
      Calls Tryz.prog g2 (#[.pointer (some ⟨b, i * 6, none⟩)] ++ lb2) W fun e w' => e = .returned (.tuple #[]) ∧ ∃ y, ∃ cur' : Array Value, F w' l[i] y ∧ w'.heap[b]? = some (.cells cur' 52 (0, 0)) ∧ cur'.size = cur.size ∧ cur'.toList.take (n * 6) = (l.set i y).flatMap encJob ∧ Below w.heap.size w w') :
    Calls Tryz.prog 91 #[.slice A n c, .func (.func g) #[] lb, .func (.func g2) #[] lb2] w fun e w' => ∃ A' c', ∃ l' : List EJob, e = .returned (.slice A' n c') ∧ Row w' (fun b => S b ∨ w.heap.size ≤ b) 6 n (.slice A' n c') (l'.flatMap encJob) ∧ l'.length = n ∧
      ((idxP p l = -1 ∧ l' = l) ∨ ∃ i, ∃ hi : i < l.length, ∃ y, idxP p l = (i : Int) ∧ F w' l[i] y ∧ l' = l.set i y) ∧ Below w.heap.size w w' := by
  have HIX := Lib.hid (idx_Job A n c g lb l p w w S eg hl hr (Below.refl _ _) hp)
  have HR := Lib.hid hr
  have HL := Lib.hid hl
  have HBY := Lib.hid hby
  have HF := Lib.hid hf
  obtain ⟨A0, c0, he0, hnc0, hcm0⟩ := hr.open_
  injection he0 with q1 _ q3
  subst q1 q3
  clear hr hl hf hp eg hby
  rcases idxP_spec p l with ⟨h1, -⟩ | ⟨j, hj, h1, -, -⟩
  · go_enter Tryz.func91, Tryz.ntmps91
    go_wp2_with (go_at_call 77; refine HIX.out.mono ?_; rintro e w1 ⟨rfl, hb⟩; rw [h1]; have HB1 := Lib.hid hb; clear hb)
    go_ret
    exact ⟨A, c, l, rfl, (HR.out.below HB1.out).weaken (fun _ _ h => .inl h), HL.out, .inl ⟨h1, rfl⟩, HB1.out⟩
  · have HJ := Lib.hid hj
    have hjn : j < n := by have := HL.out; omega
    have hj0 : ¬ ((j : Int) < 0) := by omega
    clear hj
    go_enter Tryz.func91, Tryz.ntmps91
    go_wp2_with (go_at_call 77; refine HIX.out.mono ?_; rintro e w1 ⟨rfl, hb⟩; rw [h1]; have HB1 := Lib.hid hb; clear hb)
    refine (clone_Job A n c l w1 S HL.out HBY.out (HR.out.below HB1.out)).mono ?_
    rintro e w2 ⟨A2, c2, rfl, hown, hb⟩
    have HB2 := Lib.hid (below2 HB1.out hb)
    have HB12 := Lib.hid hb
    obtain ⟨gb, cap, cur, hv, hbg, hhg, hnc5, hcm5, hcs5, htk5⟩ := own_some hown (by omega)
    injection hv with hv1 hv2 hv3
    subst hv1 hv3
    have HG := Lib.hid hhg
    have HTK := Lib.hid htk5
    have HCS := Lib.hid hcs5
    have hws := HB1.out.size
    have HBG : Hid (w.heap.size ≤ gb) := Lib.hid (by omega)
    have HCM := Lib.hid hcm5
    clear hown hb hhg htk5 hcs5 hbg hcm5 hws
    go_wp2_with fail
    refine (HF.out w2 gb cur j HJ.out HB2.out HBG.out HG.out HTK.out (by have := HCS.out; have := Nat.mul_le_mul_right 6 hnc5; omega)).mono ?_
    rintro e w3 ⟨rfl, y, cur', hy, hh3, hcs3, htk3, hb3⟩
    have HY := Lib.hid (And.intro hy (And.intro hh3 (And.intro hcs3 (And.intro htk3 hb3))))
    clear hy hh3 hcs3 htk3 hb3
    go_wp2_with fail
    go_ret
    obtain ⟨hy, hh3, hcs3, htk3, hb3⟩ := HY.out
    have hll : (l.set j y).length = n := by rw [List.length_set, HL.out]
    refine ⟨_, _, l.set j y, rfl, (Row.of_own (rowb_Job (base := w.heap.size) HBG.out hh3 hnc5 HCM.out (by rw [hcs3]; have := HCS.out; omega) hll htk3)).weaken (fun _ _ h => .inr h.1), hll, .inr ⟨j, HJ.out, y, h1, hy, rfl⟩, hb3⟩
end Go.Proofs.YtgpkmellpllmgaaGreat
/-
  slices.DeleteFunc, fold.without of Instance. Printed by gfold.py.
-/
set_option linter.unusedVariables false
set_option linter.unusedSimpArgs false
namespace Go.Proofs.YtgpkmellpllmgaaGreat
open Go Go.RowKit Go.Proofs.Base
open Go.Sort (grow)
theorem vbox_Inst (w : World) (x : EInst) : Below w.heap.size w (w.alloc (.cells #[.int .u64 x.key, .string x.id, .slice x.vA x.vN x.vC] 61)) ∧ (w.alloc (.cells #[.int .u64 x.key, .string x.id, .slice x.vA x.vN x.vC] 61)).heap[w.heap.size]? = some (.cells #[.int .u64 x.key, .string x.id, .slice x.vA x.vN x.vC] 61 (0, 0)) :=
  ⟨below_alloc (Below.refl _ _) _, blk_new _⟩
theorem rowb_Inst {g cap i : Nat} {cur : Array Value} {w : World} {base : Nat} {l : List EInst} (hbg : base ≤ g) (hh : w.heap[g]? = some (.cells cur 61 (0, 0))) (hnc : i ≤ cap) (hcm : cap ≤ maxLen) (hcs : cap * 3 = cur.size) (hl : l.length = i) (ht : cur.toList.take (i * 3) = l.flatMap encInst) :
    w.ownsRow base 61 3 (.slice (some ⟨g, 0, none⟩) i cap) i (l.flatMap encInst) :=
  ⟨by rw [flat_len (enc := encInst) lenInst, hl], .inr ⟨g, cap, cur, rfl, hbg, hh, hnc, hcm, by omega, ht⟩⟩
theorem zs_Inst : ∀ w, (zeroValue 61).run Tryz.prog w = .ok (.agg #[.int .u64 0, .string ⟨#[]⟩, .slice none 0 0]) w := Tryz.zeroValue61
set_option maxRecDepth 100000 in
set_option maxHeartbeats 4000000 in
theorem del_Inst (base : Nat) (v : Value) (n g : Nat) (lb : Array Value) (l : List EInst) (p : EInst → Bool) (w0 w : World) (eg : ∀ args w, (callFunc g args).run Tryz.prog w = .ok (.enter g args) w) (hl : l.length = n) (hown : w.ownsRow base 61 3 v n (l.flatMap encInst)) (hbase : w0.heap.size ≤ base) (h0 : Below w0.heap.size w0 w)
    (hp : ∀ W, Below w0.heap.size w0 W → ∀ x ∈ l, Calls Tryz.prog g (#[.agg #[.int .u64 x.key, .string x.id, .slice x.vA x.vN x.vC]] ++ lb) W fun e w' => e = .returned (.bool (p x)) ∧ Below W.heap.size W w') :
    Calls Tryz.prog 169 #[v, .func (.func g) #[] lb] w fun e w' => ∃ A' c', e = .returned (.slice A' (l.filter fun x => !p x).length c') ∧ w'.ownsRow base 61 3 (.slice A' (l.filter fun x => !p x).length c') (l.filter fun x => !p x).length ((l.filter fun x => !p x).flatMap encInst) ∧ Below w0.heap.size w0 w' := by
  obtain ⟨A, c, rfl, hnc, hcc⟩ := (Row.of_own hown).open_
  have HO := Lib.hid hown
  have HL := Lib.hid hl
  have H0 := Lib.hid h0
  have HP := Lib.hid hp
  have HIX : Hid (Calls Tryz.prog 136 #[.slice A n c, .func (.func g) #[] lb] w fun e w' => e = .returned (.int .i64 (idxP p l)) ∧ Below w.heap.size w w') := Lib.hid (idx_Inst A n c g lb l p w0 w _ eg hl (Row.of_own hown) h0 hp)
  rcases idxP_spec p l with ⟨h1, hall⟩ | ⟨k0, hk0, h1, hpt, hbef⟩
  · have hf : l.filter (fun x => !p x) = l := List.filter_eq_self.2 (fun x hx => by rw [hall x hx]; rfl)
    rw [hf, hl]
    clear hown hl h0 hp hall hf
    go_enter Tryz.func169, Tryz.ntmps169
    go_wp2_with (go_at_call 136; refine HIX.out.mono ?_; rintro e w1 ⟨rfl, hb⟩; rw [h1]; have HB1 := Lib.hid hb; clear hb)
    go_ret
    exact ⟨A, c, rfl, own_mut HO.out (Mut.of_below HB1.out (fun _ => False)) (fun _ _ h => h), below2 H0.out HB1.out⟩
  · have hn0 : 0 < n := by omega
    obtain ⟨gb, cap, cur0, hv, hbg, hh0, hnc5, hcm5, hcs5, htk5⟩ := own_some hown (by omega)
    injection hv with hv1 hv2 hv3
    subst hv1 hv3
    have hkn : k0 < n := by omega
    have hne1 : ((k0 : Int) == -1) = false := beq_eq_false_iff_ne.2 (by omega)
    have HS0 : Hid (cur0.size = c * 3 ∧ cur0.toList.take (k0 * 3) = ((l.take (k0 + 1)).filter fun x => !p x).flatMap encInst ∧ (cur0.toList.take (n * 3)).drop ((k0 + 1) * 3) = (l.drop (k0 + 1)).flatMap encInst ∧ k0 = ((l.take (k0 + 1)).filter fun x => !p x).length) := Lib.hid (by
      have e1 : (l.take (k0 + 1)).filter (fun x => !p x) = l.take k0 := by
        rw [List.take_succ_eq_append_getElem hk0, List.filter_append]
        have e2 : (l.take k0).filter (fun x => !p x) = l.take k0 := List.filter_eq_self.2 (fun x hx => by
          obtain ⟨j, hj, rfl⟩ := List.getElem_of_mem hx
          rw [List.length_take] at hj
          rw [List.getElem_take, hbef j (by omega)]; rfl)
        rw [e2]
        simp [hpt]
      refine ⟨by omega, ?_, ?_, ?_⟩
      · rw [e1, ← flat_take (enc := encInst) lenInst, ← htk5, List.take_take]
        congr 1
        exact (Nat.min_eq_left (Nat.mul_le_mul_right _ (Nat.le_of_lt hkn))).symm
      · rw [htk5, flat_drop (enc := encInst) lenInst]
      · rw [e1, List.length_take]; omega)
    have HG0 := Lib.hid hh0
    have HCM := Lib.hid hcm5
    have HBS := Lib.hid hbase
    have HBG := Lib.hid hbg
    have HFL : Hid (l.filter (fun x => !p x) = (l.take n).filter fun x => !p x) := Lib.hid (by rw [← hl, List.take_length])
    have hmx : ∀ k, k < n → ∃ x, l[k]? = some x ∧ x ∈ l := fun k hk => ⟨l[k]'(by omega), List.getElem?_eq_getElem (by omega), List.getElem_mem _⟩
    have HMX := Lib.hid hmx
    clear hown hl h0 hp htk5 hcs5 hh0 hcm5 hbase hbg hk0 hpt hbef hmx HO
    go_enter Tryz.func169, Tryz.ntmps169
    go_wp2_with (go_at_call 136; refine HIX.out.mono ?_; rintro e w1 ⟨rfl, hb⟩; rw [h1]; have HB1 := Lib.hid (below2 H0.out hb); have HG1 := Lib.hid (block_below hb HG0.out); clear hb)
    go_loopw [5, 6, 7] (fun s5 s6 _ wr => ∃ (i j : Nat) (cur : Array Value), s5 = .int .i64 i ∧ s6 = .int .i64 j ∧ j ≤ n ∧ i < j ∧ Hid (Below w0.heap.size w0 wr) ∧ Hid (wr.heap[gb]? = some (.cells cur 61 (0, 0))) ∧ Hid (cur.size = c * 3 ∧ cur.toList.take (i * 3) = ((l.take j).filter fun x => !p x).flatMap encInst ∧ (cur.toList.take (n * 3)).drop (j * 3) = (l.drop j).flatMap encInst ∧ i = ((l.take j).filter fun x => !p x).length)) (fun _ s6 _ _ => n - (intOf s6).toNat)
    case atStart => exact ⟨k0, k0 + 1, cur0, rfl, by go_num, by omega, by omega, HB1, HG1, HS0⟩
    case round =>
      obtain ⟨i, j, cur, rfl, rfl, hjn, hij, HB, HG, HI⟩ := hrel
      have hgs := lt_of_blk HG.out
      by_cases hlt : j < n
      · obtain ⟨x, hx, hxm⟩ := HMX.out j hlt
        have hszc : cur.size = c * 3 := HI.out.1
        have hdr : (cur.toList.take (n * 3)).drop (j * 3) = encInst x ++ (l.drop (j + 1)).flatMap encInst := by
          have hjl : j < l.length := by rw [HL.out]; exact hlt
          have he : l[j] = x := by rw [List.getElem?_eq_getElem hjl] at hx; exact Option.some.inj hx
          rw [HI.out.2.2.1, List.drop_eq_getElem_cons hjl, List.flatMap_cons, he]
        have hcj : ∀ t u, (encInst x)[t]? = some u → t < 3 → cur[j * 3 + t]? = some u := fun t u hu ht => by
          have e := congrArg (fun L => L[t]?) hdr
          simp only [List.getElem?_drop] at e
          rw [List.getElem?_take, if_pos (by omega), List.getElem?_append_left (by rw [lenInst]; exact ht), hu] at e
          rw [← Array.getElem?_toList]; exact e
        have c0 : wr.cell? ⟨gb, j * 3, none⟩ = some (.int .u64 x.key) := (cell_of_blk HG.out _).trans (hcj 0 _ rfl (by decide))
        have c1 : wr.cell? ⟨gb, j * 3 + 1, none⟩ = some (.string x.id) := (cell_of_blk HG.out _).trans (hcj 1 _ rfl (by decide))
        have c2 : wr.cell? ⟨gb, j * 3 + 2, none⟩ = some (.slice x.vA x.vN x.vC) := (cell_of_blk HG.out _).trans (hcj 2 _ rfl (by decide))
        have hcall := fun W hW => HP.out W hW x hxm
        have HX := Lib.hid hx
        have HDR := Lib.hid hdr
        clear hcj hdr hx hxm
        cases hq : p x with
        | false =>
          rw [hq] at hcall
          have HQ := Lib.hid hq
          have HCALL := Lib.hid hcall
          clear hq hcall
          go_wp2_with fail
          refine (HCALL.out _ (below2 HB.out (vbox_Inst wr x).1)).mono ?_
          rintro e w1 ⟨rfl, hb1⟩
          have hv1 := block_below hb1 (vbox_Inst wr x).2
          have HBW := Lib.hid (below2 HB.out (below2 (vbox_Inst wr x).1 hb1))
          have hgw := block_below hb1 (block_below (vbox_Inst wr x).1 HG.out)
          have k0 := cell_of_blk hv1 0
          have k1 := cell_of_blk hv1 1
          have k2 := cell_of_blk hv1 2
          clear hv1
          obtain ⟨u0, hu0⟩ : ∃ u, cur[i * 3]? = some u := ⟨_, Array.getElem?_eq_getElem (by rw [hszc]; have : i * 3 + 3 ≤ c * 3 := (by have := Nat.mul_le_mul_right 3 (show i + 1 ≤ c by omega); omega); omega)⟩
          have j0 := (cell_of_blk hgw (i * 3)).trans hu0
          have f0 := frozen_of_blk hgw (i * 3)
          clear hu0
          obtain ⟨u1, hu1⟩ : ∃ u, cur[i * 3 + 1]? = some u := ⟨_, Array.getElem?_eq_getElem (by rw [hszc]; have : i * 3 + 3 ≤ c * 3 := (by have := Nat.mul_le_mul_right 3 (show i + 1 ≤ c by omega); omega); omega)⟩
          have j1 := (cell_of_blk hgw (i * 3 + 1)).trans hu1
          have f1 := frozen_of_blk hgw (i * 3 + 1)
          clear hu1
          obtain ⟨u2, hu2⟩ : ∃ u, cur[i * 3 + 2]? = some u := ⟨_, Array.getElem?_eq_getElem (by rw [hszc]; have : i * 3 + 3 ≤ c * 3 := (by have := Nat.mul_le_mul_right 3 (show i + 1 ≤ c by omega); omega); omega)⟩
          have j2 := (cell_of_blk hgw (i * 3 + 2)).trans hu2
          have f2 := frozen_of_blk hgw (i * 3 + 2)
          clear hu2
          have HGW := Lib.hid hgw
          clear hgw hb1
          go_wp2_with fail
          go_roundw
          case rel =>
            refine ⟨i + 1, j + 1, _, by go_num, by go_num, by omega, by omega, Lib.hid ((((HBW.out).setCell (p := ⟨gb, i * 3, none⟩) (by show _ ≤ gb; have := HBS.out; have := HBG.out; omega) _).setCell (p := ⟨gb, i * 3 + 1, none⟩) (by show _ ≤ gb; have := HBS.out; have := HBG.out; omega) _).setCell (p := ⟨gb, i * 3 + 2, none⟩) (by show _ ≤ gb; have := HBS.out; have := HBG.out; omega) _), Lib.hid (set_blk (o := i * 3 + 2) (set_blk (o := i * 3 + 1) (set_blk (o := i * 3) (HGW.out) (.int .u64 x.key)) (.string x.id)) (.slice x.vA x.vN x.vC)), Lib.hid ?_⟩
            have e1 : (l.take (j + 1)).filter (fun x => !p x) = (l.take j).filter (fun x => !p x) ++ [x] := by
              rw [List.take_add_one, HX.out, List.filter_append]
              congr 1
              simp [HQ.out]
            have hil : (i + 1) * 3 ≤ cur.size := by rw [hszc]; exact Nat.mul_le_mul_right _ (by omega)
            have e2 : (((cur.setIfInBounds (i * 3) (.int .u64 x.key)).setIfInBounds (i * 3 + 1) (.string x.id)).setIfInBounds (i * 3 + 2) (.slice x.vA x.vN x.vC)).toList = splice cur.toList (i * 3) (encInst x) := by
              rw [← setAll_splice _ _ _ (by rw [lenInst, Array.length_toList]; omega)]
              simp only [Array.toList_setIfInBounds]
              first | rfl | (simp only [Nat.mul_one]; rfl)
            refine ⟨by simp only [Array.size_setIfInBounds]; exact hszc, ?_, ?_, ?_⟩
            · rw [e2, e1, List.flatMap_append, ← HI.out.2.1, splice_take (by rw [lenInst, Nat.succ_mul]) (by rw [lenInst, Array.length_toList]; omega), List.flatMap_singleton]
            · have e3 := congrArg (fun L => L.drop 3) HI.out.2.2.1
              simp only [List.drop_drop] at e3
              rw [show j * 3 + 3 = (j + 1) * 3 by omega, flat_drop1 (enc := encInst) lenInst] at e3
              have hle : (i + 1) * 3 ≤ (j + 1) * 3 := Nat.mul_le_mul_right _ (by omega)
              rw [e2, ← e3, List.drop_take, List.drop_take, splice_drop (by rw [lenInst]; omega) (by rw [lenInst, Array.length_toList]; omega)]
            · rw [e1, List.length_append, ← HI.out.2.2.2]; rfl
          case measure => simp [intOf]; omega
        | true =>
          rw [hq] at hcall
          have HQ := Lib.hid hq
          have HCALL := Lib.hid hcall
          clear hq hcall
          go_wp2_with fail
          refine (HCALL.out _ (below2 HB.out (vbox_Inst wr x).1)).mono ?_
          rintro e w1 ⟨rfl, hb1⟩
          have hv1 := block_below hb1 (vbox_Inst wr x).2
          have HBW := Lib.hid (below2 HB.out (below2 (vbox_Inst wr x).1 hb1))
          have hgw := block_below hb1 (block_below (vbox_Inst wr x).1 HG.out)
          clear hv1
          have HGW := Lib.hid hgw
          clear hgw hb1
          go_wp2_with fail
          go_roundw
          case rel =>
            refine ⟨i, j + 1, cur, rfl, by go_num, by omega, by omega, HBW, HGW, Lib.hid ?_⟩
            have e1 : (l.take (j + 1)).filter (fun x => !p x) = (l.take j).filter (fun x => !p x) := by
              rw [List.take_add_one, HX.out, List.filter_append]
              simp [HQ.out]
            rw [e1]
            refine ⟨hszc, HI.out.2.1, ?_, HI.out.2.2.2⟩
            have e3 := congrArg (fun L => L.drop 3) HDR.out
            simp only [List.drop_drop] at e3
            rw [show j * 3 + 3 = (j + 1) * 3 by omega] at e3
            rw [e3, List.drop_append, List.drop_of_length_le (by rw [lenInst]; exact Nat.le_refl _), lenInst]
            simp
          case measure => simp [intOf]; omega
      · obtain rfl : j = n := by omega
        have hszc : cur.size = c * 3 := HI.out.1
        have hfit : i * 3 + (j - i) * 3 ≤ cur.size := by
          rw [hszc, ← Nat.add_mul]; exact Nat.mul_le_mul_right _ (by omega)
        have hcl : ∀ ty, (Builtin.clear_ #[26] ty #[.slice (some ⟨gb, i * 3, none⟩) (j - i) (c - i)]).run Tryz.prog wr = .ok (.tuple #[]) (wr.setRow gb (splice cur.toList (i * 3) (Builtin.zeroCells (.agg #[.int .u64 0, .string ⟨#[]⟩, .slice none 0 0] : Value).cells (j - i)).toList).toArray) := fun ty =>
          run_clear_wide wr 26 61 ty _ 3 Tryz.underlying26 zs_Inst rfl (by intro u hu; simp [Value.cells] at hu; rcases hu with rfl | rfl | rfl <;> rfl) gb (i * 3) (j - i) (c - i) cur 61 (by omega) HG.out hfit
        have hci : ¬ (c = i) := by omega
        have hcl2 : i ≤ c := by omega
        have hin : i ≤ j := by omega
        have HCL := Lib.hid hcl
        clear hcl
        have HHQ := Lib.hid (setRow_heap wr gb cur (splice cur.toList (i * 3) (Builtin.zeroCells (.agg #[.int .u64 0, .string ⟨#[]⟩, .slice none 0 0] : Value).cells (j - i)).toList).toArray 61 (0, 0) HG.out)
        have HHB : Hid (Below w0.heap.size w0 (wr.setRow gb (splice cur.toList (i * 3) (Builtin.zeroCells (.agg #[.int .u64 0, .string ⟨#[]⟩, .slice none 0 0] : Value).cells (j - i)).toList).toArray)) := Lib.hid (below_setRow HB.out (by have := HBS.out; have := HBG.out; omega) _)
        have hsp : (splice cur.toList (i * 3) (Builtin.zeroCells (.agg #[.int .u64 0, .string ⟨#[]⟩, .slice none 0 0] : Value).cells (j - i)).toList).toArray.size = cur.size ∧ (splice cur.toList (i * 3) (Builtin.zeroCells (.agg #[.int .u64 0, .string ⟨#[]⟩, .slice none 0 0] : Value).cells (j - i)).toList).toArray.toList.take (i * 3) = cur.toList.take (i * 3) := by
          have hzl : (Builtin.zeroCells (.agg #[.int .u64 0, .string ⟨#[]⟩, .slice none 0 0] : Value).cells (j - i)).toList.length = (j - i) * 3 := by rw [Array.length_toList, size_zeroCells]; rfl
          have hle : i * 3 + (j - i) * 3 ≤ cur.size := by
            exact hfit
          refine ⟨by rw [List.size_toArray, length_splice _ _ _ (by rw [hzl, Array.length_toList]; exact hle), Array.length_toList], ?_⟩
          rw [List.toList_toArray]
          unfold splice
          have hll : (cur.toList.take (i * 3)).length = i * 3 := by rw [List.length_take, Array.length_toList]; omega
          rw [List.take_append_of_le_length (by rw [hll]; exact Nat.le_refl _), List.take_of_length_le (by rw [hll]; exact Nat.le_refl _)]
        have HSP := Lib.hid hsp
        clear hsp
        generalize (splice cur.toList (i * 3) (Builtin.zeroCells (.agg #[.int .u64 0, .string ⟨#[]⟩, .slice none 0 0] : Value).cells (j - i)).toList).toArray = CR at *
        have hcl' := HCL.out
        have hji : ((j : Int) - (i : Int)).toNat = j - i := by omega
        go_wp2
        go_ret
        have hfl : (l.filter fun x => !p x).length = i := by rw [HFL.out]; exact HI.out.2.2.2.symm
        rw [hfl]
        refine ⟨_, _, rfl, rowb_Inst HBG.out HHQ.out (by omega) HCM.out (by rw [HSP.out.1]; exact hszc.symm) hfl ?_, HHB.out⟩
        rw [HFL.out, ← HI.out.2.1]
        first | exact HSP.out.2 | (rw [Nat.mul_one]; exact HSP.out.2)
set_option maxRecDepth 100000 in
theorem without_Inst (A : Option Addr) (n c g : Nat) (lb : Array Value) (l : List EInst) (p : EInst → Bool) (w : World) (S : Nat → Prop) (eg : ∀ args w, (callFunc g args).run Tryz.prog w = .ok (.enter g args) w) (hl : l.length = n) (hby : n * 48 ≤ 140737488355328) (hr : Row w S 3 n (.slice A n c) (l.flatMap encInst))
    (hp : ∀ W, Below w.heap.size w W → ∀ x ∈ l, Calls Tryz.prog g (#[.agg #[.int .u64 x.key, .string x.id, .slice x.vA x.vN x.vC]] ++ lb) W fun e w' => e = .returned (.bool (p x)) ∧ Below W.heap.size W w') :
    Calls Tryz.prog 107 #[.slice A n c, .func (.func g) #[] lb] w fun e w' => ∃ A' c', e = .returned (.slice A' (l.filter fun x => !p x).length c') ∧ w'.ownsRow w.heap.size 61 3 (.slice A' (l.filter fun x => !p x).length c') (l.filter fun x => !p x).length ((l.filter fun x => !p x).flatMap encInst) ∧ Below w.heap.size w w' := by
  have HC := Lib.hid (clone_Inst A n c l w S hl hby hr)
  have HP := Lib.hid hp
  have HL := Lib.hid hl
  have EG := Lib.hid eg
  clear hp hr hl eg
  go_enter Tryz.func107, Tryz.ntmps107
  go_wp2_with (go_at_call 29; refine HC.out.mono ?_; rintro e w1 ⟨A1, c1, rfl, hown, hb⟩; have HO1 := Lib.hid hown; have HB1 := Lib.hid hb; clear hown hb)
  refine (del_Inst w.heap.size _ n g lb l p w w1 EG.out HL.out HO1.out (Nat.le_refl _) HB1.out HP.out).mono ?_
  rintro e w2 ⟨A2, c2, rfl, hown, hb⟩
  have HO2 := Lib.hid hown
  have HB2 := Lib.hid hb
  clear hown hb
  go_wp2_with fail
  go_ret
  exact ⟨A2, c2, rfl, HO2.out, HB2.out⟩
end Go.Proofs.YtgpkmellpllmgaaGreat
/-
  fold.change of Instance. Printed by gfold.py.
-/
set_option linter.unusedVariables false
set_option linter.unusedSimpArgs false
namespace Go.Proofs.YtgpkmellpllmgaaGreat
open Go Go.RowKit Go.Proofs.Base
open Go.Sort (grow)
set_option maxRecDepth 100000 in
set_option maxHeartbeats 4000000 in
theorem change_Inst (A : Option Addr) (n c g g2 : Nat) (lb lb2 : Array Value) (l : List EInst) (p : EInst → Bool) (F : World → EInst → EInst → Prop) (w : World) (S : Nat → Prop) (eg : ∀ args w, (callFunc g args).run Tryz.prog w = .ok (.enter g args) w) (eg2 : ∀ args w, (callFunc g2 args).run Tryz.prog w = .ok (.enter g2 args) w)
    (hl : l.length = n) (hby : n * 48 ≤ 140737488355328) (hr : Row w S 3 n (.slice A n c) (l.flatMap encInst))
    (hp : ∀ W, Below w.heap.size w W → ∀ x ∈ l, Calls Tryz.prog g (#[.agg #[.int .u64 x.key, .string x.id, .slice x.vA x.vN x.vC]] ++ lb) W fun e w' => e = .returned (.bool (p x)) ∧ Below W.heap.size W w')
    (hf : ∀ (W : World) (b : Nat) (cur : Array Value) (i : Nat) (hi : i < l.length), Below w.heap.size w W → w.heap.size ≤ b → W.heap[b]? = some (.cells cur 61 (0, 0)) → cur.toList.take (n * 3) = l.flatMap encInst → n * 3 ≤ cur.size →
      Calls Tryz.prog g2 (#[.pointer (some ⟨b, i * 3, none⟩)] ++ lb2) W fun e w' => e = .returned (.tuple #[]) ∧ ∃ y, ∃ cur' : Array Value, F w' l[i] y ∧ w'.heap[b]? = some (.cells cur' 61 (0, 0)) ∧ cur'.size = cur.size ∧ cur'.toList.take (n * 3) = (l.set i y).flatMap encInst ∧ Below w.heap.size w w') :
    Calls Tryz.prog 95 #[.slice A n c, .func (.func g) #[] lb, .func (.func g2) #[] lb2] w fun e w' => ∃ A' c', ∃ l' : List EInst, e = .returned (.slice A' n c') ∧ Row w' (fun b => S b ∨ w.heap.size ≤ b) 3 n (.slice A' n c') (l'.flatMap encInst) ∧ l'.length = n ∧
      ((idxP p l = -1 ∧ l' = l) ∨ ∃ i, ∃ hi : i < l.length, ∃ y, idxP p l = (i : Int) ∧ F w' l[i] y ∧ l' = l.set i y) ∧ Below w.heap.size w w' := by
  have HIX := Lib.hid (idx_Inst A n c g lb l p w w S eg hl hr (Below.refl _ _) hp)
  have HR := Lib.hid hr
  have HL := Lib.hid hl
  have HBY := Lib.hid hby
  have HF := Lib.hid hf
  obtain ⟨A0, c0, he0, hnc0, hcm0⟩ := hr.open_
  injection he0 with q1 _ q3
  subst q1 q3
  clear hr hl hf hp eg hby
  rcases idxP_spec p l with ⟨h1, -⟩ | ⟨j, hj, h1, -, -⟩
  · go_enter Tryz.func95, Tryz.ntmps95
    go_wp2_with (go_at_call 136; refine HIX.out.mono ?_; rintro e w1 ⟨rfl, hb⟩; rw [h1]; have HB1 := Lib.hid hb; clear hb)
    go_ret
    exact ⟨A, c, l, rfl, (HR.out.below HB1.out).weaken (fun _ _ h => .inl h), HL.out, .inl ⟨h1, rfl⟩, HB1.out⟩
  · have HJ := Lib.hid hj
    have hjn : j < n := by have := HL.out; omega
    have hj0 : ¬ ((j : Int) < 0) := by omega
    clear hj
    go_enter Tryz.func95, Tryz.ntmps95
    go_wp2_with (go_at_call 136; refine HIX.out.mono ?_; rintro e w1 ⟨rfl, hb⟩; rw [h1]; have HB1 := Lib.hid hb; clear hb)
    refine (clone_Inst A n c l w1 S HL.out HBY.out (HR.out.below HB1.out)).mono ?_
    rintro e w2 ⟨A2, c2, rfl, hown, hb⟩
    have HB2 := Lib.hid (below2 HB1.out hb)
    have HB12 := Lib.hid hb
    obtain ⟨gb, cap, cur, hv, hbg, hhg, hnc5, hcm5, hcs5, htk5⟩ := own_some hown (by omega)
    injection hv with hv1 hv2 hv3
    subst hv1 hv3
    have HG := Lib.hid hhg
    have HTK := Lib.hid htk5
    have HCS := Lib.hid hcs5
    have hws := HB1.out.size
    have HBG : Hid (w.heap.size ≤ gb) := Lib.hid (by omega)
    have HCM := Lib.hid hcm5
    clear hown hb hhg htk5 hcs5 hbg hcm5 hws
    go_wp2_with fail
    refine (HF.out w2 gb cur j HJ.out HB2.out HBG.out HG.out HTK.out (by have := HCS.out; have := Nat.mul_le_mul_right 3 hnc5; omega)).mono ?_
    rintro e w3 ⟨rfl, y, cur', hy, hh3, hcs3, htk3, hb3⟩
    have HY := Lib.hid (And.intro hy (And.intro hh3 (And.intro hcs3 (And.intro htk3 hb3))))
    clear hy hh3 hcs3 htk3 hb3
    go_wp2_with fail
    go_ret
    obtain ⟨hy, hh3, hcs3, htk3, hb3⟩ := HY.out
    have hll : (l.set j y).length = n := by rw [List.length_set, HL.out]
    refine ⟨_, _, l.set j y, rfl, (Row.of_own (rowb_Inst (base := w.heap.size) HBG.out hh3 hnc5 HCM.out (by rw [hcs3]; have := HCS.out; omega) hll htk3)).weaken (fun _ _ h => .inr h.1), hll, .inr ⟨j, HJ.out, y, h1, hy, rfl⟩, hb3⟩
end Go.Proofs.YtgpkmellpllmgaaGreat
/-
  slices.DeleteFunc, fold.without of Sub. Printed by gfold.py.
-/
set_option linter.unusedVariables false
set_option linter.unusedSimpArgs false
namespace Go.Proofs.YtgpkmellpllmgaaGreat
open Go Go.RowKit Go.Proofs.Base
open Go.Sort (grow)
theorem vbox_Sub (w : World) (x : ESub) : Below w.heap.size w (w.alloc (.cells #[.int .u64 x.token, .int .u64 x.inst, .int .i64 x.node, .string x.name, .string x.key, .bool x.opn] 73)) ∧ (w.alloc (.cells #[.int .u64 x.token, .int .u64 x.inst, .int .i64 x.node, .string x.name, .string x.key, .bool x.opn] 73)).heap[w.heap.size]? = some (.cells #[.int .u64 x.token, .int .u64 x.inst, .int .i64 x.node, .string x.name, .string x.key, .bool x.opn] 73 (0, 0)) :=
  ⟨below_alloc (Below.refl _ _) _, blk_new _⟩
theorem rowb_Sub {g cap i : Nat} {cur : Array Value} {w : World} {base : Nat} {l : List ESub} (hbg : base ≤ g) (hh : w.heap[g]? = some (.cells cur 73 (0, 0))) (hnc : i ≤ cap) (hcm : cap ≤ maxLen) (hcs : cap * 6 = cur.size) (hl : l.length = i) (ht : cur.toList.take (i * 6) = l.flatMap encSub) :
    w.ownsRow base 73 6 (.slice (some ⟨g, 0, none⟩) i cap) i (l.flatMap encSub) :=
  ⟨by rw [flat_len (enc := encSub) lenSub, hl], .inr ⟨g, cap, cur, rfl, hbg, hh, hnc, hcm, by omega, ht⟩⟩
theorem zs_Sub : ∀ w, (zeroValue 73).run Tryz.prog w = .ok (.agg #[.int .u64 0, .int .u64 0, .int .i64 0, .string ⟨#[]⟩, .string ⟨#[]⟩, .bool false]) w := Tryz.zeroValue73
set_option maxRecDepth 100000 in
set_option maxHeartbeats 4000000 in
theorem del_Sub (base : Nat) (v : Value) (n g : Nat) (lb : Array Value) (l : List ESub) (p : ESub → Bool) (w0 w : World) (eg : ∀ args w, (callFunc g args).run Tryz.prog w = .ok (.enter g args) w) (hl : l.length = n) (hown : w.ownsRow base 73 6 v n (l.flatMap encSub)) (hbase : w0.heap.size ≤ base) (h0 : Below w0.heap.size w0 w)
    (hp : ∀ W, Below w0.heap.size w0 W → ∀ x ∈ l, Calls Tryz.prog g (#[.agg #[.int .u64 x.token, .int .u64 x.inst, .int .i64 x.node, .string x.name, .string x.key, .bool x.opn]] ++ lb) W fun e w' => e = .returned (.bool (p x)) ∧ Below W.heap.size W w') :
    Calls Tryz.prog 195 #[v, .func (.func g) #[] lb] w fun e w' => ∃ A' c', e = .returned (.slice A' (l.filter fun x => !p x).length c') ∧ w'.ownsRow base 73 6 (.slice A' (l.filter fun x => !p x).length c') (l.filter fun x => !p x).length ((l.filter fun x => !p x).flatMap encSub) ∧ Below w0.heap.size w0 w' := by
  obtain ⟨A, c, rfl, hnc, hcc⟩ := (Row.of_own hown).open_
  have HO := Lib.hid hown
  have HL := Lib.hid hl
  have H0 := Lib.hid h0
  have HP := Lib.hid hp
  have HIX : Hid (Calls Tryz.prog 162 #[.slice A n c, .func (.func g) #[] lb] w fun e w' => e = .returned (.int .i64 (idxP p l)) ∧ Below w.heap.size w w') := Lib.hid (idx_Sub A n c g lb l p w0 w _ eg hl (Row.of_own hown) h0 hp)
  rcases idxP_spec p l with ⟨h1, hall⟩ | ⟨k0, hk0, h1, hpt, hbef⟩
  · have hf : l.filter (fun x => !p x) = l := List.filter_eq_self.2 (fun x hx => by rw [hall x hx]; rfl)
    rw [hf, hl]
    clear hown hl h0 hp hall hf
    go_enter Tryz.func195, Tryz.ntmps195
    go_wp2_with (go_at_call 162; refine HIX.out.mono ?_; rintro e w1 ⟨rfl, hb⟩; rw [h1]; have HB1 := Lib.hid hb; clear hb)
    go_ret
    exact ⟨A, c, rfl, own_mut HO.out (Mut.of_below HB1.out (fun _ => False)) (fun _ _ h => h), below2 H0.out HB1.out⟩
  · have hn0 : 0 < n := by omega
    obtain ⟨gb, cap, cur0, hv, hbg, hh0, hnc5, hcm5, hcs5, htk5⟩ := own_some hown (by omega)
    injection hv with hv1 hv2 hv3
    subst hv1 hv3
    have hkn : k0 < n := by omega
    have hne1 : ((k0 : Int) == -1) = false := beq_eq_false_iff_ne.2 (by omega)
    have HS0 : Hid (cur0.size = c * 6 ∧ cur0.toList.take (k0 * 6) = ((l.take (k0 + 1)).filter fun x => !p x).flatMap encSub ∧ (cur0.toList.take (n * 6)).drop ((k0 + 1) * 6) = (l.drop (k0 + 1)).flatMap encSub ∧ k0 = ((l.take (k0 + 1)).filter fun x => !p x).length) := Lib.hid (by
      have e1 : (l.take (k0 + 1)).filter (fun x => !p x) = l.take k0 := by
        rw [List.take_succ_eq_append_getElem hk0, List.filter_append]
        have e2 : (l.take k0).filter (fun x => !p x) = l.take k0 := List.filter_eq_self.2 (fun x hx => by
          obtain ⟨j, hj, rfl⟩ := List.getElem_of_mem hx
          rw [List.length_take] at hj
          rw [List.getElem_take, hbef j (by omega)]; rfl)
        rw [e2]
        simp [hpt]
      refine ⟨by omega, ?_, ?_, ?_⟩
      · rw [e1, ← flat_take (enc := encSub) lenSub, ← htk5, List.take_take]
        congr 1
        exact (Nat.min_eq_left (Nat.mul_le_mul_right _ (Nat.le_of_lt hkn))).symm
      · rw [htk5, flat_drop (enc := encSub) lenSub]
      · rw [e1, List.length_take]; omega)
    have HG0 := Lib.hid hh0
    have HCM := Lib.hid hcm5
    have HBS := Lib.hid hbase
    have HBG := Lib.hid hbg
    have HFL : Hid (l.filter (fun x => !p x) = (l.take n).filter fun x => !p x) := Lib.hid (by rw [← hl, List.take_length])
    have hmx : ∀ k, k < n → ∃ x, l[k]? = some x ∧ x ∈ l := fun k hk => ⟨l[k]'(by omega), List.getElem?_eq_getElem (by omega), List.getElem_mem _⟩
    have HMX := Lib.hid hmx
    clear hown hl h0 hp htk5 hcs5 hh0 hcm5 hbase hbg hk0 hpt hbef hmx HO
    go_enter Tryz.func195, Tryz.ntmps195
    go_wp2_with (go_at_call 162; refine HIX.out.mono ?_; rintro e w1 ⟨rfl, hb⟩; rw [h1]; have HB1 := Lib.hid (below2 H0.out hb); have HG1 := Lib.hid (block_below hb HG0.out); clear hb)
    go_loopw [5, 6, 7] (fun s5 s6 _ wr => ∃ (i j : Nat) (cur : Array Value), s5 = .int .i64 i ∧ s6 = .int .i64 j ∧ j ≤ n ∧ i < j ∧ Hid (Below w0.heap.size w0 wr) ∧ Hid (wr.heap[gb]? = some (.cells cur 73 (0, 0))) ∧ Hid (cur.size = c * 6 ∧ cur.toList.take (i * 6) = ((l.take j).filter fun x => !p x).flatMap encSub ∧ (cur.toList.take (n * 6)).drop (j * 6) = (l.drop j).flatMap encSub ∧ i = ((l.take j).filter fun x => !p x).length)) (fun _ s6 _ _ => n - (intOf s6).toNat)
    case atStart => exact ⟨k0, k0 + 1, cur0, rfl, by go_num, by omega, by omega, HB1, HG1, HS0⟩
    case round =>
      obtain ⟨i, j, cur, rfl, rfl, hjn, hij, HB, HG, HI⟩ := hrel
      have hgs := lt_of_blk HG.out
      by_cases hlt : j < n
      · obtain ⟨x, hx, hxm⟩ := HMX.out j hlt
        have hszc : cur.size = c * 6 := HI.out.1
        have hdr : (cur.toList.take (n * 6)).drop (j * 6) = encSub x ++ (l.drop (j + 1)).flatMap encSub := by
          have hjl : j < l.length := by rw [HL.out]; exact hlt
          have he : l[j] = x := by rw [List.getElem?_eq_getElem hjl] at hx; exact Option.some.inj hx
          rw [HI.out.2.2.1, List.drop_eq_getElem_cons hjl, List.flatMap_cons, he]
        have hcj : ∀ t u, (encSub x)[t]? = some u → t < 6 → cur[j * 6 + t]? = some u := fun t u hu ht => by
          have e := congrArg (fun L => L[t]?) hdr
          simp only [List.getElem?_drop] at e
          rw [List.getElem?_take, if_pos (by omega), List.getElem?_append_left (by rw [lenSub]; exact ht), hu] at e
          rw [← Array.getElem?_toList]; exact e
        have c0 : wr.cell? ⟨gb, j * 6, none⟩ = some (.int .u64 x.token) := (cell_of_blk HG.out _).trans (hcj 0 _ rfl (by decide))
        have c1 : wr.cell? ⟨gb, j * 6 + 1, none⟩ = some (.int .u64 x.inst) := (cell_of_blk HG.out _).trans (hcj 1 _ rfl (by decide))
        have c2 : wr.cell? ⟨gb, j * 6 + 2, none⟩ = some (.int .i64 x.node) := (cell_of_blk HG.out _).trans (hcj 2 _ rfl (by decide))
        have c3 : wr.cell? ⟨gb, j * 6 + 3, none⟩ = some (.string x.name) := (cell_of_blk HG.out _).trans (hcj 3 _ rfl (by decide))
        have c4 : wr.cell? ⟨gb, j * 6 + 4, none⟩ = some (.string x.key) := (cell_of_blk HG.out _).trans (hcj 4 _ rfl (by decide))
        have c5 : wr.cell? ⟨gb, j * 6 + 5, none⟩ = some (.bool x.opn) := (cell_of_blk HG.out _).trans (hcj 5 _ rfl (by decide))
        have hcall := fun W hW => HP.out W hW x hxm
        have HX := Lib.hid hx
        have HDR := Lib.hid hdr
        clear hcj hdr hx hxm
        cases hq : p x with
        | false =>
          rw [hq] at hcall
          have HQ := Lib.hid hq
          have HCALL := Lib.hid hcall
          clear hq hcall
          go_wp2_with fail
          refine (HCALL.out _ (below2 HB.out (vbox_Sub wr x).1)).mono ?_
          rintro e w1 ⟨rfl, hb1⟩
          have hv1 := block_below hb1 (vbox_Sub wr x).2
          have HBW := Lib.hid (below2 HB.out (below2 (vbox_Sub wr x).1 hb1))
          have hgw := block_below hb1 (block_below (vbox_Sub wr x).1 HG.out)
          have k0 := cell_of_blk hv1 0
          have k1 := cell_of_blk hv1 1
          have k2 := cell_of_blk hv1 2
          have k3 := cell_of_blk hv1 3
          have k4 := cell_of_blk hv1 4
          have k5 := cell_of_blk hv1 5
          clear hv1
          obtain ⟨u0, hu0⟩ : ∃ u, cur[i * 6]? = some u := ⟨_, Array.getElem?_eq_getElem (by rw [hszc]; have : i * 6 + 6 ≤ c * 6 := (by have := Nat.mul_le_mul_right 6 (show i + 1 ≤ c by omega); omega); omega)⟩
          have j0 := (cell_of_blk hgw (i * 6)).trans hu0
          have f0 := frozen_of_blk hgw (i * 6)
          clear hu0
          obtain ⟨u1, hu1⟩ : ∃ u, cur[i * 6 + 1]? = some u := ⟨_, Array.getElem?_eq_getElem (by rw [hszc]; have : i * 6 + 6 ≤ c * 6 := (by have := Nat.mul_le_mul_right 6 (show i + 1 ≤ c by omega); omega); omega)⟩
          have j1 := (cell_of_blk hgw (i * 6 + 1)).trans hu1
          have f1 := frozen_of_blk hgw (i * 6 + 1)
          clear hu1
          obtain ⟨u2, hu2⟩ : ∃ u, cur[i * 6 + 2]? = some u := ⟨_, Array.getElem?_eq_getElem (by rw [hszc]; have : i * 6 + 6 ≤ c * 6 := (by have := Nat.mul_le_mul_right 6 (show i + 1 ≤ c by omega); omega); omega)⟩
          have j2 := (cell_of_blk hgw (i * 6 + 2)).trans hu2
          have f2 := frozen_of_blk hgw (i * 6 + 2)
          clear hu2
          obtain ⟨u3, hu3⟩ : ∃ u, cur[i * 6 + 3]? = some u := ⟨_, Array.getElem?_eq_getElem (by rw [hszc]; have : i * 6 + 6 ≤ c * 6 := (by have := Nat.mul_le_mul_right 6 (show i + 1 ≤ c by omega); omega); omega)⟩
          have j3 := (cell_of_blk hgw (i * 6 + 3)).trans hu3
          have f3 := frozen_of_blk hgw (i * 6 + 3)
          clear hu3
          obtain ⟨u4, hu4⟩ : ∃ u, cur[i * 6 + 4]? = some u := ⟨_, Array.getElem?_eq_getElem (by rw [hszc]; have : i * 6 + 6 ≤ c * 6 := (by have := Nat.mul_le_mul_right 6 (show i + 1 ≤ c by omega); omega); omega)⟩
          have j4 := (cell_of_blk hgw (i * 6 + 4)).trans hu4
          have f4 := frozen_of_blk hgw (i * 6 + 4)
          clear hu4
          obtain ⟨u5, hu5⟩ : ∃ u, cur[i * 6 + 5]? = some u := ⟨_, Array.getElem?_eq_getElem (by rw [hszc]; have : i * 6 + 6 ≤ c * 6 := (by have := Nat.mul_le_mul_right 6 (show i + 1 ≤ c by omega); omega); omega)⟩
          have j5 := (cell_of_blk hgw (i * 6 + 5)).trans hu5
          have f5 := frozen_of_blk hgw (i * 6 + 5)
          clear hu5
          have HGW := Lib.hid hgw
          clear hgw hb1
          go_wp2_with fail
          go_roundw
          case rel =>
            refine ⟨i + 1, j + 1, _, by go_num, by go_num, by omega, by omega, Lib.hid (((((((HBW.out).setCell (p := ⟨gb, i * 6, none⟩) (by show _ ≤ gb; have := HBS.out; have := HBG.out; omega) _).setCell (p := ⟨gb, i * 6 + 1, none⟩) (by show _ ≤ gb; have := HBS.out; have := HBG.out; omega) _).setCell (p := ⟨gb, i * 6 + 2, none⟩) (by show _ ≤ gb; have := HBS.out; have := HBG.out; omega) _).setCell (p := ⟨gb, i * 6 + 3, none⟩) (by show _ ≤ gb; have := HBS.out; have := HBG.out; omega) _).setCell (p := ⟨gb, i * 6 + 4, none⟩) (by show _ ≤ gb; have := HBS.out; have := HBG.out; omega) _).setCell (p := ⟨gb, i * 6 + 5, none⟩) (by show _ ≤ gb; have := HBS.out; have := HBG.out; omega) _), Lib.hid (set_blk (o := i * 6 + 5) (set_blk (o := i * 6 + 4) (set_blk (o := i * 6 + 3) (set_blk (o := i * 6 + 2) (set_blk (o := i * 6 + 1) (set_blk (o := i * 6) (HGW.out) (.int .u64 x.token)) (.int .u64 x.inst)) (.int .i64 x.node)) (.string x.name)) (.string x.key)) (.bool x.opn)), Lib.hid ?_⟩
            have e1 : (l.take (j + 1)).filter (fun x => !p x) = (l.take j).filter (fun x => !p x) ++ [x] := by
              rw [List.take_add_one, HX.out, List.filter_append]
              congr 1
              simp [HQ.out]
            have hil : (i + 1) * 6 ≤ cur.size := by rw [hszc]; exact Nat.mul_le_mul_right _ (by omega)
            have e2 : ((((((cur.setIfInBounds (i * 6) (.int .u64 x.token)).setIfInBounds (i * 6 + 1) (.int .u64 x.inst)).setIfInBounds (i * 6 + 2) (.int .i64 x.node)).setIfInBounds (i * 6 + 3) (.string x.name)).setIfInBounds (i * 6 + 4) (.string x.key)).setIfInBounds (i * 6 + 5) (.bool x.opn)).toList = splice cur.toList (i * 6) (encSub x) := by
              rw [← setAll_splice _ _ _ (by rw [lenSub, Array.length_toList]; omega)]
              simp only [Array.toList_setIfInBounds]
              first | rfl | (simp only [Nat.mul_one]; rfl)
            refine ⟨by simp only [Array.size_setIfInBounds]; exact hszc, ?_, ?_, ?_⟩
            · rw [e2, e1, List.flatMap_append, ← HI.out.2.1, splice_take (by rw [lenSub, Nat.succ_mul]) (by rw [lenSub, Array.length_toList]; omega), List.flatMap_singleton]
            · have e3 := congrArg (fun L => L.drop 6) HI.out.2.2.1
              simp only [List.drop_drop] at e3
              rw [show j * 6 + 6 = (j + 1) * 6 by omega, flat_drop1 (enc := encSub) lenSub] at e3
              have hle : (i + 1) * 6 ≤ (j + 1) * 6 := Nat.mul_le_mul_right _ (by omega)
              rw [e2, ← e3, List.drop_take, List.drop_take, splice_drop (by rw [lenSub]; omega) (by rw [lenSub, Array.length_toList]; omega)]
            · rw [e1, List.length_append, ← HI.out.2.2.2]; rfl
          case measure => simp [intOf]; omega
        | true =>
          rw [hq] at hcall
          have HQ := Lib.hid hq
          have HCALL := Lib.hid hcall
          clear hq hcall
          go_wp2_with fail
          refine (HCALL.out _ (below2 HB.out (vbox_Sub wr x).1)).mono ?_
          rintro e w1 ⟨rfl, hb1⟩
          have hv1 := block_below hb1 (vbox_Sub wr x).2
          have HBW := Lib.hid (below2 HB.out (below2 (vbox_Sub wr x).1 hb1))
          have hgw := block_below hb1 (block_below (vbox_Sub wr x).1 HG.out)
          clear hv1
          have HGW := Lib.hid hgw
          clear hgw hb1
          go_wp2_with fail
          go_roundw
          case rel =>
            refine ⟨i, j + 1, cur, rfl, by go_num, by omega, by omega, HBW, HGW, Lib.hid ?_⟩
            have e1 : (l.take (j + 1)).filter (fun x => !p x) = (l.take j).filter (fun x => !p x) := by
              rw [List.take_add_one, HX.out, List.filter_append]
              simp [HQ.out]
            rw [e1]
            refine ⟨hszc, HI.out.2.1, ?_, HI.out.2.2.2⟩
            have e3 := congrArg (fun L => L.drop 6) HDR.out
            simp only [List.drop_drop] at e3
            rw [show j * 6 + 6 = (j + 1) * 6 by omega] at e3
            rw [e3, List.drop_append, List.drop_of_length_le (by rw [lenSub]; exact Nat.le_refl _), lenSub]
            simp
          case measure => simp [intOf]; omega
      · obtain rfl : j = n := by omega
        have hszc : cur.size = c * 6 := HI.out.1
        have hfit : i * 6 + (j - i) * 6 ≤ cur.size := by
          rw [hszc, ← Nat.add_mul]; exact Nat.mul_le_mul_right _ (by omega)
        have hcl : ∀ ty, (Builtin.clear_ #[30] ty #[.slice (some ⟨gb, i * 6, none⟩) (j - i) (c - i)]).run Tryz.prog wr = .ok (.tuple #[]) (wr.setRow gb (splice cur.toList (i * 6) (Builtin.zeroCells (.agg #[.int .u64 0, .int .u64 0, .int .i64 0, .string ⟨#[]⟩, .string ⟨#[]⟩, .bool false] : Value).cells (j - i)).toList).toArray) := fun ty =>
          run_clear_wide wr 30 73 ty _ 6 Tryz.underlying30 zs_Sub rfl (by intro u hu; simp [Value.cells] at hu; rcases hu with rfl | rfl | rfl | rfl | rfl | rfl <;> rfl) gb (i * 6) (j - i) (c - i) cur 73 (by omega) HG.out hfit
        have hci : ¬ (c = i) := by omega
        have hcl2 : i ≤ c := by omega
        have hin : i ≤ j := by omega
        have HCL := Lib.hid hcl
        clear hcl
        have HHQ := Lib.hid (setRow_heap wr gb cur (splice cur.toList (i * 6) (Builtin.zeroCells (.agg #[.int .u64 0, .int .u64 0, .int .i64 0, .string ⟨#[]⟩, .string ⟨#[]⟩, .bool false] : Value).cells (j - i)).toList).toArray 73 (0, 0) HG.out)
        have HHB : Hid (Below w0.heap.size w0 (wr.setRow gb (splice cur.toList (i * 6) (Builtin.zeroCells (.agg #[.int .u64 0, .int .u64 0, .int .i64 0, .string ⟨#[]⟩, .string ⟨#[]⟩, .bool false] : Value).cells (j - i)).toList).toArray)) := Lib.hid (below_setRow HB.out (by have := HBS.out; have := HBG.out; omega) _)
        have hsp : (splice cur.toList (i * 6) (Builtin.zeroCells (.agg #[.int .u64 0, .int .u64 0, .int .i64 0, .string ⟨#[]⟩, .string ⟨#[]⟩, .bool false] : Value).cells (j - i)).toList).toArray.size = cur.size ∧ (splice cur.toList (i * 6) (Builtin.zeroCells (.agg #[.int .u64 0, .int .u64 0, .int .i64 0, .string ⟨#[]⟩, .string ⟨#[]⟩, .bool false] : Value).cells (j - i)).toList).toArray.toList.take (i * 6) = cur.toList.take (i * 6) := by
          have hzl : (Builtin.zeroCells (.agg #[.int .u64 0, .int .u64 0, .int .i64 0, .string ⟨#[]⟩, .string ⟨#[]⟩, .bool false] : Value).cells (j - i)).toList.length = (j - i) * 6 := by rw [Array.length_toList, size_zeroCells]; rfl
          have hle : i * 6 + (j - i) * 6 ≤ cur.size := by
            exact hfit
          refine ⟨by rw [List.size_toArray, length_splice _ _ _ (by rw [hzl, Array.length_toList]; exact hle), Array.length_toList], ?_⟩
          rw [List.toList_toArray]
          unfold splice
          have hll : (cur.toList.take (i * 6)).length = i * 6 := by rw [List.length_take, Array.length_toList]; omega
          rw [List.take_append_of_le_length (by rw [hll]; exact Nat.le_refl _), List.take_of_length_le (by rw [hll]; exact Nat.le_refl _)]
        have HSP := Lib.hid hsp
        clear hsp
        generalize (splice cur.toList (i * 6) (Builtin.zeroCells (.agg #[.int .u64 0, .int .u64 0, .int .i64 0, .string ⟨#[]⟩, .string ⟨#[]⟩, .bool false] : Value).cells (j - i)).toList).toArray = CR at *
        have hcl' := HCL.out
        have hji : ((j : Int) - (i : Int)).toNat = j - i := by omega
        go_wp2
        go_ret
        have hfl : (l.filter fun x => !p x).length = i := by rw [HFL.out]; exact HI.out.2.2.2.symm
        rw [hfl]
        refine ⟨_, _, rfl, rowb_Sub HBG.out HHQ.out (by omega) HCM.out (by rw [HSP.out.1]; exact hszc.symm) hfl ?_, HHB.out⟩
        rw [HFL.out, ← HI.out.2.1]
        first | exact HSP.out.2 | (rw [Nat.mul_one]; exact HSP.out.2)
set_option maxRecDepth 100000 in
theorem without_Sub (A : Option Addr) (n c g : Nat) (lb : Array Value) (l : List ESub) (p : ESub → Bool) (w : World) (S : Nat → Prop) (eg : ∀ args w, (callFunc g args).run Tryz.prog w = .ok (.enter g args) w) (hl : l.length = n) (hby : n * 64 ≤ 140737488355328) (hr : Row w S 6 n (.slice A n c) (l.flatMap encSub))
    (hp : ∀ W, Below w.heap.size w W → ∀ x ∈ l, Calls Tryz.prog g (#[.agg #[.int .u64 x.token, .int .u64 x.inst, .int .i64 x.node, .string x.name, .string x.key, .bool x.opn]] ++ lb) W fun e w' => e = .returned (.bool (p x)) ∧ Below W.heap.size W w') :
    Calls Tryz.prog 150 #[.slice A n c, .func (.func g) #[] lb] w fun e w' => ∃ A' c', e = .returned (.slice A' (l.filter fun x => !p x).length c') ∧ w'.ownsRow w.heap.size 73 6 (.slice A' (l.filter fun x => !p x).length c') (l.filter fun x => !p x).length ((l.filter fun x => !p x).flatMap encSub) ∧ Below w.heap.size w w' := by
  have HC := Lib.hid (clone_Sub A n c l w S hl hby hr)
  have HP := Lib.hid hp
  have HL := Lib.hid hl
  have EG := Lib.hid eg
  clear hp hr hl eg
  go_enter Tryz.func150, Tryz.ntmps150
  go_wp2_with (go_at_call 27; refine HC.out.mono ?_; rintro e w1 ⟨A1, c1, rfl, hown, hb⟩; have HO1 := Lib.hid hown; have HB1 := Lib.hid hb; clear hown hb)
  refine (del_Sub w.heap.size _ n g lb l p w w1 EG.out HL.out HO1.out (Nat.le_refl _) HB1.out HP.out).mono ?_
  rintro e w2 ⟨A2, c2, rfl, hown, hb⟩
  have HO2 := Lib.hid hown
  have HB2 := Lib.hid hb
  clear hown hb
  go_wp2_with fail
  go_ret
  exact ⟨A2, c2, rfl, HO2.out, HB2.out⟩
end Go.Proofs.YtgpkmellpllmgaaGreat
/-
  fold.change of Sub. Printed by gfold.py.
-/
set_option linter.unusedVariables false
set_option linter.unusedSimpArgs false
namespace Go.Proofs.YtgpkmellpllmgaaGreat
open Go Go.RowKit Go.Proofs.Base
open Go.Sort (grow)
set_option maxRecDepth 100000 in
set_option maxHeartbeats 4000000 in
theorem change_Sub (A : Option Addr) (n c g g2 : Nat) (lb lb2 : Array Value) (l : List ESub) (p : ESub → Bool) (F : World → ESub → ESub → Prop) (w : World) (S : Nat → Prop) (eg : ∀ args w, (callFunc g args).run Tryz.prog w = .ok (.enter g args) w) (eg2 : ∀ args w, (callFunc g2 args).run Tryz.prog w = .ok (.enter g2 args) w)
    (hl : l.length = n) (hby : n * 64 ≤ 140737488355328) (hr : Row w S 6 n (.slice A n c) (l.flatMap encSub))
    (hp : ∀ W, Below w.heap.size w W → ∀ x ∈ l, Calls Tryz.prog g (#[.agg #[.int .u64 x.token, .int .u64 x.inst, .int .i64 x.node, .string x.name, .string x.key, .bool x.opn]] ++ lb) W fun e w' => e = .returned (.bool (p x)) ∧ Below W.heap.size W w')
    (hf : ∀ (W : World) (b : Nat) (cur : Array Value) (i : Nat) (hi : i < l.length), Below w.heap.size w W → w.heap.size ≤ b → W.heap[b]? = some (.cells cur 73 (0, 0)) → cur.toList.take (n * 6) = l.flatMap encSub → n * 6 ≤ cur.size →
      Calls Tryz.prog g2 (#[.pointer (some ⟨b, i * 6, none⟩)] ++ lb2) W fun e w' => e = .returned (.tuple #[]) ∧ ∃ y, ∃ cur' : Array Value, F w' l[i] y ∧ w'.heap[b]? = some (.cells cur' 73 (0, 0)) ∧ cur'.size = cur.size ∧ cur'.toList.take (n * 6) = (l.set i y).flatMap encSub ∧ Below w.heap.size w w') :
    Calls Tryz.prog 103 #[.slice A n c, .func (.func g) #[] lb, .func (.func g2) #[] lb2] w fun e w' => ∃ A' c', ∃ l' : List ESub, e = .returned (.slice A' n c') ∧ Row w' (fun b => S b ∨ w.heap.size ≤ b) 6 n (.slice A' n c') (l'.flatMap encSub) ∧ l'.length = n ∧
      ((idxP p l = -1 ∧ l' = l) ∨ ∃ i, ∃ hi : i < l.length, ∃ y, idxP p l = (i : Int) ∧ F w' l[i] y ∧ l' = l.set i y) ∧ Below w.heap.size w w' := by
  have HIX := Lib.hid (idx_Sub A n c g lb l p w w S eg hl hr (Below.refl _ _) hp)
  have HR := Lib.hid hr
  have HL := Lib.hid hl
  have HBY := Lib.hid hby
  have HF := Lib.hid hf
  obtain ⟨A0, c0, he0, hnc0, hcm0⟩ := hr.open_
  injection he0 with q1 _ q3
  subst q1 q3
  clear hr hl hf hp eg hby
  rcases idxP_spec p l with ⟨h1, -⟩ | ⟨j, hj, h1, -, -⟩
  · go_enter Tryz.func103, Tryz.ntmps103
    go_wp2_with (go_at_call 162; refine HIX.out.mono ?_; rintro e w1 ⟨rfl, hb⟩; rw [h1]; have HB1 := Lib.hid hb; clear hb)
    go_ret
    exact ⟨A, c, l, rfl, (HR.out.below HB1.out).weaken (fun _ _ h => .inl h), HL.out, .inl ⟨h1, rfl⟩, HB1.out⟩
  · have HJ := Lib.hid hj
    have hjn : j < n := by have := HL.out; omega
    have hj0 : ¬ ((j : Int) < 0) := by omega
    clear hj
    go_enter Tryz.func103, Tryz.ntmps103
    go_wp2_with (go_at_call 162; refine HIX.out.mono ?_; rintro e w1 ⟨rfl, hb⟩; rw [h1]; have HB1 := Lib.hid hb; clear hb)
    refine (clone_Sub A n c l w1 S HL.out HBY.out (HR.out.below HB1.out)).mono ?_
    rintro e w2 ⟨A2, c2, rfl, hown, hb⟩
    have HB2 := Lib.hid (below2 HB1.out hb)
    have HB12 := Lib.hid hb
    obtain ⟨gb, cap, cur, hv, hbg, hhg, hnc5, hcm5, hcs5, htk5⟩ := own_some hown (by omega)
    injection hv with hv1 hv2 hv3
    subst hv1 hv3
    have HG := Lib.hid hhg
    have HTK := Lib.hid htk5
    have HCS := Lib.hid hcs5
    have hws := HB1.out.size
    have HBG : Hid (w.heap.size ≤ gb) := Lib.hid (by omega)
    have HCM := Lib.hid hcm5
    clear hown hb hhg htk5 hcs5 hbg hcm5 hws
    go_wp2_with fail
    refine (HF.out w2 gb cur j HJ.out HB2.out HBG.out HG.out HTK.out (by have := HCS.out; have := Nat.mul_le_mul_right 6 hnc5; omega)).mono ?_
    rintro e w3 ⟨rfl, y, cur', hy, hh3, hcs3, htk3, hb3⟩
    have HY := Lib.hid (And.intro hy (And.intro hh3 (And.intro hcs3 (And.intro htk3 hb3))))
    clear hy hh3 hcs3 htk3 hb3
    go_wp2_with fail
    go_ret
    obtain ⟨hy, hh3, hcs3, htk3, hb3⟩ := HY.out
    have hll : (l.set j y).length = n := by rw [List.length_set, HL.out]
    refine ⟨_, _, l.set j y, rfl, (Row.of_own (rowb_Sub (base := w.heap.size) HBG.out hh3 hnc5 HCM.out (by rw [hcs3]; have := HCS.out; omega) hll htk3)).weaken (fun _ _ h => .inr h.1), hll, .inr ⟨j, HJ.out, y, h1, hy, rfl⟩, hb3⟩
end Go.Proofs.YtgpkmellpllmgaaGreat
/-
  slices.DeleteFunc, fold.without of Token. Printed by gfold.py.
-/
set_option linter.unusedVariables false
set_option linter.unusedSimpArgs false
namespace Go.Proofs.YtgpkmellpllmgaaGreat
open Go Go.RowKit Go.Proofs.Base
open Go.Sort (grow)
theorem vbox_Tok (w : World) (x : ETok) : Below w.heap.size w (w.alloc (.cells #[.int .u64 x.key, .int .u64 x.inst, .int .u64 x.scope, .int .i64 x.node, .int .i64 x.flow, .string x.stuck] 42)) ∧ (w.alloc (.cells #[.int .u64 x.key, .int .u64 x.inst, .int .u64 x.scope, .int .i64 x.node, .int .i64 x.flow, .string x.stuck] 42)).heap[w.heap.size]? = some (.cells #[.int .u64 x.key, .int .u64 x.inst, .int .u64 x.scope, .int .i64 x.node, .int .i64 x.flow, .string x.stuck] 42 (0, 0)) :=
  ⟨below_alloc (Below.refl _ _) _, blk_new _⟩
theorem rowb_Tok {g cap i : Nat} {cur : Array Value} {w : World} {base : Nat} {l : List ETok} (hbg : base ≤ g) (hh : w.heap[g]? = some (.cells cur 42 (0, 0))) (hnc : i ≤ cap) (hcm : cap ≤ maxLen) (hcs : cap * 6 = cur.size) (hl : l.length = i) (ht : cur.toList.take (i * 6) = l.flatMap encTok) :
    w.ownsRow base 42 6 (.slice (some ⟨g, 0, none⟩) i cap) i (l.flatMap encTok) :=
  ⟨by rw [flat_len (enc := encTok) lenTok, hl], .inr ⟨g, cap, cur, rfl, hbg, hh, hnc, hcm, by omega, ht⟩⟩
theorem zs_Tok : ∀ w, (zeroValue 42).run Tryz.prog w = .ok (.agg #[.int .u64 0, .int .u64 0, .int .u64 0, .int .i64 0, .int .i64 0, .string ⟨#[]⟩]) w := Tryz.zeroValue42
set_option maxRecDepth 100000 in
set_option maxHeartbeats 4000000 in
theorem del_Tok (base : Nat) (v : Value) (n g : Nat) (lb : Array Value) (l : List ETok) (p : ETok → Bool) (w0 w : World) (eg : ∀ args w, (callFunc g args).run Tryz.prog w = .ok (.enter g args) w) (hl : l.length = n) (hown : w.ownsRow base 42 6 v n (l.flatMap encTok)) (hbase : w0.heap.size ≤ base) (h0 : Below w0.heap.size w0 w)
    (hp : ∀ W, Below w0.heap.size w0 W → ∀ x ∈ l, Calls Tryz.prog g (#[.agg #[.int .u64 x.key, .int .u64 x.inst, .int .u64 x.scope, .int .i64 x.node, .int .i64 x.flow, .string x.stuck]] ++ lb) W fun e w' => e = .returned (.bool (p x)) ∧ Below W.heap.size W w') :
    Calls Tryz.prog 192 #[v, .func (.func g) #[] lb] w fun e w' => ∃ A' c', e = .returned (.slice A' (l.filter fun x => !p x).length c') ∧ w'.ownsRow base 42 6 (.slice A' (l.filter fun x => !p x).length c') (l.filter fun x => !p x).length ((l.filter fun x => !p x).flatMap encTok) ∧ Below w0.heap.size w0 w' := by
  obtain ⟨A, c, rfl, hnc, hcc⟩ := (Row.of_own hown).open_
  have HO := Lib.hid hown
  have HL := Lib.hid hl
  have H0 := Lib.hid h0
  have HP := Lib.hid hp
  have HIX : Hid (Calls Tryz.prog 76 #[.slice A n c, .func (.func g) #[] lb] w fun e w' => e = .returned (.int .i64 (idxP p l)) ∧ Below w.heap.size w w') := Lib.hid (idx_Tok A n c g lb l p w0 w _ eg hl (Row.of_own hown) h0 hp)
  rcases idxP_spec p l with ⟨h1, hall⟩ | ⟨k0, hk0, h1, hpt, hbef⟩
  · have hf : l.filter (fun x => !p x) = l := List.filter_eq_self.2 (fun x hx => by rw [hall x hx]; rfl)
    rw [hf, hl]
    clear hown hl h0 hp hall hf
    go_enter Tryz.func192, Tryz.ntmps192
    go_wp2_with (go_at_call 76; refine HIX.out.mono ?_; rintro e w1 ⟨rfl, hb⟩; rw [h1]; have HB1 := Lib.hid hb; clear hb)
    go_ret
    exact ⟨A, c, rfl, own_mut HO.out (Mut.of_below HB1.out (fun _ => False)) (fun _ _ h => h), below2 H0.out HB1.out⟩
  · have hn0 : 0 < n := by omega
    obtain ⟨gb, cap, cur0, hv, hbg, hh0, hnc5, hcm5, hcs5, htk5⟩ := own_some hown (by omega)
    injection hv with hv1 hv2 hv3
    subst hv1 hv3
    have hkn : k0 < n := by omega
    have hne1 : ((k0 : Int) == -1) = false := beq_eq_false_iff_ne.2 (by omega)
    have HS0 : Hid (cur0.size = c * 6 ∧ cur0.toList.take (k0 * 6) = ((l.take (k0 + 1)).filter fun x => !p x).flatMap encTok ∧ (cur0.toList.take (n * 6)).drop ((k0 + 1) * 6) = (l.drop (k0 + 1)).flatMap encTok ∧ k0 = ((l.take (k0 + 1)).filter fun x => !p x).length) := Lib.hid (by
      have e1 : (l.take (k0 + 1)).filter (fun x => !p x) = l.take k0 := by
        rw [List.take_succ_eq_append_getElem hk0, List.filter_append]
        have e2 : (l.take k0).filter (fun x => !p x) = l.take k0 := List.filter_eq_self.2 (fun x hx => by
          obtain ⟨j, hj, rfl⟩ := List.getElem_of_mem hx
          rw [List.length_take] at hj
          rw [List.getElem_take, hbef j (by omega)]; rfl)
        rw [e2]
        simp [hpt]
      refine ⟨by omega, ?_, ?_, ?_⟩
      · rw [e1, ← flat_take (enc := encTok) lenTok, ← htk5, List.take_take]
        congr 1
        exact (Nat.min_eq_left (Nat.mul_le_mul_right _ (Nat.le_of_lt hkn))).symm
      · rw [htk5, flat_drop (enc := encTok) lenTok]
      · rw [e1, List.length_take]; omega)
    have HG0 := Lib.hid hh0
    have HCM := Lib.hid hcm5
    have HBS := Lib.hid hbase
    have HBG := Lib.hid hbg
    have HFL : Hid (l.filter (fun x => !p x) = (l.take n).filter fun x => !p x) := Lib.hid (by rw [← hl, List.take_length])
    have hmx : ∀ k, k < n → ∃ x, l[k]? = some x ∧ x ∈ l := fun k hk => ⟨l[k]'(by omega), List.getElem?_eq_getElem (by omega), List.getElem_mem _⟩
    have HMX := Lib.hid hmx
    clear hown hl h0 hp htk5 hcs5 hh0 hcm5 hbase hbg hk0 hpt hbef hmx HO
    go_enter Tryz.func192, Tryz.ntmps192
    go_wp2_with (go_at_call 76; refine HIX.out.mono ?_; rintro e w1 ⟨rfl, hb⟩; rw [h1]; have HB1 := Lib.hid (below2 H0.out hb); have HG1 := Lib.hid (block_below hb HG0.out); clear hb)
    go_loopw [5, 6, 7] (fun s5 s6 _ wr => ∃ (i j : Nat) (cur : Array Value), s5 = .int .i64 i ∧ s6 = .int .i64 j ∧ j ≤ n ∧ i < j ∧ Hid (Below w0.heap.size w0 wr) ∧ Hid (wr.heap[gb]? = some (.cells cur 42 (0, 0))) ∧ Hid (cur.size = c * 6 ∧ cur.toList.take (i * 6) = ((l.take j).filter fun x => !p x).flatMap encTok ∧ (cur.toList.take (n * 6)).drop (j * 6) = (l.drop j).flatMap encTok ∧ i = ((l.take j).filter fun x => !p x).length)) (fun _ s6 _ _ => n - (intOf s6).toNat)
    case atStart => exact ⟨k0, k0 + 1, cur0, rfl, by go_num, by omega, by omega, HB1, HG1, HS0⟩
    case round =>
      obtain ⟨i, j, cur, rfl, rfl, hjn, hij, HB, HG, HI⟩ := hrel
      have hgs := lt_of_blk HG.out
      by_cases hlt : j < n
      · obtain ⟨x, hx, hxm⟩ := HMX.out j hlt
        have hszc : cur.size = c * 6 := HI.out.1
        have hdr : (cur.toList.take (n * 6)).drop (j * 6) = encTok x ++ (l.drop (j + 1)).flatMap encTok := by
          have hjl : j < l.length := by rw [HL.out]; exact hlt
          have he : l[j] = x := by rw [List.getElem?_eq_getElem hjl] at hx; exact Option.some.inj hx
          rw [HI.out.2.2.1, List.drop_eq_getElem_cons hjl, List.flatMap_cons, he]
        have hcj : ∀ t u, (encTok x)[t]? = some u → t < 6 → cur[j * 6 + t]? = some u := fun t u hu ht => by
          have e := congrArg (fun L => L[t]?) hdr
          simp only [List.getElem?_drop] at e
          rw [List.getElem?_take, if_pos (by omega), List.getElem?_append_left (by rw [lenTok]; exact ht), hu] at e
          rw [← Array.getElem?_toList]; exact e
        have c0 : wr.cell? ⟨gb, j * 6, none⟩ = some (.int .u64 x.key) := (cell_of_blk HG.out _).trans (hcj 0 _ rfl (by decide))
        have c1 : wr.cell? ⟨gb, j * 6 + 1, none⟩ = some (.int .u64 x.inst) := (cell_of_blk HG.out _).trans (hcj 1 _ rfl (by decide))
        have c2 : wr.cell? ⟨gb, j * 6 + 2, none⟩ = some (.int .u64 x.scope) := (cell_of_blk HG.out _).trans (hcj 2 _ rfl (by decide))
        have c3 : wr.cell? ⟨gb, j * 6 + 3, none⟩ = some (.int .i64 x.node) := (cell_of_blk HG.out _).trans (hcj 3 _ rfl (by decide))
        have c4 : wr.cell? ⟨gb, j * 6 + 4, none⟩ = some (.int .i64 x.flow) := (cell_of_blk HG.out _).trans (hcj 4 _ rfl (by decide))
        have c5 : wr.cell? ⟨gb, j * 6 + 5, none⟩ = some (.string x.stuck) := (cell_of_blk HG.out _).trans (hcj 5 _ rfl (by decide))
        have hcall := fun W hW => HP.out W hW x hxm
        have HX := Lib.hid hx
        have HDR := Lib.hid hdr
        clear hcj hdr hx hxm
        cases hq : p x with
        | false =>
          rw [hq] at hcall
          have HQ := Lib.hid hq
          have HCALL := Lib.hid hcall
          clear hq hcall
          go_wp2_with fail
          refine (HCALL.out _ (below2 HB.out (vbox_Tok wr x).1)).mono ?_
          rintro e w1 ⟨rfl, hb1⟩
          have hv1 := block_below hb1 (vbox_Tok wr x).2
          have HBW := Lib.hid (below2 HB.out (below2 (vbox_Tok wr x).1 hb1))
          have hgw := block_below hb1 (block_below (vbox_Tok wr x).1 HG.out)
          have k0 := cell_of_blk hv1 0
          have k1 := cell_of_blk hv1 1
          have k2 := cell_of_blk hv1 2
          have k3 := cell_of_blk hv1 3
          have k4 := cell_of_blk hv1 4
          have k5 := cell_of_blk hv1 5
          clear hv1
          obtain ⟨u0, hu0⟩ : ∃ u, cur[i * 6]? = some u := ⟨_, Array.getElem?_eq_getElem (by rw [hszc]; have : i * 6 + 6 ≤ c * 6 := (by have := Nat.mul_le_mul_right 6 (show i + 1 ≤ c by omega); omega); omega)⟩
          have j0 := (cell_of_blk hgw (i * 6)).trans hu0
          have f0 := frozen_of_blk hgw (i * 6)
          clear hu0
          obtain ⟨u1, hu1⟩ : ∃ u, cur[i * 6 + 1]? = some u := ⟨_, Array.getElem?_eq_getElem (by rw [hszc]; have : i * 6 + 6 ≤ c * 6 := (by have := Nat.mul_le_mul_right 6 (show i + 1 ≤ c by omega); omega); omega)⟩
          have j1 := (cell_of_blk hgw (i * 6 + 1)).trans hu1
          have f1 := frozen_of_blk hgw (i * 6 + 1)
          clear hu1
          obtain ⟨u2, hu2⟩ : ∃ u, cur[i * 6 + 2]? = some u := ⟨_, Array.getElem?_eq_getElem (by rw [hszc]; have : i * 6 + 6 ≤ c * 6 := (by have := Nat.mul_le_mul_right 6 (show i + 1 ≤ c by omega); omega); omega)⟩
          have j2 := (cell_of_blk hgw (i * 6 + 2)).trans hu2
          have f2 := frozen_of_blk hgw (i * 6 + 2)
          clear hu2
          obtain ⟨u3, hu3⟩ : ∃ u, cur[i * 6 + 3]? = some u := ⟨_, Array.getElem?_eq_getElem (by rw [hszc]; have : i * 6 + 6 ≤ c * 6 := (by have := Nat.mul_le_mul_right 6 (show i + 1 ≤ c by omega); omega); omega)⟩
          have j3 := (cell_of_blk hgw (i * 6 + 3)).trans hu3
          have f3 := frozen_of_blk hgw (i * 6 + 3)
          clear hu3
          obtain ⟨u4, hu4⟩ : ∃ u, cur[i * 6 + 4]? = some u := ⟨_, Array.getElem?_eq_getElem (by rw [hszc]; have : i * 6 + 6 ≤ c * 6 := (by have := Nat.mul_le_mul_right 6 (show i + 1 ≤ c by omega); omega); omega)⟩
          have j4 := (cell_of_blk hgw (i * 6 + 4)).trans hu4
          have f4 := frozen_of_blk hgw (i * 6 + 4)
          clear hu4
          obtain ⟨u5, hu5⟩ : ∃ u, cur[i * 6 + 5]? = some u := ⟨_, Array.getElem?_eq_getElem (by rw [hszc]; have : i * 6 + 6 ≤ c * 6 := (by have := Nat.mul_le_mul_right 6 (show i + 1 ≤ c by omega); omega); omega)⟩
          have j5 := (cell_of_blk hgw (i * 6 + 5)).trans hu5
          have f5 := frozen_of_blk hgw (i * 6 + 5)
          clear hu5
          have HGW := Lib.hid hgw
          clear hgw hb1
          go_wp2_with fail
          go_roundw
          case rel =>
            refine ⟨i + 1, j + 1, _, by go_num, by go_num, by omega, by omega, Lib.hid (((((((HBW.out).setCell (p := ⟨gb, i * 6, none⟩) (by show _ ≤ gb; have := HBS.out; have := HBG.out; omega) _).setCell (p := ⟨gb, i * 6 + 1, none⟩) (by show _ ≤ gb; have := HBS.out; have := HBG.out; omega) _).setCell (p := ⟨gb, i * 6 + 2, none⟩) (by show _ ≤ gb; have := HBS.out; have := HBG.out; omega) _).setCell (p := ⟨gb, i * 6 + 3, none⟩) (by show _ ≤ gb; have := HBS.out; have := HBG.out; omega) _).setCell (p := ⟨gb, i * 6 + 4, none⟩) (by show _ ≤ gb; have := HBS.out; have := HBG.out; omega) _).setCell (p := ⟨gb, i * 6 + 5, none⟩) (by show _ ≤ gb; have := HBS.out; have := HBG.out; omega) _), Lib.hid (set_blk (o := i * 6 + 5) (set_blk (o := i * 6 + 4) (set_blk (o := i * 6 + 3) (set_blk (o := i * 6 + 2) (set_blk (o := i * 6 + 1) (set_blk (o := i * 6) (HGW.out) (.int .u64 x.key)) (.int .u64 x.inst)) (.int .u64 x.scope)) (.int .i64 x.node)) (.int .i64 x.flow)) (.string x.stuck)), Lib.hid ?_⟩
            have e1 : (l.take (j + 1)).filter (fun x => !p x) = (l.take j).filter (fun x => !p x) ++ [x] := by
              rw [List.take_add_one, HX.out, List.filter_append]
              congr 1
              simp [HQ.out]
            have hil : (i + 1) * 6 ≤ cur.size := by rw [hszc]; exact Nat.mul_le_mul_right _ (by omega)
            have e2 : ((((((cur.setIfInBounds (i * 6) (.int .u64 x.key)).setIfInBounds (i * 6 + 1) (.int .u64 x.inst)).setIfInBounds (i * 6 + 2) (.int .u64 x.scope)).setIfInBounds (i * 6 + 3) (.int .i64 x.node)).setIfInBounds (i * 6 + 4) (.int .i64 x.flow)).setIfInBounds (i * 6 + 5) (.string x.stuck)).toList = splice cur.toList (i * 6) (encTok x) := by
              rw [← setAll_splice _ _ _ (by rw [lenTok, Array.length_toList]; omega)]
              simp only [Array.toList_setIfInBounds]
              first | rfl | (simp only [Nat.mul_one]; rfl)
            refine ⟨by simp only [Array.size_setIfInBounds]; exact hszc, ?_, ?_, ?_⟩
            · rw [e2, e1, List.flatMap_append, ← HI.out.2.1, splice_take (by rw [lenTok, Nat.succ_mul]) (by rw [lenTok, Array.length_toList]; omega), List.flatMap_singleton]
            · have e3 := congrArg (fun L => L.drop 6) HI.out.2.2.1
              simp only [List.drop_drop] at e3
              rw [show j * 6 + 6 = (j + 1) * 6 by omega, flat_drop1 (enc := encTok) lenTok] at e3
              have hle : (i + 1) * 6 ≤ (j + 1) * 6 := Nat.mul_le_mul_right _ (by omega)
              rw [e2, ← e3, List.drop_take, List.drop_take, splice_drop (by rw [lenTok]; omega) (by rw [lenTok, Array.length_toList]; omega)]
            · rw [e1, List.length_append, ← HI.out.2.2.2]; rfl
          case measure => simp [intOf]; omega
        | true =>
          rw [hq] at hcall
          have HQ := Lib.hid hq
          have HCALL := Lib.hid hcall
          clear hq hcall
          go_wp2_with fail
          refine (HCALL.out _ (below2 HB.out (vbox_Tok wr x).1)).mono ?_
          rintro e w1 ⟨rfl, hb1⟩
          have hv1 := block_below hb1 (vbox_Tok wr x).2
          have HBW := Lib.hid (below2 HB.out (below2 (vbox_Tok wr x).1 hb1))
          have hgw := block_below hb1 (block_below (vbox_Tok wr x).1 HG.out)
          clear hv1
          have HGW := Lib.hid hgw
          clear hgw hb1
          go_wp2_with fail
          go_roundw
          case rel =>
            refine ⟨i, j + 1, cur, rfl, by go_num, by omega, by omega, HBW, HGW, Lib.hid ?_⟩
            have e1 : (l.take (j + 1)).filter (fun x => !p x) = (l.take j).filter (fun x => !p x) := by
              rw [List.take_add_one, HX.out, List.filter_append]
              simp [HQ.out]
            rw [e1]
            refine ⟨hszc, HI.out.2.1, ?_, HI.out.2.2.2⟩
            have e3 := congrArg (fun L => L.drop 6) HDR.out
            simp only [List.drop_drop] at e3
            rw [show j * 6 + 6 = (j + 1) * 6 by omega] at e3
            rw [e3, List.drop_append, List.drop_of_length_le (by rw [lenTok]; exact Nat.le_refl _), lenTok]
            simp
          case measure => simp [intOf]; omega
      · obtain rfl : j = n := by omega
        have hszc : cur.size = c * 6 := HI.out.1
        have hfit : i * 6 + (j - i) * 6 ≤ cur.size := by
          rw [hszc, ← Nat.add_mul]; exact Nat.mul_le_mul_right _ (by omega)
        have hcl : ∀ ty, (Builtin.clear_ #[27] ty #[.slice (some ⟨gb, i * 6, none⟩) (j - i) (c - i)]).run Tryz.prog wr = .ok (.tuple #[]) (wr.setRow gb (splice cur.toList (i * 6) (Builtin.zeroCells (.agg #[.int .u64 0, .int .u64 0, .int .u64 0, .int .i64 0, .int .i64 0, .string ⟨#[]⟩] : Value).cells (j - i)).toList).toArray) := fun ty =>
          run_clear_wide wr 27 42 ty _ 6 Tryz.underlying27 zs_Tok rfl (by intro u hu; simp [Value.cells] at hu; rcases hu with rfl | rfl | rfl | rfl | rfl | rfl <;> rfl) gb (i * 6) (j - i) (c - i) cur 42 (by omega) HG.out hfit
        have hci : ¬ (c = i) := by omega
        have hcl2 : i ≤ c := by omega
        have hin : i ≤ j := by omega
        have HCL := Lib.hid hcl
        clear hcl
        have HHQ := Lib.hid (setRow_heap wr gb cur (splice cur.toList (i * 6) (Builtin.zeroCells (.agg #[.int .u64 0, .int .u64 0, .int .u64 0, .int .i64 0, .int .i64 0, .string ⟨#[]⟩] : Value).cells (j - i)).toList).toArray 42 (0, 0) HG.out)
        have HHB : Hid (Below w0.heap.size w0 (wr.setRow gb (splice cur.toList (i * 6) (Builtin.zeroCells (.agg #[.int .u64 0, .int .u64 0, .int .u64 0, .int .i64 0, .int .i64 0, .string ⟨#[]⟩] : Value).cells (j - i)).toList).toArray)) := Lib.hid (below_setRow HB.out (by have := HBS.out; have := HBG.out; omega) _)
        have hsp : (splice cur.toList (i * 6) (Builtin.zeroCells (.agg #[.int .u64 0, .int .u64 0, .int .u64 0, .int .i64 0, .int .i64 0, .string ⟨#[]⟩] : Value).cells (j - i)).toList).toArray.size = cur.size ∧ (splice cur.toList (i * 6) (Builtin.zeroCells (.agg #[.int .u64 0, .int .u64 0, .int .u64 0, .int .i64 0, .int .i64 0, .string ⟨#[]⟩] : Value).cells (j - i)).toList).toArray.toList.take (i * 6) = cur.toList.take (i * 6) := by
          have hzl : (Builtin.zeroCells (.agg #[.int .u64 0, .int .u64 0, .int .u64 0, .int .i64 0, .int .i64 0, .string ⟨#[]⟩] : Value).cells (j - i)).toList.length = (j - i) * 6 := by rw [Array.length_toList, size_zeroCells]; rfl
          have hle : i * 6 + (j - i) * 6 ≤ cur.size := by
            exact hfit
          refine ⟨by rw [List.size_toArray, length_splice _ _ _ (by rw [hzl, Array.length_toList]; exact hle), Array.length_toList], ?_⟩
          rw [List.toList_toArray]
          unfold splice
          have hll : (cur.toList.take (i * 6)).length = i * 6 := by rw [List.length_take, Array.length_toList]; omega
          rw [List.take_append_of_le_length (by rw [hll]; exact Nat.le_refl _), List.take_of_length_le (by rw [hll]; exact Nat.le_refl _)]
        have HSP := Lib.hid hsp
        clear hsp
        generalize (splice cur.toList (i * 6) (Builtin.zeroCells (.agg #[.int .u64 0, .int .u64 0, .int .u64 0, .int .i64 0, .int .i64 0, .string ⟨#[]⟩] : Value).cells (j - i)).toList).toArray = CR at *
        have hcl' := HCL.out
        have hji : ((j : Int) - (i : Int)).toNat = j - i := by omega
        go_wp2
        go_ret
        have hfl : (l.filter fun x => !p x).length = i := by rw [HFL.out]; exact HI.out.2.2.2.symm
        rw [hfl]
        refine ⟨_, _, rfl, rowb_Tok HBG.out HHQ.out (by omega) HCM.out (by rw [HSP.out.1]; exact hszc.symm) hfl ?_, HHB.out⟩
        rw [HFL.out, ← HI.out.2.1]
        first | exact HSP.out.2 | (rw [Nat.mul_one]; exact HSP.out.2)
set_option maxRecDepth 100000 in
theorem without_Tok (A : Option Addr) (n c g : Nat) (lb : Array Value) (l : List ETok) (p : ETok → Bool) (w : World) (S : Nat → Prop) (eg : ∀ args w, (callFunc g args).run Tryz.prog w = .ok (.enter g args) w) (hl : l.length = n) (hby : n * 56 ≤ 140737488355328) (hr : Row w S 6 n (.slice A n c) (l.flatMap encTok))
    (hp : ∀ W, Below w.heap.size w W → ∀ x ∈ l, Calls Tryz.prog g (#[.agg #[.int .u64 x.key, .int .u64 x.inst, .int .u64 x.scope, .int .i64 x.node, .int .i64 x.flow, .string x.stuck]] ++ lb) W fun e w' => e = .returned (.bool (p x)) ∧ Below W.heap.size W w') :
    Calls Tryz.prog 145 #[.slice A n c, .func (.func g) #[] lb] w fun e w' => ∃ A' c', e = .returned (.slice A' (l.filter fun x => !p x).length c') ∧ w'.ownsRow w.heap.size 42 6 (.slice A' (l.filter fun x => !p x).length c') (l.filter fun x => !p x).length ((l.filter fun x => !p x).flatMap encTok) ∧ Below w.heap.size w w' := by
  have HC := Lib.hid (clone_Tok A n c l w S hl hby hr)
  have HP := Lib.hid hp
  have HL := Lib.hid hl
  have EG := Lib.hid eg
  clear hp hr hl eg
  go_enter Tryz.func145, Tryz.ntmps145
  go_wp2_with (go_at_call 24; refine HC.out.mono ?_; rintro e w1 ⟨A1, c1, rfl, hown, hb⟩; have HO1 := Lib.hid hown; have HB1 := Lib.hid hb; clear hown hb)
  refine (del_Tok w.heap.size _ n g lb l p w w1 EG.out HL.out HO1.out (Nat.le_refl _) HB1.out HP.out).mono ?_
  rintro e w2 ⟨A2, c2, rfl, hown, hb⟩
  have HO2 := Lib.hid hown
  have HB2 := Lib.hid hb
  clear hown hb
  go_wp2_with fail
  go_ret
  exact ⟨A2, c2, rfl, HO2.out, HB2.out⟩
end Go.Proofs.YtgpkmellpllmgaaGreat
/-
  fold.change of Token. Printed by gfold.py.
-/
set_option linter.unusedVariables false
set_option linter.unusedSimpArgs false
namespace Go.Proofs.YtgpkmellpllmgaaGreat
open Go Go.RowKit Go.Proofs.Base
open Go.Sort (grow)
set_option maxRecDepth 100000 in
set_option maxHeartbeats 4000000 in
theorem change_Tok (A : Option Addr) (n c g g2 : Nat) (lb lb2 : Array Value) (l : List ETok) (p : ETok → Bool) (F : World → ETok → ETok → Prop) (w : World) (S : Nat → Prop) (eg : ∀ args w, (callFunc g args).run Tryz.prog w = .ok (.enter g args) w) (eg2 : ∀ args w, (callFunc g2 args).run Tryz.prog w = .ok (.enter g2 args) w)
    (hl : l.length = n) (hby : n * 56 ≤ 140737488355328) (hr : Row w S 6 n (.slice A n c) (l.flatMap encTok))
    (hp : ∀ W, Below w.heap.size w W → ∀ x ∈ l, Calls Tryz.prog g (#[.agg #[.int .u64 x.key, .int .u64 x.inst, .int .u64 x.scope, .int .i64 x.node, .int .i64 x.flow, .string x.stuck]] ++ lb) W fun e w' => e = .returned (.bool (p x)) ∧ Below W.heap.size W w')
    (hf : ∀ (W : World) (b : Nat) (cur : Array Value) (i : Nat) (hi : i < l.length), Below w.heap.size w W → w.heap.size ≤ b → W.heap[b]? = some (.cells cur 42 (0, 0)) → cur.toList.take (n * 6) = l.flatMap encTok → n * 6 ≤ cur.size →
      Calls Tryz.prog g2 (#[.pointer (some ⟨b, i * 6, none⟩)] ++ lb2) W fun e w' => e = .returned (.tuple #[]) ∧ ∃ y, ∃ cur' : Array Value, F w' l[i] y ∧ w'.heap[b]? = some (.cells cur' 42 (0, 0)) ∧ cur'.size = cur.size ∧ cur'.toList.take (n * 6) = (l.set i y).flatMap encTok ∧ Below w.heap.size w w') :
    Calls Tryz.prog 166 #[.slice A n c, .func (.func g) #[] lb, .func (.func g2) #[] lb2] w fun e w' => ∃ A' c', ∃ l' : List ETok, e = .returned (.slice A' n c') ∧ Row w' (fun b => S b ∨ w.heap.size ≤ b) 6 n (.slice A' n c') (l'.flatMap encTok) ∧ l'.length = n ∧
      ((idxP p l = -1 ∧ l' = l) ∨ ∃ i, ∃ hi : i < l.length, ∃ y, idxP p l = (i : Int) ∧ F w' l[i] y ∧ l' = l.set i y) ∧ Below w.heap.size w w' := by
  have HIX := Lib.hid (idx_Tok A n c g lb l p w w S eg hl hr (Below.refl _ _) hp)
  have HR := Lib.hid hr
  have HL := Lib.hid hl
  have HBY := Lib.hid hby
  have HF := Lib.hid hf
  obtain ⟨A0, c0, he0, hnc0, hcm0⟩ := hr.open_
  injection he0 with q1 _ q3
  subst q1 q3
  clear hr hl hf hp eg hby
  rcases idxP_spec p l with ⟨h1, -⟩ | ⟨j, hj, h1, -, -⟩
  · go_enter Tryz.func166, Tryz.ntmps166
    go_wp2_with (go_at_call 76; refine HIX.out.mono ?_; rintro e w1 ⟨rfl, hb⟩; rw [h1]; have HB1 := Lib.hid hb; clear hb)
    go_ret
    exact ⟨A, c, l, rfl, (HR.out.below HB1.out).weaken (fun _ _ h => .inl h), HL.out, .inl ⟨h1, rfl⟩, HB1.out⟩
  · have HJ := Lib.hid hj
    have hjn : j < n := by have := HL.out; omega
    have hj0 : ¬ ((j : Int) < 0) := by omega
    clear hj
    go_enter Tryz.func166, Tryz.ntmps166
    go_wp2_with (go_at_call 76; refine HIX.out.mono ?_; rintro e w1 ⟨rfl, hb⟩; rw [h1]; have HB1 := Lib.hid hb; clear hb)
    refine (clone_Tok A n c l w1 S HL.out HBY.out (HR.out.below HB1.out)).mono ?_
    rintro e w2 ⟨A2, c2, rfl, hown, hb⟩
    have HB2 := Lib.hid (below2 HB1.out hb)
    have HB12 := Lib.hid hb
    obtain ⟨gb, cap, cur, hv, hbg, hhg, hnc5, hcm5, hcs5, htk5⟩ := own_some hown (by omega)
    injection hv with hv1 hv2 hv3
    subst hv1 hv3
    have HG := Lib.hid hhg
    have HTK := Lib.hid htk5
    have HCS := Lib.hid hcs5
    have hws := HB1.out.size
    have HBG : Hid (w.heap.size ≤ gb) := Lib.hid (by omega)
    have HCM := Lib.hid hcm5
    clear hown hb hhg htk5 hcs5 hbg hcm5 hws
    go_wp2_with fail
    refine (HF.out w2 gb cur j HJ.out HB2.out HBG.out HG.out HTK.out (by have := HCS.out; have := Nat.mul_le_mul_right 6 hnc5; omega)).mono ?_
    rintro e w3 ⟨rfl, y, cur', hy, hh3, hcs3, htk3, hb3⟩
    have HY := Lib.hid (And.intro hy (And.intro hh3 (And.intro hcs3 (And.intro htk3 hb3))))
    clear hy hh3 hcs3 htk3 hb3
    go_wp2_with fail
    go_ret
    obtain ⟨hy, hh3, hcs3, htk3, hb3⟩ := HY.out
    have hll : (l.set j y).length = n := by rw [List.length_set, HL.out]
    refine ⟨_, _, l.set j y, rfl, (Row.of_own (rowb_Tok (base := w.heap.size) HBG.out hh3 hnc5 HCM.out (by rw [hcs3]; have := HCS.out; omega) hll htk3)).weaken (fun _ _ h => .inr h.1), hll, .inr ⟨j, HJ.out, y, h1, hy, rfl⟩, hb3⟩
end Go.Proofs.YtgpkmellpllmgaaGreat
/-
  slices.DeleteFunc, fold.without of Listed. Printed by gfold.py.
-/
set_option linter.unusedVariables false
set_option linter.unusedSimpArgs false
namespace Go.Proofs.YtgpkmellpllmgaaGreat
open Go Go.RowKit Go.Proofs.Base
open Go.Sort (grow)
theorem vbox_Lst (w : World) (x : ELst) : Below w.heap.size w (w.alloc (.cells #[.int .u64 x.token, .int .u64 x.inst, .int .i64 x.node, .string x.name, .string x.key, .int .u64 x.message, .slice x.vA x.vN x.vC] 68)) ∧ (w.alloc (.cells #[.int .u64 x.token, .int .u64 x.inst, .int .i64 x.node, .string x.name, .string x.key, .int .u64 x.message, .slice x.vA x.vN x.vC] 68)).heap[w.heap.size]? = some (.cells #[.int .u64 x.token, .int .u64 x.inst, .int .i64 x.node, .string x.name, .string x.key, .int .u64 x.message, .slice x.vA x.vN x.vC] 68 (0, 0)) :=
  ⟨below_alloc (Below.refl _ _) _, blk_new _⟩
theorem rowb_Lst {g cap i : Nat} {cur : Array Value} {w : World} {base : Nat} {l : List ELst} (hbg : base ≤ g) (hh : w.heap[g]? = some (.cells cur 68 (0, 0))) (hnc : i ≤ cap) (hcm : cap ≤ maxLen) (hcs : cap * 7 = cur.size) (hl : l.length = i) (ht : cur.toList.take (i * 7) = l.flatMap encLst) :
    w.ownsRow base 68 7 (.slice (some ⟨g, 0, none⟩) i cap) i (l.flatMap encLst) :=
  ⟨by rw [flat_len (enc := encLst) lenLst, hl], .inr ⟨g, cap, cur, rfl, hbg, hh, hnc, hcm, by omega, ht⟩⟩
theorem zs_Lst : ∀ w, (zeroValue 68).run Tryz.prog w = .ok (.agg #[.int .u64 0, .int .u64 0, .int .i64 0, .string ⟨#[]⟩, .string ⟨#[]⟩, .int .u64 0, .slice none 0 0]) w := Tryz.zeroValue68
set_option maxRecDepth 100000 in
set_option maxHeartbeats 4000000 in
theorem del_Lst (base : Nat) (v : Value) (n g : Nat) (lb : Array Value) (l : List ELst) (p : ELst → Bool) (w0 w : World) (eg : ∀ args w, (callFunc g args).run Tryz.prog w = .ok (.enter g args) w) (hl : l.length = n) (hown : w.ownsRow base 68 7 v n (l.flatMap encLst)) (hbase : w0.heap.size ≤ base) (h0 : Below w0.heap.size w0 w)
    (hp : ∀ W, Below w0.heap.size w0 W → ∀ x ∈ l, Calls Tryz.prog g (#[.agg #[.int .u64 x.token, .int .u64 x.inst, .int .i64 x.node, .string x.name, .string x.key, .int .u64 x.message, .slice x.vA x.vN x.vC]] ++ lb) W fun e w' => e = .returned (.bool (p x)) ∧ Below W.heap.size W w') :
    Calls Tryz.prog 183 #[v, .func (.func g) #[] lb] w fun e w' => ∃ A' c', e = .returned (.slice A' (l.filter fun x => !p x).length c') ∧ w'.ownsRow base 68 7 (.slice A' (l.filter fun x => !p x).length c') (l.filter fun x => !p x).length ((l.filter fun x => !p x).flatMap encLst) ∧ Below w0.heap.size w0 w' := by
  obtain ⟨A, c, rfl, hnc, hcc⟩ := (Row.of_own hown).open_
  have HO := Lib.hid hown
  have HL := Lib.hid hl
  have H0 := Lib.hid h0
  have HP := Lib.hid hp
  have HIX : Hid (Calls Tryz.prog 119 #[.slice A n c, .func (.func g) #[] lb] w fun e w' => e = .returned (.int .i64 (idxP p l)) ∧ Below w.heap.size w w') := Lib.hid (idx_Lst A n c g lb l p w0 w _ eg hl (Row.of_own hown) h0 hp)
  rcases idxP_spec p l with ⟨h1, hall⟩ | ⟨k0, hk0, h1, hpt, hbef⟩
  · have hf : l.filter (fun x => !p x) = l := List.filter_eq_self.2 (fun x hx => by rw [hall x hx]; rfl)
    rw [hf, hl]
    clear hown hl h0 hp hall hf
    go_enter Tryz.func183, Tryz.ntmps183
    go_wp2_with (go_at_call 119; refine HIX.out.mono ?_; rintro e w1 ⟨rfl, hb⟩; rw [h1]; have HB1 := Lib.hid hb; clear hb)
    go_ret
    exact ⟨A, c, rfl, own_mut HO.out (Mut.of_below HB1.out (fun _ => False)) (fun _ _ h => h), below2 H0.out HB1.out⟩
  · have hn0 : 0 < n := by omega
    obtain ⟨gb, cap, cur0, hv, hbg, hh0, hnc5, hcm5, hcs5, htk5⟩ := own_some hown (by omega)
    injection hv with hv1 hv2 hv3
    subst hv1 hv3
    have hkn : k0 < n := by omega
    have hne1 : ((k0 : Int) == -1) = false := beq_eq_false_iff_ne.2 (by omega)
    have HS0 : Hid (cur0.size = c * 7 ∧ cur0.toList.take (k0 * 7) = ((l.take (k0 + 1)).filter fun x => !p x).flatMap encLst ∧ (cur0.toList.take (n * 7)).drop ((k0 + 1) * 7) = (l.drop (k0 + 1)).flatMap encLst ∧ k0 = ((l.take (k0 + 1)).filter fun x => !p x).length) := Lib.hid (by
      have e1 : (l.take (k0 + 1)).filter (fun x => !p x) = l.take k0 := by
        rw [List.take_succ_eq_append_getElem hk0, List.filter_append]
        have e2 : (l.take k0).filter (fun x => !p x) = l.take k0 := List.filter_eq_self.2 (fun x hx => by
          obtain ⟨j, hj, rfl⟩ := List.getElem_of_mem hx
          rw [List.length_take] at hj
          rw [List.getElem_take, hbef j (by omega)]; rfl)
        rw [e2]
        simp [hpt]
      refine ⟨by omega, ?_, ?_, ?_⟩
      · rw [e1, ← flat_take (enc := encLst) lenLst, ← htk5, List.take_take]
        congr 1
        exact (Nat.min_eq_left (Nat.mul_le_mul_right _ (Nat.le_of_lt hkn))).symm
      · rw [htk5, flat_drop (enc := encLst) lenLst]
      · rw [e1, List.length_take]; omega)
    have HG0 := Lib.hid hh0
    have HCM := Lib.hid hcm5
    have HBS := Lib.hid hbase
    have HBG := Lib.hid hbg
    have HFL : Hid (l.filter (fun x => !p x) = (l.take n).filter fun x => !p x) := Lib.hid (by rw [← hl, List.take_length])
    have hmx : ∀ k, k < n → ∃ x, l[k]? = some x ∧ x ∈ l := fun k hk => ⟨l[k]'(by omega), List.getElem?_eq_getElem (by omega), List.getElem_mem _⟩
    have HMX := Lib.hid hmx
    clear hown hl h0 hp htk5 hcs5 hh0 hcm5 hbase hbg hk0 hpt hbef hmx HO
    go_enter Tryz.func183, Tryz.ntmps183
    go_wp2_with (go_at_call 119; refine HIX.out.mono ?_; rintro e w1 ⟨rfl, hb⟩; rw [h1]; have HB1 := Lib.hid (below2 H0.out hb); have HG1 := Lib.hid (block_below hb HG0.out); clear hb)
    go_loopw [5, 6, 7] (fun s5 s6 _ wr => ∃ (i j : Nat) (cur : Array Value), s5 = .int .i64 i ∧ s6 = .int .i64 j ∧ j ≤ n ∧ i < j ∧ Hid (Below w0.heap.size w0 wr) ∧ Hid (wr.heap[gb]? = some (.cells cur 68 (0, 0))) ∧ Hid (cur.size = c * 7 ∧ cur.toList.take (i * 7) = ((l.take j).filter fun x => !p x).flatMap encLst ∧ (cur.toList.take (n * 7)).drop (j * 7) = (l.drop j).flatMap encLst ∧ i = ((l.take j).filter fun x => !p x).length)) (fun _ s6 _ _ => n - (intOf s6).toNat)
    case atStart => exact ⟨k0, k0 + 1, cur0, rfl, by go_num, by omega, by omega, HB1, HG1, HS0⟩
    case round =>
      obtain ⟨i, j, cur, rfl, rfl, hjn, hij, HB, HG, HI⟩ := hrel
      have hgs := lt_of_blk HG.out
      by_cases hlt : j < n
      · obtain ⟨x, hx, hxm⟩ := HMX.out j hlt
        have hszc : cur.size = c * 7 := HI.out.1
        have hdr : (cur.toList.take (n * 7)).drop (j * 7) = encLst x ++ (l.drop (j + 1)).flatMap encLst := by
          have hjl : j < l.length := by rw [HL.out]; exact hlt
          have he : l[j] = x := by rw [List.getElem?_eq_getElem hjl] at hx; exact Option.some.inj hx
          rw [HI.out.2.2.1, List.drop_eq_getElem_cons hjl, List.flatMap_cons, he]
        have hcj : ∀ t u, (encLst x)[t]? = some u → t < 7 → cur[j * 7 + t]? = some u := fun t u hu ht => by
          have e := congrArg (fun L => L[t]?) hdr
          simp only [List.getElem?_drop] at e
          rw [List.getElem?_take, if_pos (by omega), List.getElem?_append_left (by rw [lenLst]; exact ht), hu] at e
          rw [← Array.getElem?_toList]; exact e
        have c0 : wr.cell? ⟨gb, j * 7, none⟩ = some (.int .u64 x.token) := (cell_of_blk HG.out _).trans (hcj 0 _ rfl (by decide))
        have c1 : wr.cell? ⟨gb, j * 7 + 1, none⟩ = some (.int .u64 x.inst) := (cell_of_blk HG.out _).trans (hcj 1 _ rfl (by decide))
        have c2 : wr.cell? ⟨gb, j * 7 + 2, none⟩ = some (.int .i64 x.node) := (cell_of_blk HG.out _).trans (hcj 2 _ rfl (by decide))
        have c3 : wr.cell? ⟨gb, j * 7 + 3, none⟩ = some (.string x.name) := (cell_of_blk HG.out _).trans (hcj 3 _ rfl (by decide))
        have c4 : wr.cell? ⟨gb, j * 7 + 4, none⟩ = some (.string x.key) := (cell_of_blk HG.out _).trans (hcj 4 _ rfl (by decide))
        have c5 : wr.cell? ⟨gb, j * 7 + 5, none⟩ = some (.int .u64 x.message) := (cell_of_blk HG.out _).trans (hcj 5 _ rfl (by decide))
        have c6 : wr.cell? ⟨gb, j * 7 + 6, none⟩ = some (.slice x.vA x.vN x.vC) := (cell_of_blk HG.out _).trans (hcj 6 _ rfl (by decide))
        have hcall := fun W hW => HP.out W hW x hxm
        have HX := Lib.hid hx
        have HDR := Lib.hid hdr
        clear hcj hdr hx hxm
        cases hq : p x with
        | false =>
          rw [hq] at hcall
          have HQ := Lib.hid hq
          have HCALL := Lib.hid hcall
          clear hq hcall
          go_wp2_with fail
          refine (HCALL.out _ (below2 HB.out (vbox_Lst wr x).1)).mono ?_
          rintro e w1 ⟨rfl, hb1⟩
          have hv1 := block_below hb1 (vbox_Lst wr x).2
          have HBW := Lib.hid (below2 HB.out (below2 (vbox_Lst wr x).1 hb1))
          have hgw := block_below hb1 (block_below (vbox_Lst wr x).1 HG.out)
          have k0 := cell_of_blk hv1 0
          have k1 := cell_of_blk hv1 1
          have k2 := cell_of_blk hv1 2
          have k3 := cell_of_blk hv1 3
          have k4 := cell_of_blk hv1 4
          have k5 := cell_of_blk hv1 5
          have k6 := cell_of_blk hv1 6
          clear hv1
          obtain ⟨u0, hu0⟩ : ∃ u, cur[i * 7]? = some u := ⟨_, Array.getElem?_eq_getElem (by rw [hszc]; have : i * 7 + 7 ≤ c * 7 := (by have := Nat.mul_le_mul_right 7 (show i + 1 ≤ c by omega); omega); omega)⟩
          have j0 := (cell_of_blk hgw (i * 7)).trans hu0
          have f0 := frozen_of_blk hgw (i * 7)
          clear hu0
          obtain ⟨u1, hu1⟩ : ∃ u, cur[i * 7 + 1]? = some u := ⟨_, Array.getElem?_eq_getElem (by rw [hszc]; have : i * 7 + 7 ≤ c * 7 := (by have := Nat.mul_le_mul_right 7 (show i + 1 ≤ c by omega); omega); omega)⟩
          have j1 := (cell_of_blk hgw (i * 7 + 1)).trans hu1
          have f1 := frozen_of_blk hgw (i * 7 + 1)
          clear hu1
          obtain ⟨u2, hu2⟩ : ∃ u, cur[i * 7 + 2]? = some u := ⟨_, Array.getElem?_eq_getElem (by rw [hszc]; have : i * 7 + 7 ≤ c * 7 := (by have := Nat.mul_le_mul_right 7 (show i + 1 ≤ c by omega); omega); omega)⟩
          have j2 := (cell_of_blk hgw (i * 7 + 2)).trans hu2
          have f2 := frozen_of_blk hgw (i * 7 + 2)
          clear hu2
          obtain ⟨u3, hu3⟩ : ∃ u, cur[i * 7 + 3]? = some u := ⟨_, Array.getElem?_eq_getElem (by rw [hszc]; have : i * 7 + 7 ≤ c * 7 := (by have := Nat.mul_le_mul_right 7 (show i + 1 ≤ c by omega); omega); omega)⟩
          have j3 := (cell_of_blk hgw (i * 7 + 3)).trans hu3
          have f3 := frozen_of_blk hgw (i * 7 + 3)
          clear hu3
          obtain ⟨u4, hu4⟩ : ∃ u, cur[i * 7 + 4]? = some u := ⟨_, Array.getElem?_eq_getElem (by rw [hszc]; have : i * 7 + 7 ≤ c * 7 := (by have := Nat.mul_le_mul_right 7 (show i + 1 ≤ c by omega); omega); omega)⟩
          have j4 := (cell_of_blk hgw (i * 7 + 4)).trans hu4
          have f4 := frozen_of_blk hgw (i * 7 + 4)
          clear hu4
          obtain ⟨u5, hu5⟩ : ∃ u, cur[i * 7 + 5]? = some u := ⟨_, Array.getElem?_eq_getElem (by rw [hszc]; have : i * 7 + 7 ≤ c * 7 := (by have := Nat.mul_le_mul_right 7 (show i + 1 ≤ c by omega); omega); omega)⟩
          have j5 := (cell_of_blk hgw (i * 7 + 5)).trans hu5
          have f5 := frozen_of_blk hgw (i * 7 + 5)
          clear hu5
          obtain ⟨u6, hu6⟩ : ∃ u, cur[i * 7 + 6]? = some u := ⟨_, Array.getElem?_eq_getElem (by rw [hszc]; have : i * 7 + 7 ≤ c * 7 := (by have := Nat.mul_le_mul_right 7 (show i + 1 ≤ c by omega); omega); omega)⟩
          have j6 := (cell_of_blk hgw (i * 7 + 6)).trans hu6
          have f6 := frozen_of_blk hgw (i * 7 + 6)
          clear hu6
          have HGW := Lib.hid hgw
          clear hgw hb1
          go_wp2_with fail
          go_roundw
          case rel =>
            refine ⟨i + 1, j + 1, _, by go_num, by go_num, by omega, by omega, Lib.hid ((((((((HBW.out).setCell (p := ⟨gb, i * 7, none⟩) (by show _ ≤ gb; have := HBS.out; have := HBG.out; omega) _).setCell (p := ⟨gb, i * 7 + 1, none⟩) (by show _ ≤ gb; have := HBS.out; have := HBG.out; omega) _).setCell (p := ⟨gb, i * 7 + 2, none⟩) (by show _ ≤ gb; have := HBS.out; have := HBG.out; omega) _).setCell (p := ⟨gb, i * 7 + 3, none⟩) (by show _ ≤ gb; have := HBS.out; have := HBG.out; omega) _).setCell (p := ⟨gb, i * 7 + 4, none⟩) (by show _ ≤ gb; have := HBS.out; have := HBG.out; omega) _).setCell (p := ⟨gb, i * 7 + 5, none⟩) (by show _ ≤ gb; have := HBS.out; have := HBG.out; omega) _).setCell (p := ⟨gb, i * 7 + 6, none⟩) (by show _ ≤ gb; have := HBS.out; have := HBG.out; omega) _), Lib.hid (set_blk (o := i * 7 + 6) (set_blk (o := i * 7 + 5) (set_blk (o := i * 7 + 4) (set_blk (o := i * 7 + 3) (set_blk (o := i * 7 + 2) (set_blk (o := i * 7 + 1) (set_blk (o := i * 7) (HGW.out) (.int .u64 x.token)) (.int .u64 x.inst)) (.int .i64 x.node)) (.string x.name)) (.string x.key)) (.int .u64 x.message)) (.slice x.vA x.vN x.vC)), Lib.hid ?_⟩
            have e1 : (l.take (j + 1)).filter (fun x => !p x) = (l.take j).filter (fun x => !p x) ++ [x] := by
              rw [List.take_add_one, HX.out, List.filter_append]
              congr 1
              simp [HQ.out]
            have hil : (i + 1) * 7 ≤ cur.size := by rw [hszc]; exact Nat.mul_le_mul_right _ (by omega)
            have e2 : (((((((cur.setIfInBounds (i * 7) (.int .u64 x.token)).setIfInBounds (i * 7 + 1) (.int .u64 x.inst)).setIfInBounds (i * 7 + 2) (.int .i64 x.node)).setIfInBounds (i * 7 + 3) (.string x.name)).setIfInBounds (i * 7 + 4) (.string x.key)).setIfInBounds (i * 7 + 5) (.int .u64 x.message)).setIfInBounds (i * 7 + 6) (.slice x.vA x.vN x.vC)).toList = splice cur.toList (i * 7) (encLst x) := by
              rw [← setAll_splice _ _ _ (by rw [lenLst, Array.length_toList]; omega)]
              simp only [Array.toList_setIfInBounds]
              first | rfl | (simp only [Nat.mul_one]; rfl)
            refine ⟨by simp only [Array.size_setIfInBounds]; exact hszc, ?_, ?_, ?_⟩
            · rw [e2, e1, List.flatMap_append, ← HI.out.2.1, splice_take (by rw [lenLst, Nat.succ_mul]) (by rw [lenLst, Array.length_toList]; omega), List.flatMap_singleton]
            · have e3 := congrArg (fun L => L.drop 7) HI.out.2.2.1
              simp only [List.drop_drop] at e3
              rw [show j * 7 + 7 = (j + 1) * 7 by omega, flat_drop1 (enc := encLst) lenLst] at e3
              have hle : (i + 1) * 7 ≤ (j + 1) * 7 := Nat.mul_le_mul_right _ (by omega)
              rw [e2, ← e3, List.drop_take, List.drop_take, splice_drop (by rw [lenLst]; omega) (by rw [lenLst, Array.length_toList]; omega)]
            · rw [e1, List.length_append, ← HI.out.2.2.2]; rfl
          case measure => simp [intOf]; omega
        | true =>
          rw [hq] at hcall
          have HQ := Lib.hid hq
          have HCALL := Lib.hid hcall
          clear hq hcall
          go_wp2_with fail
          refine (HCALL.out _ (below2 HB.out (vbox_Lst wr x).1)).mono ?_
          rintro e w1 ⟨rfl, hb1⟩
          have hv1 := block_below hb1 (vbox_Lst wr x).2
          have HBW := Lib.hid (below2 HB.out (below2 (vbox_Lst wr x).1 hb1))
          have hgw := block_below hb1 (block_below (vbox_Lst wr x).1 HG.out)
          clear hv1
          have HGW := Lib.hid hgw
          clear hgw hb1
          go_wp2_with fail
          go_roundw
          case rel =>
            refine ⟨i, j + 1, cur, rfl, by go_num, by omega, by omega, HBW, HGW, Lib.hid ?_⟩
            have e1 : (l.take (j + 1)).filter (fun x => !p x) = (l.take j).filter (fun x => !p x) := by
              rw [List.take_add_one, HX.out, List.filter_append]
              simp [HQ.out]
            rw [e1]
            refine ⟨hszc, HI.out.2.1, ?_, HI.out.2.2.2⟩
            have e3 := congrArg (fun L => L.drop 7) HDR.out
            simp only [List.drop_drop] at e3
            rw [show j * 7 + 7 = (j + 1) * 7 by omega] at e3
            rw [e3, List.drop_append, List.drop_of_length_le (by rw [lenLst]; exact Nat.le_refl _), lenLst]
            simp
          case measure => simp [intOf]; omega
      · obtain rfl : j = n := by omega
        have hszc : cur.size = c * 7 := HI.out.1
        have hfit : i * 7 + (j - i) * 7 ≤ cur.size := by
          rw [hszc, ← Nat.add_mul]; exact Nat.mul_le_mul_right _ (by omega)
        have hcl : ∀ ty, (Builtin.clear_ #[32] ty #[.slice (some ⟨gb, i * 7, none⟩) (j - i) (c - i)]).run Tryz.prog wr = .ok (.tuple #[]) (wr.setRow gb (splice cur.toList (i * 7) (Builtin.zeroCells (.agg #[.int .u64 0, .int .u64 0, .int .i64 0, .string ⟨#[]⟩, .string ⟨#[]⟩, .int .u64 0, .slice none 0 0] : Value).cells (j - i)).toList).toArray) := fun ty =>
          run_clear_wide wr 32 68 ty _ 7 Tryz.underlying32 zs_Lst rfl (by intro u hu; simp [Value.cells] at hu; rcases hu with rfl | rfl | rfl | rfl | rfl | rfl | rfl <;> rfl) gb (i * 7) (j - i) (c - i) cur 68 (by omega) HG.out hfit
        have hci : ¬ (c = i) := by omega
        have hcl2 : i ≤ c := by omega
        have hin : i ≤ j := by omega
        have HCL := Lib.hid hcl
        clear hcl
        have HHQ := Lib.hid (setRow_heap wr gb cur (splice cur.toList (i * 7) (Builtin.zeroCells (.agg #[.int .u64 0, .int .u64 0, .int .i64 0, .string ⟨#[]⟩, .string ⟨#[]⟩, .int .u64 0, .slice none 0 0] : Value).cells (j - i)).toList).toArray 68 (0, 0) HG.out)
        have HHB : Hid (Below w0.heap.size w0 (wr.setRow gb (splice cur.toList (i * 7) (Builtin.zeroCells (.agg #[.int .u64 0, .int .u64 0, .int .i64 0, .string ⟨#[]⟩, .string ⟨#[]⟩, .int .u64 0, .slice none 0 0] : Value).cells (j - i)).toList).toArray)) := Lib.hid (below_setRow HB.out (by have := HBS.out; have := HBG.out; omega) _)
        have hsp : (splice cur.toList (i * 7) (Builtin.zeroCells (.agg #[.int .u64 0, .int .u64 0, .int .i64 0, .string ⟨#[]⟩, .string ⟨#[]⟩, .int .u64 0, .slice none 0 0] : Value).cells (j - i)).toList).toArray.size = cur.size ∧ (splice cur.toList (i * 7) (Builtin.zeroCells (.agg #[.int .u64 0, .int .u64 0, .int .i64 0, .string ⟨#[]⟩, .string ⟨#[]⟩, .int .u64 0, .slice none 0 0] : Value).cells (j - i)).toList).toArray.toList.take (i * 7) = cur.toList.take (i * 7) := by
          have hzl : (Builtin.zeroCells (.agg #[.int .u64 0, .int .u64 0, .int .i64 0, .string ⟨#[]⟩, .string ⟨#[]⟩, .int .u64 0, .slice none 0 0] : Value).cells (j - i)).toList.length = (j - i) * 7 := by rw [Array.length_toList, size_zeroCells]; rfl
          have hle : i * 7 + (j - i) * 7 ≤ cur.size := by
            exact hfit
          refine ⟨by rw [List.size_toArray, length_splice _ _ _ (by rw [hzl, Array.length_toList]; exact hle), Array.length_toList], ?_⟩
          rw [List.toList_toArray]
          unfold splice
          have hll : (cur.toList.take (i * 7)).length = i * 7 := by rw [List.length_take, Array.length_toList]; omega
          rw [List.take_append_of_le_length (by rw [hll]; exact Nat.le_refl _), List.take_of_length_le (by rw [hll]; exact Nat.le_refl _)]
        have HSP := Lib.hid hsp
        clear hsp
        generalize (splice cur.toList (i * 7) (Builtin.zeroCells (.agg #[.int .u64 0, .int .u64 0, .int .i64 0, .string ⟨#[]⟩, .string ⟨#[]⟩, .int .u64 0, .slice none 0 0] : Value).cells (j - i)).toList).toArray = CR at *
        have hcl' := HCL.out
        have hji : ((j : Int) - (i : Int)).toNat = j - i := by omega
        go_wp2
        go_ret
        have hfl : (l.filter fun x => !p x).length = i := by rw [HFL.out]; exact HI.out.2.2.2.symm
        rw [hfl]
        refine ⟨_, _, rfl, rowb_Lst HBG.out HHQ.out (by omega) HCM.out (by rw [HSP.out.1]; exact hszc.symm) hfl ?_, HHB.out⟩
        rw [HFL.out, ← HI.out.2.1]
        first | exact HSP.out.2 | (rw [Nat.mul_one]; exact HSP.out.2)
set_option maxRecDepth 100000 in
theorem without_Lst (A : Option Addr) (n c g : Nat) (lb : Array Value) (l : List ELst) (p : ELst → Bool) (w : World) (S : Nat → Prop) (eg : ∀ args w, (callFunc g args).run Tryz.prog w = .ok (.enter g args) w) (hl : l.length = n) (hby : n * 88 ≤ 140737488355328) (hr : Row w S 7 n (.slice A n c) (l.flatMap encLst))
    (hp : ∀ W, Below w.heap.size w W → ∀ x ∈ l, Calls Tryz.prog g (#[.agg #[.int .u64 x.token, .int .u64 x.inst, .int .i64 x.node, .string x.name, .string x.key, .int .u64 x.message, .slice x.vA x.vN x.vC]] ++ lb) W fun e w' => e = .returned (.bool (p x)) ∧ Below W.heap.size W w') :
    Calls Tryz.prog 127 #[.slice A n c, .func (.func g) #[] lb] w fun e w' => ∃ A' c', e = .returned (.slice A' (l.filter fun x => !p x).length c') ∧ w'.ownsRow w.heap.size 68 7 (.slice A' (l.filter fun x => !p x).length c') (l.filter fun x => !p x).length ((l.filter fun x => !p x).flatMap encLst) ∧ Below w.heap.size w w' := by
  have HC := Lib.hid (clone_Lst A n c l w S hl hby hr)
  have HP := Lib.hid hp
  have HL := Lib.hid hl
  have EG := Lib.hid eg
  clear hp hr hl eg
  go_enter Tryz.func127, Tryz.ntmps127
  go_wp2_with (go_at_call 30; refine HC.out.mono ?_; rintro e w1 ⟨A1, c1, rfl, hown, hb⟩; have HO1 := Lib.hid hown; have HB1 := Lib.hid hb; clear hown hb)
  refine (del_Lst w.heap.size _ n g lb l p w w1 EG.out HL.out HO1.out (Nat.le_refl _) HB1.out HP.out).mono ?_
  rintro e w2 ⟨A2, c2, rfl, hown, hb⟩
  have HO2 := Lib.hid hown
  have HB2 := Lib.hid hb
  clear hown hb
  go_wp2_with fail
  go_ret
  exact ⟨A2, c2, rfl, HO2.out, HB2.out⟩
end Go.Proofs.YtgpkmellpllmgaaGreat
/-
  fold.change of Listed. Printed by gfold.py.
-/
set_option linter.unusedVariables false
set_option linter.unusedSimpArgs false
namespace Go.Proofs.YtgpkmellpllmgaaGreat
open Go Go.RowKit Go.Proofs.Base
open Go.Sort (grow)
set_option maxRecDepth 100000 in
set_option maxHeartbeats 4000000 in
theorem change_Lst (A : Option Addr) (n c g g2 : Nat) (lb lb2 : Array Value) (l : List ELst) (p : ELst → Bool) (F : World → ELst → ELst → Prop) (w : World) (S : Nat → Prop) (eg : ∀ args w, (callFunc g args).run Tryz.prog w = .ok (.enter g args) w) (eg2 : ∀ args w, (callFunc g2 args).run Tryz.prog w = .ok (.enter g2 args) w)
    (hl : l.length = n) (hby : n * 88 ≤ 140737488355328) (hr : Row w S 7 n (.slice A n c) (l.flatMap encLst))
    (hp : ∀ W, Below w.heap.size w W → ∀ x ∈ l, Calls Tryz.prog g (#[.agg #[.int .u64 x.token, .int .u64 x.inst, .int .i64 x.node, .string x.name, .string x.key, .int .u64 x.message, .slice x.vA x.vN x.vC]] ++ lb) W fun e w' => e = .returned (.bool (p x)) ∧ Below W.heap.size W w')
    (hf : ∀ (W : World) (b : Nat) (cur : Array Value) (i : Nat) (hi : i < l.length), Below w.heap.size w W → w.heap.size ≤ b → W.heap[b]? = some (.cells cur 68 (0, 0)) → cur.toList.take (n * 7) = l.flatMap encLst → n * 7 ≤ cur.size →
      Calls Tryz.prog g2 (#[.pointer (some ⟨b, i * 7, none⟩)] ++ lb2) W fun e w' => e = .returned (.tuple #[]) ∧ ∃ y, ∃ cur' : Array Value, F w' l[i] y ∧ w'.heap[b]? = some (.cells cur' 68 (0, 0)) ∧ cur'.size = cur.size ∧ cur'.toList.take (n * 7) = (l.set i y).flatMap encLst ∧ Below w.heap.size w w') :
    Calls Tryz.prog 123 #[.slice A n c, .func (.func g) #[] lb, .func (.func g2) #[] lb2] w fun e w' => ∃ A' c', ∃ l' : List ELst, e = .returned (.slice A' n c') ∧ Row w' (fun b => S b ∨ w.heap.size ≤ b) 7 n (.slice A' n c') (l'.flatMap encLst) ∧ l'.length = n ∧
      ((idxP p l = -1 ∧ l' = l) ∨ ∃ i, ∃ hi : i < l.length, ∃ y, idxP p l = (i : Int) ∧ F w' l[i] y ∧ l' = l.set i y) ∧ Below w.heap.size w w' := by
  have HIX := Lib.hid (idx_Lst A n c g lb l p w w S eg hl hr (Below.refl _ _) hp)
  have HR := Lib.hid hr
  have HL := Lib.hid hl
  have HBY := Lib.hid hby
  have HF := Lib.hid hf
  obtain ⟨A0, c0, he0, hnc0, hcm0⟩ := hr.open_
  injection he0 with q1 _ q3
  subst q1 q3
  clear hr hl hf hp eg hby
  rcases idxP_spec p l with ⟨h1, -⟩ | ⟨j, hj, h1, -, -⟩
  · go_enter Tryz.func123, Tryz.ntmps123
    go_wp2_with (go_at_call 119; refine HIX.out.mono ?_; rintro e w1 ⟨rfl, hb⟩; rw [h1]; have HB1 := Lib.hid hb; clear hb)
    go_ret
    exact ⟨A, c, l, rfl, (HR.out.below HB1.out).weaken (fun _ _ h => .inl h), HL.out, .inl ⟨h1, rfl⟩, HB1.out⟩
  · have HJ := Lib.hid hj
    have hjn : j < n := by have := HL.out; omega
    have hj0 : ¬ ((j : Int) < 0) := by omega
    clear hj
    go_enter Tryz.func123, Tryz.ntmps123
    go_wp2_with (go_at_call 119; refine HIX.out.mono ?_; rintro e w1 ⟨rfl, hb⟩; rw [h1]; have HB1 := Lib.hid hb; clear hb)
    refine (clone_Lst A n c l w1 S HL.out HBY.out (HR.out.below HB1.out)).mono ?_
    rintro e w2 ⟨A2, c2, rfl, hown, hb⟩
    have HB2 := Lib.hid (below2 HB1.out hb)
    have HB12 := Lib.hid hb
    obtain ⟨gb, cap, cur, hv, hbg, hhg, hnc5, hcm5, hcs5, htk5⟩ := own_some hown (by omega)
    injection hv with hv1 hv2 hv3
    subst hv1 hv3
    have HG := Lib.hid hhg
    have HTK := Lib.hid htk5
    have HCS := Lib.hid hcs5
    have hws := HB1.out.size
    have HBG : Hid (w.heap.size ≤ gb) := Lib.hid (by omega)
    have HCM := Lib.hid hcm5
    clear hown hb hhg htk5 hcs5 hbg hcm5 hws
    go_wp2_with fail
    refine (HF.out w2 gb cur j HJ.out HB2.out HBG.out HG.out HTK.out (by have := HCS.out; have := Nat.mul_le_mul_right 7 hnc5; omega)).mono ?_
    rintro e w3 ⟨rfl, y, cur', hy, hh3, hcs3, htk3, hb3⟩
    have HY := Lib.hid (And.intro hy (And.intro hh3 (And.intro hcs3 (And.intro htk3 hb3))))
    clear hy hh3 hcs3 htk3 hb3
    go_wp2_with fail
    go_ret
    obtain ⟨hy, hh3, hcs3, htk3, hb3⟩ := HY.out
    have hll : (l.set j y).length = n := by rw [List.length_set, HL.out]
    refine ⟨_, _, l.set j y, rfl, (Row.of_own (rowb_Lst (base := w.heap.size) HBG.out hh3 hnc5 HCM.out (by rw [hcs3]; have := HCS.out; omega) hll htk3)).weaken (fun _ _ h => .inr h.1), hll, .inr ⟨j, HJ.out, y, h1, hy, rfl⟩, hb3⟩
end Go.Proofs.YtgpkmellpllmgaaGreat
/-
  slices.DeleteFunc, fold.without of Message. Printed by gfold.py.
-/
set_option linter.unusedVariables false
set_option linter.unusedSimpArgs false
namespace Go.Proofs.YtgpkmellpllmgaaGreat
open Go Go.RowKit Go.Proofs.Base
open Go.Sort (grow)
theorem vbox_Msg (w : World) (x : EMsg) : Below w.heap.size w (w.alloc (.cells #[.int .u64 x.key, .string x.name, .string x.dest, .string x.id, .int .i64 x.till, .slice x.vA x.vN x.vC, .slice x.iA x.iN x.iC] 64)) ∧ (w.alloc (.cells #[.int .u64 x.key, .string x.name, .string x.dest, .string x.id, .int .i64 x.till, .slice x.vA x.vN x.vC, .slice x.iA x.iN x.iC] 64)).heap[w.heap.size]? = some (.cells #[.int .u64 x.key, .string x.name, .string x.dest, .string x.id, .int .i64 x.till, .slice x.vA x.vN x.vC, .slice x.iA x.iN x.iC] 64 (0, 0)) :=
  ⟨below_alloc (Below.refl _ _) _, blk_new _⟩
theorem rowb_Msg {g cap i : Nat} {cur : Array Value} {w : World} {base : Nat} {l : List EMsg} (hbg : base ≤ g) (hh : w.heap[g]? = some (.cells cur 64 (0, 0))) (hnc : i ≤ cap) (hcm : cap ≤ maxLen) (hcs : cap * 7 = cur.size) (hl : l.length = i) (ht : cur.toList.take (i * 7) = l.flatMap encMsg) :
    w.ownsRow base 64 7 (.slice (some ⟨g, 0, none⟩) i cap) i (l.flatMap encMsg) :=
  ⟨by rw [flat_len (enc := encMsg) lenMsg, hl], .inr ⟨g, cap, cur, rfl, hbg, hh, hnc, hcm, by omega, ht⟩⟩
theorem zs_Msg : ∀ w, (zeroValue 64).run Tryz.prog w = .ok (.agg #[.int .u64 0, .string ⟨#[]⟩, .string ⟨#[]⟩, .string ⟨#[]⟩, .int .i64 0, .slice none 0 0, .slice none 0 0]) w := Tryz.zeroValue64
set_option maxRecDepth 100000 in
set_option maxHeartbeats 4000000 in
theorem del_Msg (base : Nat) (v : Value) (n g : Nat) (lb : Array Value) (l : List EMsg) (p : EMsg → Bool) (w0 w : World) (eg : ∀ args w, (callFunc g args).run Tryz.prog w = .ok (.enter g args) w) (hl : l.length = n) (hown : w.ownsRow base 64 7 v n (l.flatMap encMsg)) (hbase : w0.heap.size ≤ base) (h0 : Below w0.heap.size w0 w)
    (hp : ∀ W, Below w0.heap.size w0 W → ∀ x ∈ l, Calls Tryz.prog g (#[.agg #[.int .u64 x.key, .string x.name, .string x.dest, .string x.id, .int .i64 x.till, .slice x.vA x.vN x.vC, .slice x.iA x.iN x.iC]] ++ lb) W fun e w' => e = .returned (.bool (p x)) ∧ Below W.heap.size W w') :
    Calls Tryz.prog 180 #[v, .func (.func g) #[] lb] w fun e w' => ∃ A' c', e = .returned (.slice A' (l.filter fun x => !p x).length c') ∧ w'.ownsRow base 64 7 (.slice A' (l.filter fun x => !p x).length c') (l.filter fun x => !p x).length ((l.filter fun x => !p x).flatMap encMsg) ∧ Below w0.heap.size w0 w' := by
  obtain ⟨A, c, rfl, hnc, hcc⟩ := (Row.of_own hown).open_
  have HO := Lib.hid hown
  have HL := Lib.hid hl
  have H0 := Lib.hid h0
  have HP := Lib.hid hp
  have HIX : Hid (Calls Tryz.prog 121 #[.slice A n c, .func (.func g) #[] lb] w fun e w' => e = .returned (.int .i64 (idxP p l)) ∧ Below w.heap.size w w') := Lib.hid (idx_Msg A n c g lb l p w0 w _ eg hl (Row.of_own hown) h0 hp)
  rcases idxP_spec p l with ⟨h1, hall⟩ | ⟨k0, hk0, h1, hpt, hbef⟩
  · have hf : l.filter (fun x => !p x) = l := List.filter_eq_self.2 (fun x hx => by rw [hall x hx]; rfl)
    rw [hf, hl]
    clear hown hl h0 hp hall hf
    go_enter Tryz.func180, Tryz.ntmps180
    go_wp2_with (go_at_call 121; refine HIX.out.mono ?_; rintro e w1 ⟨rfl, hb⟩; rw [h1]; have HB1 := Lib.hid hb; clear hb)
    go_ret
    exact ⟨A, c, rfl, own_mut HO.out (Mut.of_below HB1.out (fun _ => False)) (fun _ _ h => h), below2 H0.out HB1.out⟩
  · have hn0 : 0 < n := by omega
    obtain ⟨gb, cap, cur0, hv, hbg, hh0, hnc5, hcm5, hcs5, htk5⟩ := own_some hown (by omega)
    injection hv with hv1 hv2 hv3
    subst hv1 hv3
    have hkn : k0 < n := by omega
    have hne1 : ((k0 : Int) == -1) = false := beq_eq_false_iff_ne.2 (by omega)
    have HS0 : Hid (cur0.size = c * 7 ∧ cur0.toList.take (k0 * 7) = ((l.take (k0 + 1)).filter fun x => !p x).flatMap encMsg ∧ (cur0.toList.take (n * 7)).drop ((k0 + 1) * 7) = (l.drop (k0 + 1)).flatMap encMsg ∧ k0 = ((l.take (k0 + 1)).filter fun x => !p x).length) := Lib.hid (by
      have e1 : (l.take (k0 + 1)).filter (fun x => !p x) = l.take k0 := by
        rw [List.take_succ_eq_append_getElem hk0, List.filter_append]
        have e2 : (l.take k0).filter (fun x => !p x) = l.take k0 := List.filter_eq_self.2 (fun x hx => by
          obtain ⟨j, hj, rfl⟩ := List.getElem_of_mem hx
          rw [List.length_take] at hj
          rw [List.getElem_take, hbef j (by omega)]; rfl)
        rw [e2]
        simp [hpt]
      refine ⟨by omega, ?_, ?_, ?_⟩
      · rw [e1, ← flat_take (enc := encMsg) lenMsg, ← htk5, List.take_take]
        congr 1
        exact (Nat.min_eq_left (Nat.mul_le_mul_right _ (Nat.le_of_lt hkn))).symm
      · rw [htk5, flat_drop (enc := encMsg) lenMsg]
      · rw [e1, List.length_take]; omega)
    have HG0 := Lib.hid hh0
    have HCM := Lib.hid hcm5
    have HBS := Lib.hid hbase
    have HBG := Lib.hid hbg
    have HFL : Hid (l.filter (fun x => !p x) = (l.take n).filter fun x => !p x) := Lib.hid (by rw [← hl, List.take_length])
    have hmx : ∀ k, k < n → ∃ x, l[k]? = some x ∧ x ∈ l := fun k hk => ⟨l[k]'(by omega), List.getElem?_eq_getElem (by omega), List.getElem_mem _⟩
    have HMX := Lib.hid hmx
    clear hown hl h0 hp htk5 hcs5 hh0 hcm5 hbase hbg hk0 hpt hbef hmx HO
    go_enter Tryz.func180, Tryz.ntmps180
    go_wp2_with (go_at_call 121; refine HIX.out.mono ?_; rintro e w1 ⟨rfl, hb⟩; rw [h1]; have HB1 := Lib.hid (below2 H0.out hb); have HG1 := Lib.hid (block_below hb HG0.out); clear hb)
    go_loopw [5, 6, 7] (fun s5 s6 _ wr => ∃ (i j : Nat) (cur : Array Value), s5 = .int .i64 i ∧ s6 = .int .i64 j ∧ j ≤ n ∧ i < j ∧ Hid (Below w0.heap.size w0 wr) ∧ Hid (wr.heap[gb]? = some (.cells cur 64 (0, 0))) ∧ Hid (cur.size = c * 7 ∧ cur.toList.take (i * 7) = ((l.take j).filter fun x => !p x).flatMap encMsg ∧ (cur.toList.take (n * 7)).drop (j * 7) = (l.drop j).flatMap encMsg ∧ i = ((l.take j).filter fun x => !p x).length)) (fun _ s6 _ _ => n - (intOf s6).toNat)
    case atStart => exact ⟨k0, k0 + 1, cur0, rfl, by go_num, by omega, by omega, HB1, HG1, HS0⟩
    case round =>
      obtain ⟨i, j, cur, rfl, rfl, hjn, hij, HB, HG, HI⟩ := hrel
      have hgs := lt_of_blk HG.out
      by_cases hlt : j < n
      · obtain ⟨x, hx, hxm⟩ := HMX.out j hlt
        have hszc : cur.size = c * 7 := HI.out.1
        have hdr : (cur.toList.take (n * 7)).drop (j * 7) = encMsg x ++ (l.drop (j + 1)).flatMap encMsg := by
          have hjl : j < l.length := by rw [HL.out]; exact hlt
          have he : l[j] = x := by rw [List.getElem?_eq_getElem hjl] at hx; exact Option.some.inj hx
          rw [HI.out.2.2.1, List.drop_eq_getElem_cons hjl, List.flatMap_cons, he]
        have hcj : ∀ t u, (encMsg x)[t]? = some u → t < 7 → cur[j * 7 + t]? = some u := fun t u hu ht => by
          have e := congrArg (fun L => L[t]?) hdr
          simp only [List.getElem?_drop] at e
          rw [List.getElem?_take, if_pos (by omega), List.getElem?_append_left (by rw [lenMsg]; exact ht), hu] at e
          rw [← Array.getElem?_toList]; exact e
        have c0 : wr.cell? ⟨gb, j * 7, none⟩ = some (.int .u64 x.key) := (cell_of_blk HG.out _).trans (hcj 0 _ rfl (by decide))
        have c1 : wr.cell? ⟨gb, j * 7 + 1, none⟩ = some (.string x.name) := (cell_of_blk HG.out _).trans (hcj 1 _ rfl (by decide))
        have c2 : wr.cell? ⟨gb, j * 7 + 2, none⟩ = some (.string x.dest) := (cell_of_blk HG.out _).trans (hcj 2 _ rfl (by decide))
        have c3 : wr.cell? ⟨gb, j * 7 + 3, none⟩ = some (.string x.id) := (cell_of_blk HG.out _).trans (hcj 3 _ rfl (by decide))
        have c4 : wr.cell? ⟨gb, j * 7 + 4, none⟩ = some (.int .i64 x.till) := (cell_of_blk HG.out _).trans (hcj 4 _ rfl (by decide))
        have c5 : wr.cell? ⟨gb, j * 7 + 5, none⟩ = some (.slice x.vA x.vN x.vC) := (cell_of_blk HG.out _).trans (hcj 5 _ rfl (by decide))
        have c6 : wr.cell? ⟨gb, j * 7 + 6, none⟩ = some (.slice x.iA x.iN x.iC) := (cell_of_blk HG.out _).trans (hcj 6 _ rfl (by decide))
        have hcall := fun W hW => HP.out W hW x hxm
        have HX := Lib.hid hx
        have HDR := Lib.hid hdr
        clear hcj hdr hx hxm
        cases hq : p x with
        | false =>
          rw [hq] at hcall
          have HQ := Lib.hid hq
          have HCALL := Lib.hid hcall
          clear hq hcall
          go_wp2_with fail
          refine (HCALL.out _ (below2 HB.out (vbox_Msg wr x).1)).mono ?_
          rintro e w1 ⟨rfl, hb1⟩
          have hv1 := block_below hb1 (vbox_Msg wr x).2
          have HBW := Lib.hid (below2 HB.out (below2 (vbox_Msg wr x).1 hb1))
          have hgw := block_below hb1 (block_below (vbox_Msg wr x).1 HG.out)
          have k0 := cell_of_blk hv1 0
          have k1 := cell_of_blk hv1 1
          have k2 := cell_of_blk hv1 2
          have k3 := cell_of_blk hv1 3
          have k4 := cell_of_blk hv1 4
          have k5 := cell_of_blk hv1 5
          have k6 := cell_of_blk hv1 6
          clear hv1
          obtain ⟨u0, hu0⟩ : ∃ u, cur[i * 7]? = some u := ⟨_, Array.getElem?_eq_getElem (by rw [hszc]; have : i * 7 + 7 ≤ c * 7 := (by have := Nat.mul_le_mul_right 7 (show i + 1 ≤ c by omega); omega); omega)⟩
          have j0 := (cell_of_blk hgw (i * 7)).trans hu0
          have f0 := frozen_of_blk hgw (i * 7)
          clear hu0
          obtain ⟨u1, hu1⟩ : ∃ u, cur[i * 7 + 1]? = some u := ⟨_, Array.getElem?_eq_getElem (by rw [hszc]; have : i * 7 + 7 ≤ c * 7 := (by have := Nat.mul_le_mul_right 7 (show i + 1 ≤ c by omega); omega); omega)⟩
          have j1 := (cell_of_blk hgw (i * 7 + 1)).trans hu1
          have f1 := frozen_of_blk hgw (i * 7 + 1)
          clear hu1
          obtain ⟨u2, hu2⟩ : ∃ u, cur[i * 7 + 2]? = some u := ⟨_, Array.getElem?_eq_getElem (by rw [hszc]; have : i * 7 + 7 ≤ c * 7 := (by have := Nat.mul_le_mul_right 7 (show i + 1 ≤ c by omega); omega); omega)⟩
          have j2 := (cell_of_blk hgw (i * 7 + 2)).trans hu2
          have f2 := frozen_of_blk hgw (i * 7 + 2)
          clear hu2
          obtain ⟨u3, hu3⟩ : ∃ u, cur[i * 7 + 3]? = some u := ⟨_, Array.getElem?_eq_getElem (by rw [hszc]; have : i * 7 + 7 ≤ c * 7 := (by have := Nat.mul_le_mul_right 7 (show i + 1 ≤ c by omega); omega); omega)⟩
          have j3 := (cell_of_blk hgw (i * 7 + 3)).trans hu3
          have f3 := frozen_of_blk hgw (i * 7 + 3)
          clear hu3
          obtain ⟨u4, hu4⟩ : ∃ u, cur[i * 7 + 4]? = some u := ⟨_, Array.getElem?_eq_getElem (by rw [hszc]; have : i * 7 + 7 ≤ c * 7 := (by have := Nat.mul_le_mul_right 7 (show i + 1 ≤ c by omega); omega); omega)⟩
          have j4 := (cell_of_blk hgw (i * 7 + 4)).trans hu4
          have f4 := frozen_of_blk hgw (i * 7 + 4)
          clear hu4
          obtain ⟨u5, hu5⟩ : ∃ u, cur[i * 7 + 5]? = some u := ⟨_, Array.getElem?_eq_getElem (by rw [hszc]; have : i * 7 + 7 ≤ c * 7 := (by have := Nat.mul_le_mul_right 7 (show i + 1 ≤ c by omega); omega); omega)⟩
          have j5 := (cell_of_blk hgw (i * 7 + 5)).trans hu5
          have f5 := frozen_of_blk hgw (i * 7 + 5)
          clear hu5
          obtain ⟨u6, hu6⟩ : ∃ u, cur[i * 7 + 6]? = some u := ⟨_, Array.getElem?_eq_getElem (by rw [hszc]; have : i * 7 + 7 ≤ c * 7 := (by have := Nat.mul_le_mul_right 7 (show i + 1 ≤ c by omega); omega); omega)⟩
          have j6 := (cell_of_blk hgw (i * 7 + 6)).trans hu6
          have f6 := frozen_of_blk hgw (i * 7 + 6)
          clear hu6
          have HGW := Lib.hid hgw
          clear hgw hb1
          go_wp2_with fail
          go_roundw
          case rel =>
            refine ⟨i + 1, j + 1, _, by go_num, by go_num, by omega, by omega, Lib.hid ((((((((HBW.out).setCell (p := ⟨gb, i * 7, none⟩) (by show _ ≤ gb; have := HBS.out; have := HBG.out; omega) _).setCell (p := ⟨gb, i * 7 + 1, none⟩) (by show _ ≤ gb; have := HBS.out; have := HBG.out; omega) _).setCell (p := ⟨gb, i * 7 + 2, none⟩) (by show _ ≤ gb; have := HBS.out; have := HBG.out; omega) _).setCell (p := ⟨gb, i * 7 + 3, none⟩) (by show _ ≤ gb; have := HBS.out; have := HBG.out; omega) _).setCell (p := ⟨gb, i * 7 + 4, none⟩) (by show _ ≤ gb; have := HBS.out; have := HBG.out; omega) _).setCell (p := ⟨gb, i * 7 + 5, none⟩) (by show _ ≤ gb; have := HBS.out; have := HBG.out; omega) _).setCell (p := ⟨gb, i * 7 + 6, none⟩) (by show _ ≤ gb; have := HBS.out; have := HBG.out; omega) _), Lib.hid (set_blk (o := i * 7 + 6) (set_blk (o := i * 7 + 5) (set_blk (o := i * 7 + 4) (set_blk (o := i * 7 + 3) (set_blk (o := i * 7 + 2) (set_blk (o := i * 7 + 1) (set_blk (o := i * 7) (HGW.out) (.int .u64 x.key)) (.string x.name)) (.string x.dest)) (.string x.id)) (.int .i64 x.till)) (.slice x.vA x.vN x.vC)) (.slice x.iA x.iN x.iC)), Lib.hid ?_⟩
            have e1 : (l.take (j + 1)).filter (fun x => !p x) = (l.take j).filter (fun x => !p x) ++ [x] := by
              rw [List.take_add_one, HX.out, List.filter_append]
              congr 1
              simp [HQ.out]
            have hil : (i + 1) * 7 ≤ cur.size := by rw [hszc]; exact Nat.mul_le_mul_right _ (by omega)
            have e2 : (((((((cur.setIfInBounds (i * 7) (.int .u64 x.key)).setIfInBounds (i * 7 + 1) (.string x.name)).setIfInBounds (i * 7 + 2) (.string x.dest)).setIfInBounds (i * 7 + 3) (.string x.id)).setIfInBounds (i * 7 + 4) (.int .i64 x.till)).setIfInBounds (i * 7 + 5) (.slice x.vA x.vN x.vC)).setIfInBounds (i * 7 + 6) (.slice x.iA x.iN x.iC)).toList = splice cur.toList (i * 7) (encMsg x) := by
              rw [← setAll_splice _ _ _ (by rw [lenMsg, Array.length_toList]; omega)]
              simp only [Array.toList_setIfInBounds]
              first | rfl | (simp only [Nat.mul_one]; rfl)
            refine ⟨by simp only [Array.size_setIfInBounds]; exact hszc, ?_, ?_, ?_⟩
            · rw [e2, e1, List.flatMap_append, ← HI.out.2.1, splice_take (by rw [lenMsg, Nat.succ_mul]) (by rw [lenMsg, Array.length_toList]; omega), List.flatMap_singleton]
            · have e3 := congrArg (fun L => L.drop 7) HI.out.2.2.1
              simp only [List.drop_drop] at e3
              rw [show j * 7 + 7 = (j + 1) * 7 by omega, flat_drop1 (enc := encMsg) lenMsg] at e3
              have hle : (i + 1) * 7 ≤ (j + 1) * 7 := Nat.mul_le_mul_right _ (by omega)
              rw [e2, ← e3, List.drop_take, List.drop_take, splice_drop (by rw [lenMsg]; omega) (by rw [lenMsg, Array.length_toList]; omega)]
            · rw [e1, List.length_append, ← HI.out.2.2.2]; rfl
          case measure => simp [intOf]; omega
        | true =>
          rw [hq] at hcall
          have HQ := Lib.hid hq
          have HCALL := Lib.hid hcall
          clear hq hcall
          go_wp2_with fail
          refine (HCALL.out _ (below2 HB.out (vbox_Msg wr x).1)).mono ?_
          rintro e w1 ⟨rfl, hb1⟩
          have hv1 := block_below hb1 (vbox_Msg wr x).2
          have HBW := Lib.hid (below2 HB.out (below2 (vbox_Msg wr x).1 hb1))
          have hgw := block_below hb1 (block_below (vbox_Msg wr x).1 HG.out)
          clear hv1
          have HGW := Lib.hid hgw
          clear hgw hb1
          go_wp2_with fail
          go_roundw
          case rel =>
            refine ⟨i, j + 1, cur, rfl, by go_num, by omega, by omega, HBW, HGW, Lib.hid ?_⟩
            have e1 : (l.take (j + 1)).filter (fun x => !p x) = (l.take j).filter (fun x => !p x) := by
              rw [List.take_add_one, HX.out, List.filter_append]
              simp [HQ.out]
            rw [e1]
            refine ⟨hszc, HI.out.2.1, ?_, HI.out.2.2.2⟩
            have e3 := congrArg (fun L => L.drop 7) HDR.out
            simp only [List.drop_drop] at e3
            rw [show j * 7 + 7 = (j + 1) * 7 by omega] at e3
            rw [e3, List.drop_append, List.drop_of_length_le (by rw [lenMsg]; exact Nat.le_refl _), lenMsg]
            simp
          case measure => simp [intOf]; omega
      · obtain rfl : j = n := by omega
        have hszc : cur.size = c * 7 := HI.out.1
        have hfit : i * 7 + (j - i) * 7 ≤ cur.size := by
          rw [hszc, ← Nat.add_mul]; exact Nat.mul_le_mul_right _ (by omega)
        have hcl : ∀ ty, (Builtin.clear_ #[33] ty #[.slice (some ⟨gb, i * 7, none⟩) (j - i) (c - i)]).run Tryz.prog wr = .ok (.tuple #[]) (wr.setRow gb (splice cur.toList (i * 7) (Builtin.zeroCells (.agg #[.int .u64 0, .string ⟨#[]⟩, .string ⟨#[]⟩, .string ⟨#[]⟩, .int .i64 0, .slice none 0 0, .slice none 0 0] : Value).cells (j - i)).toList).toArray) := fun ty =>
          run_clear_wide wr 33 64 ty _ 7 Tryz.underlying33 zs_Msg rfl (by intro u hu; simp [Value.cells] at hu; rcases hu with rfl | rfl | rfl | rfl | rfl | rfl | rfl <;> rfl) gb (i * 7) (j - i) (c - i) cur 64 (by omega) HG.out hfit
        have hci : ¬ (c = i) := by omega
        have hcl2 : i ≤ c := by omega
        have hin : i ≤ j := by omega
        have HCL := Lib.hid hcl
        clear hcl
        have HHQ := Lib.hid (setRow_heap wr gb cur (splice cur.toList (i * 7) (Builtin.zeroCells (.agg #[.int .u64 0, .string ⟨#[]⟩, .string ⟨#[]⟩, .string ⟨#[]⟩, .int .i64 0, .slice none 0 0, .slice none 0 0] : Value).cells (j - i)).toList).toArray 64 (0, 0) HG.out)
        have HHB : Hid (Below w0.heap.size w0 (wr.setRow gb (splice cur.toList (i * 7) (Builtin.zeroCells (.agg #[.int .u64 0, .string ⟨#[]⟩, .string ⟨#[]⟩, .string ⟨#[]⟩, .int .i64 0, .slice none 0 0, .slice none 0 0] : Value).cells (j - i)).toList).toArray)) := Lib.hid (below_setRow HB.out (by have := HBS.out; have := HBG.out; omega) _)
        have hsp : (splice cur.toList (i * 7) (Builtin.zeroCells (.agg #[.int .u64 0, .string ⟨#[]⟩, .string ⟨#[]⟩, .string ⟨#[]⟩, .int .i64 0, .slice none 0 0, .slice none 0 0] : Value).cells (j - i)).toList).toArray.size = cur.size ∧ (splice cur.toList (i * 7) (Builtin.zeroCells (.agg #[.int .u64 0, .string ⟨#[]⟩, .string ⟨#[]⟩, .string ⟨#[]⟩, .int .i64 0, .slice none 0 0, .slice none 0 0] : Value).cells (j - i)).toList).toArray.toList.take (i * 7) = cur.toList.take (i * 7) := by
          have hzl : (Builtin.zeroCells (.agg #[.int .u64 0, .string ⟨#[]⟩, .string ⟨#[]⟩, .string ⟨#[]⟩, .int .i64 0, .slice none 0 0, .slice none 0 0] : Value).cells (j - i)).toList.length = (j - i) * 7 := by rw [Array.length_toList, size_zeroCells]; rfl
          have hle : i * 7 + (j - i) * 7 ≤ cur.size := by
            exact hfit
          refine ⟨by rw [List.size_toArray, length_splice _ _ _ (by rw [hzl, Array.length_toList]; exact hle), Array.length_toList], ?_⟩
          rw [List.toList_toArray]
          unfold splice
          have hll : (cur.toList.take (i * 7)).length = i * 7 := by rw [List.length_take, Array.length_toList]; omega
          rw [List.take_append_of_le_length (by rw [hll]; exact Nat.le_refl _), List.take_of_length_le (by rw [hll]; exact Nat.le_refl _)]
        have HSP := Lib.hid hsp
        clear hsp
        generalize (splice cur.toList (i * 7) (Builtin.zeroCells (.agg #[.int .u64 0, .string ⟨#[]⟩, .string ⟨#[]⟩, .string ⟨#[]⟩, .int .i64 0, .slice none 0 0, .slice none 0 0] : Value).cells (j - i)).toList).toArray = CR at *
        have hcl' := HCL.out
        have hji : ((j : Int) - (i : Int)).toNat = j - i := by omega
        go_wp2
        go_ret
        have hfl : (l.filter fun x => !p x).length = i := by rw [HFL.out]; exact HI.out.2.2.2.symm
        rw [hfl]
        refine ⟨_, _, rfl, rowb_Msg HBG.out HHQ.out (by omega) HCM.out (by rw [HSP.out.1]; exact hszc.symm) hfl ?_, HHB.out⟩
        rw [HFL.out, ← HI.out.2.1]
        first | exact HSP.out.2 | (rw [Nat.mul_one]; exact HSP.out.2)
set_option maxRecDepth 100000 in
theorem without_Msg (A : Option Addr) (n c g : Nat) (lb : Array Value) (l : List EMsg) (p : EMsg → Bool) (w : World) (S : Nat → Prop) (eg : ∀ args w, (callFunc g args).run Tryz.prog w = .ok (.enter g args) w) (hl : l.length = n) (hby : n * 112 ≤ 140737488355328) (hr : Row w S 7 n (.slice A n c) (l.flatMap encMsg))
    (hp : ∀ W, Below w.heap.size w W → ∀ x ∈ l, Calls Tryz.prog g (#[.agg #[.int .u64 x.key, .string x.name, .string x.dest, .string x.id, .int .i64 x.till, .slice x.vA x.vN x.vC, .slice x.iA x.iN x.iC]] ++ lb) W fun e w' => e = .returned (.bool (p x)) ∧ Below W.heap.size W w') :
    Calls Tryz.prog 117 #[.slice A n c, .func (.func g) #[] lb] w fun e w' => ∃ A' c', e = .returned (.slice A' (l.filter fun x => !p x).length c') ∧ w'.ownsRow w.heap.size 64 7 (.slice A' (l.filter fun x => !p x).length c') (l.filter fun x => !p x).length ((l.filter fun x => !p x).flatMap encMsg) ∧ Below w.heap.size w w' := by
  have HC := Lib.hid (clone_Msg A n c l w S hl hby hr)
  have HP := Lib.hid hp
  have HL := Lib.hid hl
  have EG := Lib.hid eg
  clear hp hr hl eg
  go_enter Tryz.func117, Tryz.ntmps117
  go_wp2_with (go_at_call 31; refine HC.out.mono ?_; rintro e w1 ⟨A1, c1, rfl, hown, hb⟩; have HO1 := Lib.hid hown; have HB1 := Lib.hid hb; clear hown hb)
  refine (del_Msg w.heap.size _ n g lb l p w w1 EG.out HL.out HO1.out (Nat.le_refl _) HB1.out HP.out).mono ?_
  rintro e w2 ⟨A2, c2, rfl, hown, hb⟩
  have HO2 := Lib.hid hown
  have HB2 := Lib.hid hb
  clear hown hb
  go_wp2_with fail
  go_ret
  exact ⟨A2, c2, rfl, HO2.out, HB2.out⟩
end Go.Proofs.YtgpkmellpllmgaaGreat
/-
  fold.change of Message. Printed by gfold.py.
-/
set_option linter.unusedVariables false
set_option linter.unusedSimpArgs false
namespace Go.Proofs.YtgpkmellpllmgaaGreat
open Go Go.RowKit Go.Proofs.Base
open Go.Sort (grow)
set_option maxRecDepth 100000 in
set_option maxHeartbeats 4000000 in
theorem change_Msg (A : Option Addr) (n c g g2 : Nat) (lb lb2 : Array Value) (l : List EMsg) (p : EMsg → Bool) (F : World → EMsg → EMsg → Prop) (w : World) (S : Nat → Prop) (eg : ∀ args w, (callFunc g args).run Tryz.prog w = .ok (.enter g args) w) (eg2 : ∀ args w, (callFunc g2 args).run Tryz.prog w = .ok (.enter g2 args) w)
    (hl : l.length = n) (hby : n * 112 ≤ 140737488355328) (hr : Row w S 7 n (.slice A n c) (l.flatMap encMsg))
    (hp : ∀ W, Below w.heap.size w W → ∀ x ∈ l, Calls Tryz.prog g (#[.agg #[.int .u64 x.key, .string x.name, .string x.dest, .string x.id, .int .i64 x.till, .slice x.vA x.vN x.vC, .slice x.iA x.iN x.iC]] ++ lb) W fun e w' => e = .returned (.bool (p x)) ∧ Below W.heap.size W w')
    (hf : ∀ (W : World) (b : Nat) (cur : Array Value) (i : Nat) (hi : i < l.length), Below w.heap.size w W → w.heap.size ≤ b → W.heap[b]? = some (.cells cur 64 (0, 0)) → cur.toList.take (n * 7) = l.flatMap encMsg → n * 7 ≤ cur.size →
      Calls Tryz.prog g2 (#[.pointer (some ⟨b, i * 7, none⟩)] ++ lb2) W fun e w' => e = .returned (.tuple #[]) ∧ ∃ y, ∃ cur' : Array Value, F w' l[i] y ∧ w'.heap[b]? = some (.cells cur' 64 (0, 0)) ∧ cur'.size = cur.size ∧ cur'.toList.take (n * 7) = (l.set i y).flatMap encMsg ∧ Below w.heap.size w w') :
    Calls Tryz.prog 125 #[.slice A n c, .func (.func g) #[] lb, .func (.func g2) #[] lb2] w fun e w' => ∃ A' c', ∃ l' : List EMsg, e = .returned (.slice A' n c') ∧ Row w' (fun b => S b ∨ w.heap.size ≤ b) 7 n (.slice A' n c') (l'.flatMap encMsg) ∧ l'.length = n ∧
      ((idxP p l = -1 ∧ l' = l) ∨ ∃ i, ∃ hi : i < l.length, ∃ y, idxP p l = (i : Int) ∧ F w' l[i] y ∧ l' = l.set i y) ∧ Below w.heap.size w w' := by
  have HIX := Lib.hid (idx_Msg A n c g lb l p w w S eg hl hr (Below.refl _ _) hp)
  have HR := Lib.hid hr
  have HL := Lib.hid hl
  have HBY := Lib.hid hby
  have HF := Lib.hid hf
  obtain ⟨A0, c0, he0, hnc0, hcm0⟩ := hr.open_
  injection he0 with q1 _ q3
  subst q1 q3
  clear hr hl hf hp eg hby
  rcases idxP_spec p l with ⟨h1, -⟩ | ⟨j, hj, h1, -, -⟩
  · go_enter Tryz.func125, Tryz.ntmps125
    go_wp2_with (go_at_call 121; refine HIX.out.mono ?_; rintro e w1 ⟨rfl, hb⟩; rw [h1]; have HB1 := Lib.hid hb; clear hb)
    go_ret
    exact ⟨A, c, l, rfl, (HR.out.below HB1.out).weaken (fun _ _ h => .inl h), HL.out, .inl ⟨h1, rfl⟩, HB1.out⟩
  · have HJ := Lib.hid hj
    have hjn : j < n := by have := HL.out; omega
    have hj0 : ¬ ((j : Int) < 0) := by omega
    clear hj
    go_enter Tryz.func125, Tryz.ntmps125
    go_wp2_with (go_at_call 121; refine HIX.out.mono ?_; rintro e w1 ⟨rfl, hb⟩; rw [h1]; have HB1 := Lib.hid hb; clear hb)
    refine (clone_Msg A n c l w1 S HL.out HBY.out (HR.out.below HB1.out)).mono ?_
    rintro e w2 ⟨A2, c2, rfl, hown, hb⟩
    have HB2 := Lib.hid (below2 HB1.out hb)
    have HB12 := Lib.hid hb
    obtain ⟨gb, cap, cur, hv, hbg, hhg, hnc5, hcm5, hcs5, htk5⟩ := own_some hown (by omega)
    injection hv with hv1 hv2 hv3
    subst hv1 hv3
    have HG := Lib.hid hhg
    have HTK := Lib.hid htk5
    have HCS := Lib.hid hcs5
    have hws := HB1.out.size
    have HBG : Hid (w.heap.size ≤ gb) := Lib.hid (by omega)
    have HCM := Lib.hid hcm5
    clear hown hb hhg htk5 hcs5 hbg hcm5 hws
    go_wp2_with fail
    refine (HF.out w2 gb cur j HJ.out HB2.out HBG.out HG.out HTK.out (by have := HCS.out; have := Nat.mul_le_mul_right 7 hnc5; omega)).mono ?_
    rintro e w3 ⟨rfl, y, cur', hy, hh3, hcs3, htk3, hb3⟩
    have HY := Lib.hid (And.intro hy (And.intro hh3 (And.intro hcs3 (And.intro htk3 hb3))))
    clear hy hh3 hcs3 htk3 hb3
    go_wp2_with fail
    go_ret
    obtain ⟨hy, hh3, hcs3, htk3, hb3⟩ := HY.out
    have hll : (l.set j y).length = n := by rw [List.length_set, HL.out]
    refine ⟨_, _, l.set j y, rfl, (Row.of_own (rowb_Msg (base := w.heap.size) HBG.out hh3 hnc5 HCM.out (by rw [hcs3]; have := HCS.out; omega) hll htk3)).weaken (fun _ _ h => .inr h.1), hll, .inr ⟨j, HJ.out, y, h1, hy, rfl⟩, hb3⟩
end Go.Proofs.YtgpkmellpllmgaaGreat
/-
  The events that change one element. Printed by gfold2.py.
-/
set_option linter.unusedVariables false
set_option linter.unusedSimpArgs false
namespace Go.Proofs.YtgpkmellpllmgaaGreat
open Go Go.RowKit Go.Proofs.Base
open Go.Sort (grow)
set_option maxRecDepth 100000 in
theorem mk_ofJob (r : GRec) (vA : Option Addr) (vN vC : Nat) (w : World) (hvc : vN ≤ vC) (hvm : vC ≤ 9223372036854775807) :
    Calls Tryz.prog 92 #[.agg #[.int .i64 r.cls, .int .i64 r.kind, .int .u64 r.frm, .int .i64 r.time, .int .u64 r.key, .int .u64 r.key2, .int .u64 r.key3, .int .i64 r.n, .int .i64 r.m, .string r.a, .string r.b, .string r.c, .slice vA vN vC]] w fun e w' => e = .returned (.func (.func 155) #[] #[.pointer (some ⟨w.heap.size, 0, none⟩)]) ∧ recB w' w.heap.size r vA vN vC ∧ Below w.heap.size w w' := by
  go_enter Tryz.func92, Tryz.ntmps92
  go_wp2
  go_ret
  exact ⟨rfl, blk_new _, below_alloc (Below.refl _ _) _⟩
set_option maxRecDepth 100000 in
theorem mk_ofListed (r : GRec) (vA : Option Addr) (vN vC : Nat) (w : World) (hvc : vN ≤ vC) (hvm : vC ≤ 9223372036854775807) :
    Calls Tryz.prog 120 #[.agg #[.int .i64 r.cls, .int .i64 r.kind, .int .u64 r.frm, .int .i64 r.time, .int .u64 r.key, .int .u64 r.key2, .int .u64 r.key3, .int .i64 r.n, .int .i64 r.m, .string r.a, .string r.b, .string r.c, .slice vA vN vC]] w fun e w' => e = .returned (.func (.func 181) #[] #[.pointer (some ⟨w.heap.size, 0, none⟩)]) ∧ recB w' w.heap.size r vA vN vC ∧ Below w.heap.size w w' := by
  go_enter Tryz.func120, Tryz.ntmps120
  go_wp2
  go_ret
  exact ⟨rfl, blk_new _, below_alloc (Below.refl _ _) _⟩
set_option maxRecDepth 100000 in
theorem mk_ofMessage (r : GRec) (vA : Option Addr) (vN vC : Nat) (w : World) (hvc : vN ≤ vC) (hvm : vC ≤ 9223372036854775807) :
    Calls Tryz.prog 122 #[.agg #[.int .i64 r.cls, .int .i64 r.kind, .int .u64 r.frm, .int .i64 r.time, .int .u64 r.key, .int .u64 r.key2, .int .u64 r.key3, .int .i64 r.n, .int .i64 r.m, .string r.a, .string r.b, .string r.c, .slice vA vN vC]] w fun e w' => e = .returned (.func (.func 182) #[] #[.pointer (some ⟨w.heap.size, 0, none⟩)]) ∧ recB w' w.heap.size r vA vN vC ∧ Below w.heap.size w w' := by
  go_enter Tryz.func122, Tryz.ntmps122
  go_wp2
  go_ret
  exact ⟨rfl, blk_new _, below_alloc (Below.refl _ _) _⟩
set_option maxRecDepth 100000 in
set_option maxHeartbeats 4000000 in
theorem ev_taken (Pp Dd Mm : Int) (A3 : Option Addr) (n3 c3 : Nat) (A4 : Option Addr) (n4 c4 : Nat) (A5 : Option Addr) (n5 c5 : Nat) (A6 : Option Addr) (n6 c6 : Nat) (A7 : Option Addr) (n7 c7 : Nat) (A8 : Option Addr) (n8 c8 : Nat) (A9 : Option Addr) (n9 c9 : Nat) (A10 : Option Addr) (n10 c10 : Nat) (A11 : Option Addr) (n11 c11 : Nat) (r : GRec) (vA : Option Addr) (vN vC : Nat) (l : List EJob) (w : World) (S : Nat → Prop) (hl : l.length = n6) (hby : n6 * 64 ≤ 140737488355328) (hr : Row w S 6 n6 (.slice A6 n6 c6) (l.flatMap encJob)) (hvc : vN ≤ vC) (hvm : vC ≤ 9223372036854775807) :
    Calls Tryz.prog 59 #[.agg #[.int .u64 Pp, .int .u64 Dd, .int .u64 Mm, .slice A3 n3 c3, .slice A4 n4 c4, .slice A5 n5 c5, .slice A6 n6 c6, .slice A7 n7 c7, .slice A8 n8 c8, .slice A9 n9 c9, .slice A10 n10 c10, .slice A11 n11 c11], .agg #[.int .i64 r.cls, .int .i64 r.kind, .int .u64 r.frm, .int .i64 r.time, .int .u64 r.key, .int .u64 r.key2, .int .u64 r.key3, .int .i64 r.n, .int .i64 r.m, .string r.a, .string r.b, .string r.c, .slice vA vN vC]] w fun e w' => ∃ A' c', e = .returned (.agg #[.int .u64 Pp, .int .u64 Dd, .int .u64 Mm, .slice A3 n3 c3, .slice A4 n4 c4, .slice A5 n5 c5, .slice A' n6 c', .slice A7 n7 c7, .slice A8 n8 c8, .slice A9 n9 c9, .slice A10 n10 c10, .slice A11 n11 c11]) ∧ Row w' (fun b => S b ∨ w.heap.size ≤ b) 6 n6 (.slice A' n6 c') ((changeL (fun x : EJob => x.key == r.key) (fun x => { x with worker := r.a, till := r.n }) l).flatMap encJob) ∧ Below w.heap.size w w' := by
  obtain ⟨N, hN⟩ : ∃ N, N = ((w.alloc (.cells #[.int .u64 Pp, .int .u64 Dd, .int .u64 Mm, .slice A3 n3 c3, .slice A4 n4 c4, .slice A5 n5 c5, .slice A6 n6 c6, .slice A7 n7 c7, .slice A8 n8 c8, .slice A9 n9 c9, .slice A10 n10 c10, .slice A11 n11 c11] 35)).alloc (.cells #[.int .i64 r.cls, .int .i64 r.kind, .int .u64 r.frm, .int .i64 r.time, .int .u64 r.key, .int .u64 r.key2, .int .u64 r.key3, .int .i64 r.n, .int .i64 r.m, .string r.a, .string r.b, .string r.c, .slice vA vN vC] 39)).alloc (.cells #[.int .u64 0, .int .u64 0, .int .u64 0, .slice none 0 0, .slice none 0 0, .slice none 0 0, .slice none 0 0, .slice none 0 0, .slice none 0 0, .slice none 0 0, .slice none 0 0, .slice none 0 0] 35) := ⟨_, rfl⟩
  have b0 : N.heap[w.heap.size]? = some (.cells #[.int .u64 Pp, .int .u64 Dd, .int .u64 Mm, .slice A3 n3 c3, .slice A4 n4 c4, .slice A5 n5 c5, .slice A6 n6 c6, .slice A7 n7 c7, .slice A8 n8 c8, .slice A9 n9 c9, .slice A10 n10 c10, .slice A11 n11 c11] 35 (0, 0)) := by rw [hN]; exact blk_alloc (blk_alloc (blk_new _) _) _
  have b1 : recB N (w.heap.size + 1) r vA vN vC := by rw [hN]; exact blk_alloc (blk_new_of _ (by simp)) _
  have b2 : N.heap[w.heap.size + 1 + 1]? = some (.cells #[.int .u64 0, .int .u64 0, .int .u64 0, .slice none 0 0, .slice none 0 0, .slice none 0 0, .slice none 0 0, .slice none 0 0, .slice none 0 0, .slice none 0 0, .slice none 0 0, .slice none 0 0] 35 (0, 0)) := by rw [hN]; exact blk_new_of _ (by simp)
  have hB : Below w.heap.size w N := by rw [hN]; exact below_alloc (below_alloc (below_alloc (Below.refl _ _) _) _) _
  have hsz : N.heap.size = w.heap.size + 3 := by rw [hN]; simp
  have HN := Lib.hid hN
  have HB := Lib.hid hB
  have HSZ := Lib.hid hsz
  have K0 := Lib.hid b0
  have K1 := Lib.hid b1
  have K2 := Lib.hid b2
  have eg : ∀ args w, (callFunc 155 args).run Tryz.prog w = .ok (.enter 155 args) w := enters_of Tryz.func155 (by kernel_rfl) rfl
  have eg2 : ∀ args w, (callFunc 93 args).run Tryz.prog w = .ok (.enter 93 args) w := enters_of Tryz.func93 (by kernel_rfl) rfl
  have HCH := Lib.hid (fun W bq (hW : Below N.heap.size N W) (hq : recB W bq r vA vN vC) => change_Job A6 n6 c6 155 93 #[.pointer (some ⟨bq, 0, none⟩)] #[.pointer (some ⟨w.heap.size + 1, 0, none⟩)] l (fun x : EJob => x.key == r.key) (fun _ x y => y = { x with worker := r.a, till := r.n }) W (fun b => S b ∧ b < w.heap.size) eg eg2 hl hby ((hr.weaken (S' := fun b => S b ∧ b < w.heap.size) (fun b hb h => ⟨h, hb⟩)).below (below2 hB hW))
    (fun V hV x _ => p_ofJob_1 bq x r vA vN vC V (block_below hV hq))
    (fun V b cur i hi hV hwb hg ht hs => (c_taken_1 b i n6 cur l (w.heap.size + 1) r vA vN vC (by have := hW.size; omega) V (block_below hV (block_below hW b1)) hi hl hg ht hs).mono (fun e w' ⟨he, cur', h1, h2, h3, hm⟩ => ⟨he, _, cur', rfl, h1, h2, h3, below_mut hV hm (fun b' hb' => hb' ▸ hwb)⟩)))
  have HMK := Lib.hid (fun W => mk_ofJob r vA vN vC W hvc hvm)
  clear hN hB hsz b0 b1 b2 hr hl eg eg2
  have k0 := K0.out
  have k1 := K1.out
  go_enter Tryz.func59, Tryz.ntmps59
  go_wp2_with fail
  rw [show ((w.alloc (.cells #[.int .u64 Pp, .int .u64 Dd, .int .u64 Mm, .slice A3 n3 c3, .slice A4 n4 c4, .slice A5 n5 c5, .slice A6 n6 c6, .slice A7 n7 c7, .slice A8 n8 c8, .slice A9 n9 c9, .slice A10 n10 c10, .slice A11 n11 c11] 35)).alloc (.cells #[.int .i64 r.cls, .int .i64 r.kind, .int .u64 r.frm, .int .i64 r.time, .int .u64 r.key, .int .u64 r.key2, .int .u64 r.key3, .int .i64 r.n, .int .i64 r.m, .string r.a, .string r.b, .string r.c, .slice vA vN vC] 39)).alloc (.cells #[.int .u64 0, .int .u64 0, .int .u64 0, .slice none 0 0, .slice none 0 0, .slice none 0 0, .slice none 0 0, .slice none 0 0, .slice none 0 0, .slice none 0 0, .slice none 0 0, .slice none 0 0] 35) = N from HN.out.symm]
  have s6 := cell_regrown (cell_of_blk k0 6)
  have q0 := cell_regrown (cell_of_blk k1 0)
  have q1 := cell_regrown (cell_of_blk k1 1)
  have q2 := cell_regrown (cell_of_blk k1 2)
  have q3 := cell_regrown (cell_of_blk k1 3)
  have q4 := cell_regrown (cell_of_blk k1 4)
  have q5 := cell_regrown (cell_of_blk k1 5)
  have q6 := cell_regrown (cell_of_blk k1 6)
  have q7 := cell_regrown (cell_of_blk k1 7)
  have q8 := cell_regrown (cell_of_blk k1 8)
  have q9 := cell_regrown (cell_of_blk k1 9)
  have q10 := cell_regrown (cell_of_blk k1 10)
  have q11 := cell_regrown (cell_of_blk k1 11)
  have q12 := cell_regrown (cell_of_blk k1 12)
  clear k0 k1
  refine wp_region_ord [7] (n := 8) (listed := #[false, false, false, false, false, false, false, false]) (by kernel_rfl) rfl rfl ?_
  ((refine wpK_pure (fuel := 7) (listed' := #[true, false, false, false, false, false, false, false]) 0 rfl (by kernel_rfl) rfl ?_; (first | go_big_quiet_step (fail) | quiet_step (fail)); refine wpQuiet_nil ?_))
  ((refine wpK_read (fuel := 6) (listed' := #[true, true, false, false, false, false, false, false]) 1 (by first | exact regrown_first _ _ | exact regrown_self _) rfl (by kernel_rfl) rfl ?_; (first | go_big_quiet_step (fail) | quiet_step (fail)); refine wpQuiet_nil ?_); (refine wpK_read (fuel := 5) (listed' := #[true, true, true, false, false, false, false, false]) 2 (by first | exact regrown_first _ _ | exact regrown_self _) rfl (by kernel_rfl) rfl ?_; (first | go_big_quiet_step (fail) | quiet_step (fail)); refine wpQuiet_nil ?_))
  ((refine wpK_pure (fuel := 4) (listed' := #[true, true, true, false, true, false, false, false]) 4 rfl (by kernel_rfl) rfl ?_; (first | go_big_quiet_step (fail) | quiet_step (fail)); refine wpQuiet_nil ?_))
  refine wpK_one (fuel := 3) (listed' := #[true, true, true, true, true, false, false, false]) 3 rfl (by kernel_rfl) rfl ?_
  go_wp2_with (go_at_call 92; refine (HMK.out _).mono ?_; rintro e w1 ⟨rfl, hq, hb⟩; have HQ := Lib.hid hq; have HB1 := Lib.hid (below2 (below_redrawn N (N.drawn + 1)) hb); clear hq hb)
  refine ⟨rfl, fun _ _ => regrown_of_below HB1.out, ?_⟩
  refine wpK_one (fuel := 2) (listed' := #[true, true, true, true, true, true, false, false]) 5 rfl (by kernel_rfl) rfl ?_
  go_wp2_with fail
  refine (HCH.out w1 _ HB1.out HQ.out).mono ?_
  rintro e w2 ⟨A', c', l', rfl, hrow, hll, hrel, hb⟩
  have HR2 := Lib.hid hrow
  have HLL := Lib.hid hll
  have HRel := Lib.hid hrel
  have HB2 := Lib.hid (below2 HB1.out hb)
  have HWB := Lib.hid (below2 HB.out HB2.out)
  have k0 := block_below HB2.out K0.out
  have k2 := block_below HB2.out K2.out
  obtain ⟨Ab, cb, heb, hncb, hcmb⟩ := hrow.open_
  injection heb with eb1 _ eb3
  subst eb1 eb3
  clear hrow hll hrel hb s6 q0 q1 q2 q3 q4 q5 q6 q7 q8 q9 q10 q11 q12
  have s0 := cell_of_blk k0 0
  have s1 := cell_of_blk k0 1
  have s2 := cell_of_blk k0 2
  have s3 := cell_of_blk k0 3
  have s4 := cell_of_blk k0 4
  have s5 := cell_of_blk k0 5
  have s6 := cell_of_blk k0 6
  have s7 := cell_of_blk k0 7
  have s8 := cell_of_blk k0 8
  have s9 := cell_of_blk k0 9
  have s10 := cell_of_blk k0 10
  have s11 := cell_of_blk k0 11
  have f0 := frozen_of_blk k0 0
  have f1 := frozen_of_blk k0 1
  have f2 := frozen_of_blk k0 2
  have f3 := frozen_of_blk k0 3
  have f4 := frozen_of_blk k0 4
  have f5 := frozen_of_blk k0 5
  have f6 := frozen_of_blk k0 6
  have f7 := frozen_of_blk k0 7
  have f8 := frozen_of_blk k0 8
  have f9 := frozen_of_blk k0 9
  have f10 := frozen_of_blk k0 10
  have f11 := frozen_of_blk k0 11
  have z0 := cell_of_blk k2 0
  have z1 := cell_of_blk k2 1
  have z2 := cell_of_blk k2 2
  have z3 := cell_of_blk k2 3
  have z4 := cell_of_blk k2 4
  have z5 := cell_of_blk k2 5
  have z6 := cell_of_blk k2 6
  have z7 := cell_of_blk k2 7
  have z8 := cell_of_blk k2 8
  have z9 := cell_of_blk k2 9
  have z10 := cell_of_blk k2 10
  have z11 := cell_of_blk k2 11
  have g0 := frozen_of_blk k2 0
  have g1 := frozen_of_blk k2 1
  have g2 := frozen_of_blk k2 2
  have g3 := frozen_of_blk k2 3
  have g4 := frozen_of_blk k2 4
  have g5 := frozen_of_blk k2 5
  have g6 := frozen_of_blk k2 6
  have g7 := frozen_of_blk k2 7
  have g8 := frozen_of_blk k2 8
  have g9 := frozen_of_blk k2 9
  have g10 := frozen_of_blk k2 10
  have g11 := frozen_of_blk k2 11
  have KZ := Lib.hid k2
  have KS := Lib.hid k0
  clear k0 k2
  go_wp2_with fail
  refine ⟨rfl, fun _ _ => regrown_of_below HB2.out, ?_⟩
  ((refine wpK_pure (fuel := 1) (listed' := #[true, true, true, true, true, true, true, false]) 6 rfl (by kernel_rfl) rfl ?_; (first | go_big_quiet_step (fail) | quiet_step (fail)); refine wpQuiet_nil ?_))
  refine wpK_one (fuel := 0) (listed' := #[true, true, true, true, true, true, true, true]) 7 rfl (by kernel_rfl) rfl ?_
  go_wp2_with fail
  refine ⟨rfl, fun h => absurd h (by decide), ?_⟩
  refine wpK_end rfl ?_
  go_wp2_with fail
  generalize hWE : World.setCell (World.setCell (World.setCell (World.setCell (World.setCell (World.setCell (World.setCell (World.setCell (World.setCell (World.setCell (World.setCell (World.setCell (World.setCell (_) _ _) _ _) _ _) _ _) _ _) _ _) _ _) _ _) _ _) _ _) _ _) _ _) _ _ = WE
  have ho : WE.heap[w.heap.size + 1 + 1]? = some (.cells #[.int .u64 Pp, .int .u64 Dd, .int .u64 Mm, .slice A3 n3 c3, .slice A4 n4 c4, .slice A5 n5 c5, .slice A' n6 c', .slice A7 n7 c7, .slice A8 n8 c8, .slice A9 n9 c9, .slice A10 n10 c10, .slice A11 n11 c11] 35 (0, 0)) := by rw [← hWE]; exact set_blk12 (blk_set_other (b := w.heap.size) (o := 6) (KZ.out) (by omega)) (.int .u64 Pp) (.int .u64 Dd) (.int .u64 Mm) (.slice A3 n3 c3) (.slice A4 n4 c4) (.slice A5 n5 c5) (.slice A' n6 c') (.slice A7 n7 c7) (.slice A8 n8 c8) (.slice A9 n9 c9) (.slice A10 n10 c10) (.slice A11 n11 c11)
  have hbe : Below w.heap.size w WE := by rw [← hWE]; exact (((((((((((((HWB.out).setCell (p := ⟨w.heap.size, 6, none⟩) (Nat.le_refl _) _).setCell (p := ⟨w.heap.size + 1 + 1, 0, none⟩) (by show _ ≤ _ + 1 + 1; omega) _).setCell (p := ⟨w.heap.size + 1 + 1, 1, none⟩) (by show _ ≤ _ + 1 + 1; omega) _).setCell (p := ⟨w.heap.size + 1 + 1, 2, none⟩) (by show _ ≤ _ + 1 + 1; omega) _).setCell (p := ⟨w.heap.size + 1 + 1, 3, none⟩) (by show _ ≤ _ + 1 + 1; omega) _).setCell (p := ⟨w.heap.size + 1 + 1, 4, none⟩) (by show _ ≤ _ + 1 + 1; omega) _).setCell (p := ⟨w.heap.size + 1 + 1, 5, none⟩) (by show _ ≤ _ + 1 + 1; omega) _).setCell (p := ⟨w.heap.size + 1 + 1, 6, none⟩) (by show _ ≤ _ + 1 + 1; omega) _).setCell (p := ⟨w.heap.size + 1 + 1, 7, none⟩) (by show _ ≤ _ + 1 + 1; omega) _).setCell (p := ⟨w.heap.size + 1 + 1, 8, none⟩) (by show _ ≤ _ + 1 + 1; omega) _).setCell (p := ⟨w.heap.size + 1 + 1, 9, none⟩) (by show _ ≤ _ + 1 + 1; omega) _).setCell (p := ⟨w.heap.size + 1 + 1, 10, none⟩) (by show _ ≤ _ + 1 + 1; omega) _).setCell (p := ⟨w.heap.size + 1 + 1, 11, none⟩) (by show _ ≤ _ + 1 + 1; omega) _
  have hmu : Mut (fun b => b = w.heap.size ∨ b = w.heap.size + 1 + 1) w2 WE := by
    rw [← hWE]
    exact Mut.setCell (T := fun b => b = w.heap.size ∨ b = w.heap.size + 1 + 1) (Mut.setCell (T := fun b => b = w.heap.size ∨ b = w.heap.size + 1 + 1) (Mut.setCell (T := fun b => b = w.heap.size ∨ b = w.heap.size + 1 + 1) (Mut.setCell (T := fun b => b = w.heap.size ∨ b = w.heap.size + 1 + 1) (Mut.setCell (T := fun b => b = w.heap.size ∨ b = w.heap.size + 1 + 1) (Mut.setCell (T := fun b => b = w.heap.size ∨ b = w.heap.size + 1 + 1) (Mut.setCell (T := fun b => b = w.heap.size ∨ b = w.heap.size + 1 + 1) (Mut.setCell (T := fun b => b = w.heap.size ∨ b = w.heap.size + 1 + 1) (Mut.setCell (T := fun b => b = w.heap.size ∨ b = w.heap.size + 1 + 1) (Mut.setCell (T := fun b => b = w.heap.size ∨ b = w.heap.size + 1 + 1) (Mut.setCell (T := fun b => b = w.heap.size ∨ b = w.heap.size + 1 + 1) (Mut.setCell (T := fun b => b = w.heap.size ∨ b = w.heap.size + 1 + 1) (Mut.setCell (T := fun b => b = w.heap.size ∨ b = w.heap.size + 1 + 1) (Mut.refl _ _) (p := ⟨w.heap.size, 6, none⟩) (fun _ => .inl rfl) _) (p := ⟨w.heap.size + 1 + 1, 0, none⟩) (fun _ => .inr rfl) _) (p := ⟨w.heap.size + 1 + 1, 1, none⟩) (fun _ => .inr rfl) _) (p := ⟨w.heap.size + 1 + 1, 2, none⟩) (fun _ => .inr rfl) _) (p := ⟨w.heap.size + 1 + 1, 3, none⟩) (fun _ => .inr rfl) _) (p := ⟨w.heap.size + 1 + 1, 4, none⟩) (fun _ => .inr rfl) _) (p := ⟨w.heap.size + 1 + 1, 5, none⟩) (fun _ => .inr rfl) _) (p := ⟨w.heap.size + 1 + 1, 6, none⟩) (fun _ => .inr rfl) _) (p := ⟨w.heap.size + 1 + 1, 7, none⟩) (fun _ => .inr rfl) _) (p := ⟨w.heap.size + 1 + 1, 8, none⟩) (fun _ => .inr rfl) _) (p := ⟨w.heap.size + 1 + 1, 9, none⟩) (fun _ => .inr rfl) _) (p := ⟨w.heap.size + 1 + 1, 10, none⟩) (fun _ => .inr rfl) _) (p := ⟨w.heap.size + 1 + 1, 11, none⟩) (fun _ => .inr rfl) _
  have r0 := cell_of_blk ho 0
  have r1 := cell_of_blk ho 1
  have r2 := cell_of_blk ho 2
  have r3 := cell_of_blk ho 3
  have r4 := cell_of_blk ho 4
  have r5 := cell_of_blk ho 5
  have r6 := cell_of_blk ho 6
  have r7 := cell_of_blk ho 7
  have r8 := cell_of_blk ho 8
  have r9 := cell_of_blk ho 9
  have r10 := cell_of_blk ho 10
  have r11 := cell_of_blk ho 11
  have hov : Row WE (fun b => S b ∨ w.heap.size ≤ b) 6 n6 (.slice A' n6 c') ((changeL (fun x : EJob => x.key == r.key) (fun x => { x with worker := r.a, till := r.n }) l).flatMap encJob) := by
    rw [← changeL_of (p := fun x : EJob => x.key == r.key) (f := fun x => { x with worker := r.a, till := r.n }) HRel.out]
    have hbs := HB1.out.size
    have hNs := HSZ.out
    exact (HR2.out.mut hmu (fun b _ hb h => by omega)).weaken (fun b _ h => h.elim (fun h => .inl h.1) (fun h => .inr (by omega)))
  refine bodyPost_ret (v := .agg #[.int .u64 Pp, .int .u64 Dd, .int .u64 Mm, .slice A3 n3 c3, .slice A4 n4 c4, .slice A5 n5 c5, .slice A' n6 c', .slice A7 n7 c7, .slice A8 n8 c8, .slice A9 n9 c9, .slice A10 n10 c10, .slice A11 n11 c11]) (by simp [results, Tryz.results59, go_sem, r0, r1, r2, r3, r4, r5, r6, r7, r8, r9, r10, r11]) rfl ⟨A', c', rfl, hov, hbe⟩
set_option maxRecDepth 100000 in
set_option maxHeartbeats 4000000 in
theorem ev_back (Pp Dd Mm : Int) (A3 : Option Addr) (n3 c3 : Nat) (A4 : Option Addr) (n4 c4 : Nat) (A5 : Option Addr) (n5 c5 : Nat) (A6 : Option Addr) (n6 c6 : Nat) (A7 : Option Addr) (n7 c7 : Nat) (A8 : Option Addr) (n8 c8 : Nat) (A9 : Option Addr) (n9 c9 : Nat) (A10 : Option Addr) (n10 c10 : Nat) (A11 : Option Addr) (n11 c11 : Nat) (r : GRec) (vA : Option Addr) (vN vC : Nat) (l : List EJob) (w : World) (S : Nat → Prop) (hl : l.length = n6) (hby : n6 * 64 ≤ 140737488355328) (hr : Row w S 6 n6 (.slice A6 n6 c6) (l.flatMap encJob)) (hvc : vN ≤ vC) (hvm : vC ≤ 9223372036854775807) :
    Calls Tryz.prog 60 #[.agg #[.int .u64 Pp, .int .u64 Dd, .int .u64 Mm, .slice A3 n3 c3, .slice A4 n4 c4, .slice A5 n5 c5, .slice A6 n6 c6, .slice A7 n7 c7, .slice A8 n8 c8, .slice A9 n9 c9, .slice A10 n10 c10, .slice A11 n11 c11], .agg #[.int .i64 r.cls, .int .i64 r.kind, .int .u64 r.frm, .int .i64 r.time, .int .u64 r.key, .int .u64 r.key2, .int .u64 r.key3, .int .i64 r.n, .int .i64 r.m, .string r.a, .string r.b, .string r.c, .slice vA vN vC]] w fun e w' => ∃ A' c', e = .returned (.agg #[.int .u64 Pp, .int .u64 Dd, .int .u64 Mm, .slice A3 n3 c3, .slice A4 n4 c4, .slice A5 n5 c5, .slice A' n6 c', .slice A7 n7 c7, .slice A8 n8 c8, .slice A9 n9 c9, .slice A10 n10 c10, .slice A11 n11 c11]) ∧ Row w' (fun b => S b ∨ w.heap.size ≤ b) 6 n6 (.slice A' n6 c') ((changeL (fun x : EJob => x.key == r.key) (fun x => { x with retries := r.n, worker := ⟨#[]⟩, till := 0 }) l).flatMap encJob) ∧ Below w.heap.size w w' := by
  obtain ⟨N, hN⟩ : ∃ N, N = ((w.alloc (.cells #[.int .u64 Pp, .int .u64 Dd, .int .u64 Mm, .slice A3 n3 c3, .slice A4 n4 c4, .slice A5 n5 c5, .slice A6 n6 c6, .slice A7 n7 c7, .slice A8 n8 c8, .slice A9 n9 c9, .slice A10 n10 c10, .slice A11 n11 c11] 35)).alloc (.cells #[.int .i64 r.cls, .int .i64 r.kind, .int .u64 r.frm, .int .i64 r.time, .int .u64 r.key, .int .u64 r.key2, .int .u64 r.key3, .int .i64 r.n, .int .i64 r.m, .string r.a, .string r.b, .string r.c, .slice vA vN vC] 39)).alloc (.cells #[.int .u64 0, .int .u64 0, .int .u64 0, .slice none 0 0, .slice none 0 0, .slice none 0 0, .slice none 0 0, .slice none 0 0, .slice none 0 0, .slice none 0 0, .slice none 0 0, .slice none 0 0] 35) := ⟨_, rfl⟩
  have b0 : N.heap[w.heap.size]? = some (.cells #[.int .u64 Pp, .int .u64 Dd, .int .u64 Mm, .slice A3 n3 c3, .slice A4 n4 c4, .slice A5 n5 c5, .slice A6 n6 c6, .slice A7 n7 c7, .slice A8 n8 c8, .slice A9 n9 c9, .slice A10 n10 c10, .slice A11 n11 c11] 35 (0, 0)) := by rw [hN]; exact blk_alloc (blk_alloc (blk_new _) _) _
  have b1 : recB N (w.heap.size + 1) r vA vN vC := by rw [hN]; exact blk_alloc (blk_new_of _ (by simp)) _
  have b2 : N.heap[w.heap.size + 1 + 1]? = some (.cells #[.int .u64 0, .int .u64 0, .int .u64 0, .slice none 0 0, .slice none 0 0, .slice none 0 0, .slice none 0 0, .slice none 0 0, .slice none 0 0, .slice none 0 0, .slice none 0 0, .slice none 0 0] 35 (0, 0)) := by rw [hN]; exact blk_new_of _ (by simp)
  have hB : Below w.heap.size w N := by rw [hN]; exact below_alloc (below_alloc (below_alloc (Below.refl _ _) _) _) _
  have hsz : N.heap.size = w.heap.size + 3 := by rw [hN]; simp
  have HN := Lib.hid hN
  have HB := Lib.hid hB
  have HSZ := Lib.hid hsz
  have K0 := Lib.hid b0
  have K1 := Lib.hid b1
  have K2 := Lib.hid b2
  have eg : ∀ args w, (callFunc 155 args).run Tryz.prog w = .ok (.enter 155 args) w := enters_of Tryz.func155 (by kernel_rfl) rfl
  have eg2 : ∀ args w, (callFunc 94 args).run Tryz.prog w = .ok (.enter 94 args) w := enters_of Tryz.func94 (by kernel_rfl) rfl
  have HCH := Lib.hid (fun W bq (hW : Below N.heap.size N W) (hq : recB W bq r vA vN vC) => change_Job A6 n6 c6 155 94 #[.pointer (some ⟨bq, 0, none⟩)] #[.pointer (some ⟨w.heap.size + 1, 0, none⟩)] l (fun x : EJob => x.key == r.key) (fun _ x y => y = { x with retries := r.n, worker := ⟨#[]⟩, till := 0 }) W (fun b => S b ∧ b < w.heap.size) eg eg2 hl hby ((hr.weaken (S' := fun b => S b ∧ b < w.heap.size) (fun b hb h => ⟨h, hb⟩)).below (below2 hB hW))
    (fun V hV x _ => p_ofJob_1 bq x r vA vN vC V (block_below hV hq))
    (fun V b cur i hi hV hwb hg ht hs => (c_back_1 b i n6 cur l (w.heap.size + 1) r vA vN vC (by have := hW.size; omega) V (block_below hV (block_below hW b1)) hi hl hg ht hs).mono (fun e w' ⟨he, cur', h1, h2, h3, hm⟩ => ⟨he, _, cur', rfl, h1, h2, h3, below_mut hV hm (fun b' hb' => hb' ▸ hwb)⟩)))
  have HMK := Lib.hid (fun W => mk_ofJob r vA vN vC W hvc hvm)
  clear hN hB hsz b0 b1 b2 hr hl eg eg2
  have k0 := K0.out
  have k1 := K1.out
  go_enter Tryz.func60, Tryz.ntmps60
  go_wp2_with fail
  rw [show ((w.alloc (.cells #[.int .u64 Pp, .int .u64 Dd, .int .u64 Mm, .slice A3 n3 c3, .slice A4 n4 c4, .slice A5 n5 c5, .slice A6 n6 c6, .slice A7 n7 c7, .slice A8 n8 c8, .slice A9 n9 c9, .slice A10 n10 c10, .slice A11 n11 c11] 35)).alloc (.cells #[.int .i64 r.cls, .int .i64 r.kind, .int .u64 r.frm, .int .i64 r.time, .int .u64 r.key, .int .u64 r.key2, .int .u64 r.key3, .int .i64 r.n, .int .i64 r.m, .string r.a, .string r.b, .string r.c, .slice vA vN vC] 39)).alloc (.cells #[.int .u64 0, .int .u64 0, .int .u64 0, .slice none 0 0, .slice none 0 0, .slice none 0 0, .slice none 0 0, .slice none 0 0, .slice none 0 0, .slice none 0 0, .slice none 0 0, .slice none 0 0] 35) = N from HN.out.symm]
  have s6 := cell_regrown (cell_of_blk k0 6)
  have q0 := cell_regrown (cell_of_blk k1 0)
  have q1 := cell_regrown (cell_of_blk k1 1)
  have q2 := cell_regrown (cell_of_blk k1 2)
  have q3 := cell_regrown (cell_of_blk k1 3)
  have q4 := cell_regrown (cell_of_blk k1 4)
  have q5 := cell_regrown (cell_of_blk k1 5)
  have q6 := cell_regrown (cell_of_blk k1 6)
  have q7 := cell_regrown (cell_of_blk k1 7)
  have q8 := cell_regrown (cell_of_blk k1 8)
  have q9 := cell_regrown (cell_of_blk k1 9)
  have q10 := cell_regrown (cell_of_blk k1 10)
  have q11 := cell_regrown (cell_of_blk k1 11)
  have q12 := cell_regrown (cell_of_blk k1 12)
  clear k0 k1
  refine wp_region_ord [7] (n := 8) (listed := #[false, false, false, false, false, false, false, false]) (by kernel_rfl) rfl rfl ?_
  ((refine wpK_pure (fuel := 7) (listed' := #[true, false, false, false, false, false, false, false]) 0 rfl (by kernel_rfl) rfl ?_; (first | go_big_quiet_step (fail) | quiet_step (fail)); refine wpQuiet_nil ?_))
  ((refine wpK_read (fuel := 6) (listed' := #[true, true, false, false, false, false, false, false]) 1 (by first | exact regrown_first _ _ | exact regrown_self _) rfl (by kernel_rfl) rfl ?_; (first | go_big_quiet_step (fail) | quiet_step (fail)); refine wpQuiet_nil ?_); (refine wpK_read (fuel := 5) (listed' := #[true, true, true, false, false, false, false, false]) 2 (by first | exact regrown_first _ _ | exact regrown_self _) rfl (by kernel_rfl) rfl ?_; (first | go_big_quiet_step (fail) | quiet_step (fail)); refine wpQuiet_nil ?_))
  ((refine wpK_pure (fuel := 4) (listed' := #[true, true, true, false, true, false, false, false]) 4 rfl (by kernel_rfl) rfl ?_; (first | go_big_quiet_step (fail) | quiet_step (fail)); refine wpQuiet_nil ?_))
  refine wpK_one (fuel := 3) (listed' := #[true, true, true, true, true, false, false, false]) 3 rfl (by kernel_rfl) rfl ?_
  go_wp2_with (go_at_call 92; refine (HMK.out _).mono ?_; rintro e w1 ⟨rfl, hq, hb⟩; have HQ := Lib.hid hq; have HB1 := Lib.hid (below2 (below_redrawn N (N.drawn + 1)) hb); clear hq hb)
  refine ⟨rfl, fun _ _ => regrown_of_below HB1.out, ?_⟩
  refine wpK_one (fuel := 2) (listed' := #[true, true, true, true, true, true, false, false]) 5 rfl (by kernel_rfl) rfl ?_
  go_wp2_with fail
  refine (HCH.out w1 _ HB1.out HQ.out).mono ?_
  rintro e w2 ⟨A', c', l', rfl, hrow, hll, hrel, hb⟩
  have HR2 := Lib.hid hrow
  have HLL := Lib.hid hll
  have HRel := Lib.hid hrel
  have HB2 := Lib.hid (below2 HB1.out hb)
  have HWB := Lib.hid (below2 HB.out HB2.out)
  have k0 := block_below HB2.out K0.out
  have k2 := block_below HB2.out K2.out
  obtain ⟨Ab, cb, heb, hncb, hcmb⟩ := hrow.open_
  injection heb with eb1 _ eb3
  subst eb1 eb3
  clear hrow hll hrel hb s6 q0 q1 q2 q3 q4 q5 q6 q7 q8 q9 q10 q11 q12
  have s0 := cell_of_blk k0 0
  have s1 := cell_of_blk k0 1
  have s2 := cell_of_blk k0 2
  have s3 := cell_of_blk k0 3
  have s4 := cell_of_blk k0 4
  have s5 := cell_of_blk k0 5
  have s6 := cell_of_blk k0 6
  have s7 := cell_of_blk k0 7
  have s8 := cell_of_blk k0 8
  have s9 := cell_of_blk k0 9
  have s10 := cell_of_blk k0 10
  have s11 := cell_of_blk k0 11
  have f0 := frozen_of_blk k0 0
  have f1 := frozen_of_blk k0 1
  have f2 := frozen_of_blk k0 2
  have f3 := frozen_of_blk k0 3
  have f4 := frozen_of_blk k0 4
  have f5 := frozen_of_blk k0 5
  have f6 := frozen_of_blk k0 6
  have f7 := frozen_of_blk k0 7
  have f8 := frozen_of_blk k0 8
  have f9 := frozen_of_blk k0 9
  have f10 := frozen_of_blk k0 10
  have f11 := frozen_of_blk k0 11
  have z0 := cell_of_blk k2 0
  have z1 := cell_of_blk k2 1
  have z2 := cell_of_blk k2 2
  have z3 := cell_of_blk k2 3
  have z4 := cell_of_blk k2 4
  have z5 := cell_of_blk k2 5
  have z6 := cell_of_blk k2 6
  have z7 := cell_of_blk k2 7
  have z8 := cell_of_blk k2 8
  have z9 := cell_of_blk k2 9
  have z10 := cell_of_blk k2 10
  have z11 := cell_of_blk k2 11
  have g0 := frozen_of_blk k2 0
  have g1 := frozen_of_blk k2 1
  have g2 := frozen_of_blk k2 2
  have g3 := frozen_of_blk k2 3
  have g4 := frozen_of_blk k2 4
  have g5 := frozen_of_blk k2 5
  have g6 := frozen_of_blk k2 6
  have g7 := frozen_of_blk k2 7
  have g8 := frozen_of_blk k2 8
  have g9 := frozen_of_blk k2 9
  have g10 := frozen_of_blk k2 10
  have g11 := frozen_of_blk k2 11
  have KZ := Lib.hid k2
  have KS := Lib.hid k0
  clear k0 k2
  go_wp2_with fail
  refine ⟨rfl, fun _ _ => regrown_of_below HB2.out, ?_⟩
  ((refine wpK_pure (fuel := 1) (listed' := #[true, true, true, true, true, true, true, false]) 6 rfl (by kernel_rfl) rfl ?_; (first | go_big_quiet_step (fail) | quiet_step (fail)); refine wpQuiet_nil ?_))
  refine wpK_one (fuel := 0) (listed' := #[true, true, true, true, true, true, true, true]) 7 rfl (by kernel_rfl) rfl ?_
  go_wp2_with fail
  refine ⟨rfl, fun h => absurd h (by decide), ?_⟩
  refine wpK_end rfl ?_
  go_wp2_with fail
  generalize hWE : World.setCell (World.setCell (World.setCell (World.setCell (World.setCell (World.setCell (World.setCell (World.setCell (World.setCell (World.setCell (World.setCell (World.setCell (World.setCell (_) _ _) _ _) _ _) _ _) _ _) _ _) _ _) _ _) _ _) _ _) _ _) _ _) _ _ = WE
  have ho : WE.heap[w.heap.size + 1 + 1]? = some (.cells #[.int .u64 Pp, .int .u64 Dd, .int .u64 Mm, .slice A3 n3 c3, .slice A4 n4 c4, .slice A5 n5 c5, .slice A' n6 c', .slice A7 n7 c7, .slice A8 n8 c8, .slice A9 n9 c9, .slice A10 n10 c10, .slice A11 n11 c11] 35 (0, 0)) := by rw [← hWE]; exact set_blk12 (blk_set_other (b := w.heap.size) (o := 6) (KZ.out) (by omega)) (.int .u64 Pp) (.int .u64 Dd) (.int .u64 Mm) (.slice A3 n3 c3) (.slice A4 n4 c4) (.slice A5 n5 c5) (.slice A' n6 c') (.slice A7 n7 c7) (.slice A8 n8 c8) (.slice A9 n9 c9) (.slice A10 n10 c10) (.slice A11 n11 c11)
  have hbe : Below w.heap.size w WE := by rw [← hWE]; exact (((((((((((((HWB.out).setCell (p := ⟨w.heap.size, 6, none⟩) (Nat.le_refl _) _).setCell (p := ⟨w.heap.size + 1 + 1, 0, none⟩) (by show _ ≤ _ + 1 + 1; omega) _).setCell (p := ⟨w.heap.size + 1 + 1, 1, none⟩) (by show _ ≤ _ + 1 + 1; omega) _).setCell (p := ⟨w.heap.size + 1 + 1, 2, none⟩) (by show _ ≤ _ + 1 + 1; omega) _).setCell (p := ⟨w.heap.size + 1 + 1, 3, none⟩) (by show _ ≤ _ + 1 + 1; omega) _).setCell (p := ⟨w.heap.size + 1 + 1, 4, none⟩) (by show _ ≤ _ + 1 + 1; omega) _).setCell (p := ⟨w.heap.size + 1 + 1, 5, none⟩) (by show _ ≤ _ + 1 + 1; omega) _).setCell (p := ⟨w.heap.size + 1 + 1, 6, none⟩) (by show _ ≤ _ + 1 + 1; omega) _).setCell (p := ⟨w.heap.size + 1 + 1, 7, none⟩) (by show _ ≤ _ + 1 + 1; omega) _).setCell (p := ⟨w.heap.size + 1 + 1, 8, none⟩) (by show _ ≤ _ + 1 + 1; omega) _).setCell (p := ⟨w.heap.size + 1 + 1, 9, none⟩) (by show _ ≤ _ + 1 + 1; omega) _).setCell (p := ⟨w.heap.size + 1 + 1, 10, none⟩) (by show _ ≤ _ + 1 + 1; omega) _).setCell (p := ⟨w.heap.size + 1 + 1, 11, none⟩) (by show _ ≤ _ + 1 + 1; omega) _
  have hmu : Mut (fun b => b = w.heap.size ∨ b = w.heap.size + 1 + 1) w2 WE := by
    rw [← hWE]
    exact Mut.setCell (T := fun b => b = w.heap.size ∨ b = w.heap.size + 1 + 1) (Mut.setCell (T := fun b => b = w.heap.size ∨ b = w.heap.size + 1 + 1) (Mut.setCell (T := fun b => b = w.heap.size ∨ b = w.heap.size + 1 + 1) (Mut.setCell (T := fun b => b = w.heap.size ∨ b = w.heap.size + 1 + 1) (Mut.setCell (T := fun b => b = w.heap.size ∨ b = w.heap.size + 1 + 1) (Mut.setCell (T := fun b => b = w.heap.size ∨ b = w.heap.size + 1 + 1) (Mut.setCell (T := fun b => b = w.heap.size ∨ b = w.heap.size + 1 + 1) (Mut.setCell (T := fun b => b = w.heap.size ∨ b = w.heap.size + 1 + 1) (Mut.setCell (T := fun b => b = w.heap.size ∨ b = w.heap.size + 1 + 1) (Mut.setCell (T := fun b => b = w.heap.size ∨ b = w.heap.size + 1 + 1) (Mut.setCell (T := fun b => b = w.heap.size ∨ b = w.heap.size + 1 + 1) (Mut.setCell (T := fun b => b = w.heap.size ∨ b = w.heap.size + 1 + 1) (Mut.setCell (T := fun b => b = w.heap.size ∨ b = w.heap.size + 1 + 1) (Mut.refl _ _) (p := ⟨w.heap.size, 6, none⟩) (fun _ => .inl rfl) _) (p := ⟨w.heap.size + 1 + 1, 0, none⟩) (fun _ => .inr rfl) _) (p := ⟨w.heap.size + 1 + 1, 1, none⟩) (fun _ => .inr rfl) _) (p := ⟨w.heap.size + 1 + 1, 2, none⟩) (fun _ => .inr rfl) _) (p := ⟨w.heap.size + 1 + 1, 3, none⟩) (fun _ => .inr rfl) _) (p := ⟨w.heap.size + 1 + 1, 4, none⟩) (fun _ => .inr rfl) _) (p := ⟨w.heap.size + 1 + 1, 5, none⟩) (fun _ => .inr rfl) _) (p := ⟨w.heap.size + 1 + 1, 6, none⟩) (fun _ => .inr rfl) _) (p := ⟨w.heap.size + 1 + 1, 7, none⟩) (fun _ => .inr rfl) _) (p := ⟨w.heap.size + 1 + 1, 8, none⟩) (fun _ => .inr rfl) _) (p := ⟨w.heap.size + 1 + 1, 9, none⟩) (fun _ => .inr rfl) _) (p := ⟨w.heap.size + 1 + 1, 10, none⟩) (fun _ => .inr rfl) _) (p := ⟨w.heap.size + 1 + 1, 11, none⟩) (fun _ => .inr rfl) _
  have r0 := cell_of_blk ho 0
  have r1 := cell_of_blk ho 1
  have r2 := cell_of_blk ho 2
  have r3 := cell_of_blk ho 3
  have r4 := cell_of_blk ho 4
  have r5 := cell_of_blk ho 5
  have r6 := cell_of_blk ho 6
  have r7 := cell_of_blk ho 7
  have r8 := cell_of_blk ho 8
  have r9 := cell_of_blk ho 9
  have r10 := cell_of_blk ho 10
  have r11 := cell_of_blk ho 11
  have hov : Row WE (fun b => S b ∨ w.heap.size ≤ b) 6 n6 (.slice A' n6 c') ((changeL (fun x : EJob => x.key == r.key) (fun x => { x with retries := r.n, worker := ⟨#[]⟩, till := 0 }) l).flatMap encJob) := by
    rw [← changeL_of (p := fun x : EJob => x.key == r.key) (f := fun x => { x with retries := r.n, worker := ⟨#[]⟩, till := 0 }) HRel.out]
    have hbs := HB1.out.size
    have hNs := HSZ.out
    exact (HR2.out.mut hmu (fun b _ hb h => by omega)).weaken (fun b _ h => h.elim (fun h => .inl h.1) (fun h => .inr (by omega)))
  refine bodyPost_ret (v := .agg #[.int .u64 Pp, .int .u64 Dd, .int .u64 Mm, .slice A3 n3 c3, .slice A4 n4 c4, .slice A5 n5 c5, .slice A' n6 c', .slice A7 n7 c7, .slice A8 n8 c8, .slice A9 n9 c9, .slice A10 n10 c10, .slice A11 n11 c11]) (by simp [results, Tryz.results60, go_sem, r0, r1, r2, r3, r4, r5, r6, r7, r8, r9, r10, r11]) rfl ⟨A', c', rfl, hov, hbe⟩
end Go.Proofs.YtgpkmellpllmgaaGreat
