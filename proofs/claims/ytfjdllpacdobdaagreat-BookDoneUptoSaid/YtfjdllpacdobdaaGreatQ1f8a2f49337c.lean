/-
  Merged from Fu_more, FoU, Fm2, Fe_miss.
-/
import Derived.Test.YtfjdllpacdobdaaGreatQ67e13da56d40
import Derived.Test.YtfjdllpacdobdaaGreatQ6d553798c54d
import Derived.Test.YtfjdllpacdobdaaGreatQ5e0e1d795d88
import Derived.Test.YtfjdllpacdobdaaGreatQ95306dab299a
/-
  The events that change and take away, from a state to a state. Printed by gfold2.py.
-/
set_option linter.unusedVariables false
set_option linter.unusedSimpArgs false
namespace Go.Proofs.YtfjdllpacdobdaaGreat
open Go Go.RowKit Go.Proofs.Base
open Go.Sort (grow)
set_option maxRecDepth 100000 in
set_option maxHeartbeats 4000000 in
theorem u_taken (W : World) (S : Nat → Prop) (v : StV) (g : GSt) (r : GRec) (vA : Option Addr) (vN vC : Nat) (hst : StR W S v g) (hv : VarsR W S vA vN vC r.vars) (hfit : g.fits) :
    Calls Tryz.prog 56 #[.agg v.vals, .agg #[.int .i64 r.cls, .int .i64 r.kind, .int .u64 r.frm, .int .i64 r.time, .int .u64 r.key, .int .u64 r.key2, .int .u64 r.key3, .int .i64 r.n, .int .i64 r.m, .string r.a, .string r.b, .string r.c, .slice vA vN vC]] W fun e w' => ∃ v' g', e = .returned (.agg v'.vals) ∧ StR w' (fun b => S b ∨ W.heap.size ≤ b) v' g' ∧ g'.pure = { g.pure with jobs := changeL (fun x => x.key == r.key) (fun x => { x with worker := r.a, till := r.n }) g.pure.jobs } ∧ Below W.heap.size W w' := by
  obtain ⟨_, _, hve, hvc, hvm⟩ := hv.2.2.open_
  injection hve with _ _ hve
  subst hve
  refine (ev_taken v.Pp v.Dd v.Mm v.A3 v.n3 v.c3 v.A4 v.n4 v.c4 v.A5 v.n5 v.c5 v.A6 v.n6 v.c6 v.A7 v.n7 v.c7 v.A8 v.n8 v.c8 v.A9 v.n9 v.c9 v.A10 v.n10 v.c10 v.A11 v.n11 v.c11 r vA vN vC g.jobs W S hst.jobs.1 (by rw [← hst.jobs.1]; exact hfit.2.2.2.1) hst.jobs.2 hvc hvm).mono ?_
  rintro e w' ⟨A', c', rfl, hrow, hb⟩
  refine ⟨{ v with A6 := A', c6 := c' }, { g with jobs := changeL (fun x => x.key == r.key) (fun x => { x with worker := r.a, till := r.n }) g.jobs }, rfl, ?_, rfl, hb⟩
  exact { (hst.below (S' := fun b => S b ∨ W.heap.size ≤ b) hb (fun b _ h => .inl h)) with jobs := ⟨(by rw [changeL_len]; exact hst.jobs.1), hrow⟩ }
set_option maxRecDepth 100000 in
set_option maxHeartbeats 4000000 in
theorem u_back (W : World) (S : Nat → Prop) (v : StV) (g : GSt) (r : GRec) (vA : Option Addr) (vN vC : Nat) (hst : StR W S v g) (hv : VarsR W S vA vN vC r.vars) (hfit : g.fits) :
    Calls Tryz.prog 57 #[.agg v.vals, .agg #[.int .i64 r.cls, .int .i64 r.kind, .int .u64 r.frm, .int .i64 r.time, .int .u64 r.key, .int .u64 r.key2, .int .u64 r.key3, .int .i64 r.n, .int .i64 r.m, .string r.a, .string r.b, .string r.c, .slice vA vN vC]] W fun e w' => ∃ v' g', e = .returned (.agg v'.vals) ∧ StR w' (fun b => S b ∨ W.heap.size ≤ b) v' g' ∧ g'.pure = { g.pure with jobs := changeL (fun x => x.key == r.key) (fun x => { x with retries := r.n, worker := ⟨#[]⟩, till := 0 }) g.pure.jobs } ∧ Below W.heap.size W w' := by
  obtain ⟨_, _, hve, hvc, hvm⟩ := hv.2.2.open_
  injection hve with _ _ hve
  subst hve
  refine (ev_back v.Pp v.Dd v.Mm v.A3 v.n3 v.c3 v.A4 v.n4 v.c4 v.A5 v.n5 v.c5 v.A6 v.n6 v.c6 v.A7 v.n7 v.c7 v.A8 v.n8 v.c8 v.A9 v.n9 v.c9 v.A10 v.n10 v.c10 v.A11 v.n11 v.c11 r vA vN vC g.jobs W S hst.jobs.1 (by rw [← hst.jobs.1]; exact hfit.2.2.2.1) hst.jobs.2 hvc hvm).mono ?_
  rintro e w' ⟨A', c', rfl, hrow, hb⟩
  refine ⟨{ v with A6 := A', c6 := c' }, { g with jobs := changeL (fun x => x.key == r.key) (fun x => { x with retries := r.n, worker := ⟨#[]⟩, till := 0 }) g.jobs }, rfl, ?_, rfl, hb⟩
  exact { (hst.below (S' := fun b => S b ∨ W.heap.size ≤ b) hb (fun b _ h => .inl h)) with jobs := ⟨(by rw [changeL_len]; exact hst.jobs.1), hrow⟩ }
end Go.Proofs.YtfjdllpacdobdaaGreat
/-
  fold.Apply, from a state to a state. Printed by gfold2.py.
-/
set_option linter.unusedVariables false
set_option linter.unusedSimpArgs false
namespace Go.Proofs.YtfjdllpacdobdaaGreat
open Go Go.RowKit Go.Proofs.Base
open Go.Sort (grow)
def Applied (w : World) (S : Nat → Prop) (pos : Int) (r : GRec) (g : GSt) (e : Ending) (w' : World) : Prop := ∃ v' g', e = .returned (.agg v'.vals) ∧ StR w' (fun b => S b ∨ w.heap.size ≤ b) v' g' ∧ g'.pure = applyP pos r g.pure ∧ Below w.heap.size w w'
theorem st_counted {w : World} {S : Nat → Prop} {v : StV} {g : GSt} (h : StR w S v g) (p d : Int) (d' : Int) (hd : d = d') : StR w S { v with Pp := p, Dd := d } { g with pos := p, done := d' } := { h with pos := rfl, done := hd }
theorem st_placed {w : World} {S : Nat → Prop} {v : StV} {g : GSt} (h : StR w S v g) (p : Int) : StR w S { v with Pp := p } { g with pos := p } := { h with pos := rfl }
section
variable {w : World} {S : Nat → Prop} {v : StV} {g : GSt} {r : GRec} {vA : Option Addr} {vN vC : Nat}
abbrev Inner (w : World) (S : Nat → Prop) (b : Nat) : Prop := S b ∧ b < w.heap.size
theorem st_inner (h : StR w S v g) : StR w (Inner w S) v g := h.mut (T := fun _ => False) (Mut.refl _ _) (fun _ _ _ h => h) (fun b hb hs => ⟨hs, hb⟩)
theorem vars_inner {l : List GVar} (h : VarsR w S vA vN vC l) : VarsR w (Inner w S) vA vN vC l := h.mut (T := fun _ => False) (Mut.refl _ _) (fun _ _ _ h => h) (fun b hb hs => ⟨hs, hb⟩)
theorem apply_ev (pos : Int) (hst : StR w S v g) (hv : VarsR w S vA vN vC r.vars) (hki : i64 r.kind) (hc : r.cls = 2) (fo : Nat) (hf : fnAt kindsL r.kind = some fo) (eg : ∀ args w, (callFunc fo args).run Tryz.prog w = .ok (.enter fo args) w)
    (hd : ∀ (W : World) (v2 : StV) (g2 : GSt), StR W (Inner w S) v2 g2 → VarsR W (Inner w S) vA vN vC r.vars → g2 = { g with pos := pos, done := max g.done r.frm } → Calls Tryz.prog fo #[.agg v2.vals, .agg #[.int .i64 r.cls, .int .i64 r.kind, .int .u64 r.frm, .int .i64 r.time, .int .u64 r.key, .int .u64 r.key2, .int .u64 r.key3, .int .i64 r.n, .int .i64 r.m, .string r.a, .string r.b, .string r.c, .slice vA vN vC]] W fun e w' => ∃ v' g', e = .returned (.agg v'.vals) ∧ StR w' (fun b => Inner w S b ∨ W.heap.size ≤ b) v' g' ∧ g'.pure = evP r g2.pure ∧ Below W.heap.size W w') :
    Calls Tryz.prog 44 #[.agg v.vals, .int .u64 pos, .agg #[.int .i64 r.cls, .int .i64 r.kind, .int .u64 r.frm, .int .i64 r.time, .int .u64 r.key, .int .u64 r.key2, .int .u64 r.key3, .int .i64 r.n, .int .i64 r.m, .string r.a, .string r.b, .string r.c, .slice vA vN vC]] w (Applied w S pos r g) := by
  refine (ap_ev pos v.Pp v.Dd v.Mm v.A3 v.n3 v.c3 v.A4 v.n4 v.c4 v.A5 v.n5 v.c5 v.A6 v.n6 v.c6 v.A7 v.n7 v.c7 v.A8 v.n8 v.c8 v.A9 v.n9 v.c9 v.A10 v.n10 v.c10 v.A11 v.n11 v.c11 r vA vN vC w hki hc fo hf eg (fun v' W => ∃ g', StR W (fun b => Inner w S b ∨ w.heap.size + 3 ≤ b) v' g' ∧ g'.pure = applyP pos r g.pure) ?_ ?_).mono ?_
  · intro W hW hW3
    have h2 : StR W (Inner w S) { v with Pp := pos, Dd := max v.Dd r.frm } { g with pos := pos, done := max g.done r.frm } := st_counted (((st_inner hst).below hW (fun b _ h => h))) pos (max v.Dd r.frm) (max g.done r.frm) (by rw [hst.done])
    refine (hd W _ _ h2 ((vars_inner hv).mut (T := fun _ => False) (Mut.of_below hW _) (fun _ _ _ h => h) (fun b _ h => h)) rfl).mono ?_
    rintro e w' ⟨v', g', rfl, hs, hp, hb⟩
    refine ⟨v', rfl, ⟨g', hs.mut (T := fun _ => False) (Mut.refl _ _) (fun _ _ _ h => h) (fun b _ h => h.elim .inl (fun h => .inr (by omega))), ?_⟩, hb⟩
    rw [hp]
    unfold applyP
    rw [if_neg (by omega), if_pos hc]
    rfl
  · rintro v' W W' ⟨g', hs, hp⟩ hm
    exact ⟨g', hs.mut hm (fun b _ h e => h.elim (fun h => by have := h.2; omega) (fun h => by omega)) (fun b _ h => h), hp⟩
  · rintro e w' ⟨v', rfl, ⟨g', hs, hp⟩, hb⟩
    exact ⟨v', g', rfl, hs.mut (T := fun _ => False) (Mut.refl _ _) (fun _ _ _ h => h) (fun b _ h => h.elim (fun h => .inl h.1) (fun h => .inr (by omega))), hp, hb⟩
theorem apply_not (pos : Int) (hst : StR w S v g) (hki : i64 r.kind) (hv : VarsR w S vA vN vC r.vars) (hn : r.cls ≠ 2 ∨ fnAt kindsL r.kind = none) (hp : r.cls = 2 → evP r = id) :
    Calls Tryz.prog 44 #[.agg v.vals, .int .u64 pos, .agg #[.int .i64 r.cls, .int .i64 r.kind, .int .u64 r.frm, .int .i64 r.time, .int .u64 r.key, .int .u64 r.key2, .int .u64 r.key3, .int .i64 r.n, .int .i64 r.m, .string r.a, .string r.b, .string r.c, .slice vA vN vC]] w (Applied w S pos r g) := by
  by_cases h2 : r.cls = 2
  · have hf : fnAt kindsL r.kind = none := hn.resolve_left (fun h => h h2)
    refine (ap_none pos v.Pp v.Dd v.Mm v.A3 v.n3 v.c3 v.A4 v.n4 v.c4 v.A5 v.n5 v.c5 v.A6 v.n6 v.c6 v.A7 v.n7 v.c7 v.A8 v.n8 v.c8 v.A9 v.n9 v.c9 v.A10 v.n10 v.c10 v.A11 v.n11 v.c11 r vA vN vC w hki h2 hf).mono ?_
    rintro e w' ⟨rfl, hb⟩
    refine ⟨{ v with Pp := pos, Dd := max v.Dd r.frm }, { g with pos := pos, done := max g.done r.frm }, rfl, st_counted (hst.below (S' := fun b => S b ∨ w.heap.size ≤ b) hb (fun b _ h => .inl h)) pos (max v.Dd r.frm) (max g.done r.frm) (by rw [hst.done]), ?_, hb⟩
    unfold applyP
    rw [if_neg (by omega), if_pos h2, hp h2]
    rfl
  · by_cases h3 : r.cls = 3
    · have hcall : Calls Tryz.prog 44 #[.agg v.vals, .int .u64 pos, .agg #[.int .i64 r.cls, .int .i64 r.kind, .int .u64 r.frm, .int .i64 r.time, .int .u64 r.key, .int .u64 r.key2, .int .u64 r.key3, .int .i64 r.n, .int .i64 r.m, .string r.a, .string r.b, .string r.c, .slice vA vN vC]] w fun e w' => e = .returned (.agg ({ v with Pp := pos, Dd := max v.Dd r.frm } : StV).vals) ∧ Below w.heap.size w w' := by
        cases hf : fnAt kindsL r.kind with
        | some fo => exact ap_ref pos v.Pp v.Dd v.Mm v.A3 v.n3 v.c3 v.A4 v.n4 v.c4 v.A5 v.n5 v.c5 v.A6 v.n6 v.c6 v.A7 v.n7 v.c7 v.A8 v.n8 v.c8 v.A9 v.n9 v.c9 v.A10 v.n10 v.c10 v.A11 v.n11 v.c11 r vA vN vC w hki h3 fo hf
        | none => exact ap_refn pos v.Pp v.Dd v.Mm v.A3 v.n3 v.c3 v.A4 v.n4 v.c4 v.A5 v.n5 v.c5 v.A6 v.n6 v.c6 v.A7 v.n7 v.c7 v.A8 v.n8 v.c8 v.A9 v.n9 v.c9 v.A10 v.n10 v.c10 v.A11 v.n11 v.c11 r vA vN vC w hki h3 hf
      refine hcall.mono ?_
      rintro e w' ⟨rfl, hb⟩
      refine ⟨{ v with Pp := pos, Dd := max v.Dd r.frm }, { g with pos := pos, done := max g.done r.frm }, rfl, st_counted (hst.below (S' := fun b => S b ∨ w.heap.size ≤ b) hb (fun b _ h => .inl h)) pos (max v.Dd r.frm) (max g.done r.frm) (by rw [hst.done]), ?_, hb⟩
      unfold applyP
      rw [if_neg (by omega), if_neg h2]
      rfl
    · refine (ap_other pos v.Pp v.Dd v.Mm v.A3 v.n3 v.c3 v.A4 v.n4 v.c4 v.A5 v.n5 v.c5 v.A6 v.n6 v.c6 v.A7 v.n7 v.c7 v.A8 v.n8 v.c8 v.A9 v.n9 v.c9 v.A10 v.n10 v.c10 v.A11 v.n11 v.c11 r vA vN vC w h2 h3).mono ?_
      rintro e w' ⟨rfl, hb⟩
      refine ⟨{ v with Pp := pos }, { g with pos := pos }, rfl, st_placed (hst.below (S' := fun b => S b ∨ w.heap.size ≤ b) hb (fun b _ h => .inl h)) pos, ?_, hb⟩
      unfold applyP
      rw [if_pos ⟨h2, h3⟩]
      rfl
end
end Go.Proofs.YtfjdllpacdobdaaGreat
/-
  What sending and missed change in one element. Printed by gfold2.py.
-/
set_option linter.unusedVariables false
set_option linter.unusedSimpArgs false
namespace Go.Proofs.YtfjdllpacdobdaaGreat
open Go Go.RowKit Go.Proofs.Base
open Go.Sort (grow)
end Go.Proofs.YtfjdllpacdobdaaGreat
/-
  fold.missed. Printed by gfold2.py.
-/
set_option linter.unusedVariables false
set_option linter.unusedSimpArgs false
namespace Go.Proofs.YtfjdllpacdobdaaGreat
open Go Go.RowKit Go.Proofs.Base
open Go.Sort (grow)
structure MStage (w W : World) (r : GRec) (vA : Option Addr) (vN vC : Nat) (st : Array Value) : Prop where
  below : Below w.heap.size w W
  k0 : W.heap[w.heap.size]? = some (.cells st 33 (0, 0))
  k1 : recB W (w.heap.size + 1) r vA vN vC
  k2 : W.heap[w.heap.size + 1 + 1]? = some (.cells #[.int .u64 0, .int .u64 0, .int .u64 0, .slice none 0 0, .slice none 0 0, .slice none 0 0, .slice none 0 0, .slice none 0 0, .slice none 0 0, .slice none 0 0, .slice none 0 0, .slice none 0 0] 33 (0, 0))
  far : w.heap.size + 3 ≤ W.heap.size
theorem MStage.more {w W W' : World} {r : GRec} {vA : Option Addr} {vN vC : Nat} {st : Array Value} (h : MStage w W r vA vN vC st) (hb : Below W.heap.size W W') : MStage w W' r vA vN vC st :=
  ⟨below2 h.below hb, block_below hb h.k0, block_below hb h.k1, block_below hb h.k2, Nat.le_trans h.far hb.size⟩
theorem MStage.set {w W : World} {r : GRec} {vA : Option Addr} {vN vC : Nat} {st : Array Value} (h : MStage w W r vA vN vC st) (o : Nat) (u : Value) : MStage w (W.setCell ⟨w.heap.size, o, none⟩ u) r vA vN vC (st.setIfInBounds o u) :=
  ⟨h.below.setCell (p := ⟨w.heap.size, o, none⟩) (Nat.le_refl _) u, set_blk h.k0 u, blk_set_other h.k1 (by omega), blk_set_other h.k2 (by omega), by simpa [World.setCell] using h.far⟩
end Go.Proofs.YtfjdllpacdobdaaGreat
