/-
  Merged from Fcl, FoAk, WkL, Wk, SrtL, Rdy, ActL, ActM.
-/
import Derived.Test.YtfjdllpacdobdaaGreatQfae27049214a
import Derived.Test.YtfjdllpacdobdaaGreatQ67e13da56d40
import Derived.Test.YtfjdllpacdobdaaGreatQ1f8a2f49337c
import Derived.Test.YtfjdllpacdobdaaGreatQ5e0e1d795d88
import Derived.RangeFuncNested
import Derived.RangeFuncBound
import Derived.RangeFuncCalls
import Derived.RangeFuncLeaves
import Derived.RangeFuncBox
import Derived.Shelf.Abstract
import Derived.Shelf.RegionOpen
import Derived.OwnWalkIn
import Derived.TacticsInMore
import Derived.LoopNIn
import Derived.LoopIn
import Derived.Outline
/-
  fold.Clone. Printed by gfold24.py.
-/
set_option linter.unusedVariables false
set_option linter.unusedSimpArgs false
namespace Go.Proofs.YtfjdllpacdobdaaGreat
open Go Go.RowKit Go.Proofs.Base
open Go.Sort (grow)
theorem own_carry {w w' : World} {base : Nat} {e : TypeId} {size n : Nat} {v : Value} {xs : List Value} (h : w.ownsRow base e size v n xs) (hb : Below w.heap.size w w') : w'.ownsRow base e size v n xs :=
  own_mut h (Mut.of_below hb (fun _ => False)) (fun _ _ h => h)
theorem own_box {w w' : World} {base b : Nat} {e : TypeId} {size n : Nat} {v : Value} {xs : List Value} (h : w.ownsRow base e size v n xs) (hm : Mut (fun x => x = b) w w') (hlt : b < base) : w'.ownsRow base e size v n xs :=
  own_mut h hm (fun x hx e => by have := (h.lt x hx).1; omega)
theorem cl_upd {α : Type} {K j : Nat} {enc : α → List Value} (hlen : ∀ x, (enc x).length = K) {W w1 : World} {base : Nat} {e : TypeId} {n cap gb k : Nat} {cur : Array Value} {lk : List α} {y : α} {u : Value} (hk : k < lk.length) (hl : lk.length = n) (hbg : base ≤ gb) (hh : W.heap[gb]? = some (.cells cur e (0, 0))) (hnc : n ≤ cap) (hcm : cap ≤ maxLen) (hcs : cap * K = cur.size) (htk : cur.toList.take (n * K) = lk.flatMap enc) (hb : Below W.heap.size W w1) (hj : j < K) (he : (enc lk[k]).set j u = enc y) :
    (w1.setCell ⟨gb, k * K + j, none⟩ u).ownsRow base e K (.slice (some ⟨gb, 0, none⟩) n cap) n ((lk.set k y).flatMap enc) :=
  ⟨by rw [flat_len (enc := enc) hlen, List.length_set, hl], .inr ⟨gb, cap, cur.setIfInBounds (k * K + j) u, rfl, hbg, set_blk (o := k * K + j) (block_below hb hh) u, hnc, hcm, by simp only [Array.size_setIfInBounds]; first | exact hcs | exact hcs.symm, by
    simp only [Array.toList_setIfInBounds, List.take_set]
    rw [htk]
    exact flat_sets (enc := enc) hlen hk [(j, u)] (by intro q hq; simp only [List.mem_cons, List.not_mem_nil, or_false] at hq; rcases hq with rfl; exact hj) he⟩⟩
theorem cl_pure {α β : Type} {f : α → β} {lk : List α} {l : List β} {k : Nat} {y : α} (h : lk.map f = l) (hk : k < lk.length) (hy : f y = f lk[k]) : (lk.set k y).map f = l := by
  rw [List.map_set, hy, ← h]
  have e : f lk[k] = (lk.map f)[k]'(by simpa using hk) := by simp
  rw [e, List.set_getElem_self]
theorem cl_vars {α : Type} (vA : α → Option Addr) (vN vC : α → Nat) (vr : α → List GVar) {SV : Nat → Prop} {W W2 : World} {gb k : Nat} {lk : List α} {y : α} (h : ∀ x ∈ lk, VarsR W SV (vA x) (vN x) (vC x) (vr x)) (hm : Mut (fun x => x = gb) W W2) (hg : ∀ x, x < W.heap.size → SV x → x ≠ gb) (hy : VarsR W2 SV (vA y) (vN y) (vC y) (vr y)) :
    ∀ x ∈ lk.set k y, VarsR W2 SV (vA x) (vN x) (vC x) (vr x) := by
  intro x hx
  rcases List.mem_or_eq_of_mem_set hx with hx | rfl
  · exact (h x hx).mut hm hg (fun _ _ h => h)
  · exact hy
theorem cl_upd2 {α : Type} {K j j2 : Nat} {enc : α → List Value} (hlen : ∀ x, (enc x).length = K) {W w1 : World} {base : Nat} {e : TypeId} {n cap gb k : Nat} {cur : Array Value} {lk : List α} {y : α} {u u2 : Value} (hk : k < lk.length) (hl : lk.length = n) (hbg : base ≤ gb) (hh : W.heap[gb]? = some (.cells cur e (0, 0))) (hnc : n ≤ cap) (hcm : cap ≤ maxLen) (hcs : cap * K = cur.size) (htk : cur.toList.take (n * K) = lk.flatMap enc) (hb : Below W.heap.size W w1) (hj : j < K) (hj2 : j2 < K) (he : ((enc lk[k]).set j u).set j2 u2 = enc y) :
    ((w1.setCell ⟨gb, k * K + j, none⟩ u).setCell ⟨gb, k * K + j2, none⟩ u2).ownsRow base e K (.slice (some ⟨gb, 0, none⟩) n cap) n ((lk.set k y).flatMap enc) :=
  ⟨by rw [flat_len (enc := enc) hlen, List.length_set, hl], .inr ⟨gb, cap, (cur.setIfInBounds (k * K + j) u).setIfInBounds (k * K + j2) u2, rfl, hbg, set_blk (o := k * K + j2) (set_blk (o := k * K + j) (block_below hb hh) u) u2, hnc, hcm, by simp only [Array.size_setIfInBounds]; first | exact hcs | exact hcs.symm, by
    simp only [Array.toList_setIfInBounds, List.take_set]
    rw [htk]
    exact flat_sets (enc := enc) hlen hk [(j, u), (j2, u2)] (by intro q hq; simp only [List.mem_cons, List.not_mem_nil, or_false] at hq; rcases hq with rfl | rfl; exact hj; exact hj2) he⟩⟩
theorem cl_msgs {P : EMsg → Prop} {lk l : List EMsg} (h : lk.map pureMsg = l.map pureMsg) (hP : ∀ x ∈ l, P (pureMsg x)) : ∀ x ∈ lk, P (pureMsg x) := fun x hx => by
  have h1 : pureMsg x ∈ l.map pureMsg := h ▸ List.mem_map_of_mem hx
  obtain ⟨y, hy, e⟩ := List.mem_map.1 h1
  rw [← e]; exact hP y hy
theorem cl_msg {SV : Nat → Prop} {W W2 : World} {gb k : Nat} {lk : List EMsg} {y : EMsg} (h : ∀ x ∈ lk, VarsR W SV x.vA x.vN x.vC x.vars ∧ IntsR W SV x.iA x.iN x.iC x.insts) (hm : Mut (fun x => x = gb) W W2) (hg : ∀ x, x < W.heap.size → SV x → x ≠ gb) (hy : VarsR W2 SV y.vA y.vN y.vC y.vars ∧ IntsR W2 SV y.iA y.iN y.iC y.insts) :
    ∀ x ∈ lk.set k y, VarsR W2 SV x.vA x.vN x.vC x.vars ∧ IntsR W2 SV x.iA x.iN x.iC x.insts := by
  intro x hx
  rcases List.mem_or_eq_of_mem_set hx with hx | rfl
  · exact ⟨(h x hx).1.mut hm hg (fun _ _ h => h), (h x hx).2.mut hm hg (fun _ _ h => h)⟩
  · exact hy
def clC (b gb o1 o2 : Nat) (v u1 u2 : Value) (t : Bool) (W : World) : Prop := cond t (W.cell? ⟨b, 11, none⟩ = some v) (W.cell? ⟨gb, o1, none⟩ = some u1 ∧ W.cell? ⟨gb, o2, none⟩ = some u2)
theorem clC_below {b gb o1 o2 : Nat} {v u1 u2 : Value} {W W' : World} (hb : Below W.heap.size W W') (t : Bool) (h : clC b gb o1 o2 v u1 u2 t W) : clC b gb o1 o2 v u1 u2 t W' := by
  cases t
  · exact ⟨cell_below hb h.1, cell_below hb h.2⟩
  · exact cell_below (w := W) hb h
theorem clC_store {b gb o1 o2 : Nat} {v u1 u2 : Value} {W : World} (hne : b ≠ gb) (o : Nat) (u : Value) (h : clC b gb o1 o2 v u1 u2 true W) : clC b gb o1 o2 v u1 u2 true (W.setCell ⟨gb, o, none⟩ u) :=
  (Mut.setCell (T := fun x => x = gb) (Mut.refl _ W) (p := ⟨gb, o, none⟩) (fun _ => rfl) u).cell (a := ⟨b, 11, none⟩) h hne
theorem clF_b {b gb o1 o2 : Nat} {v u1 u2 : Value} (W : World) (h : clC b gb o1 o2 v u1 u2 true W) : (loadVar 31 ⟨b, 11, none⟩).run Tryz.prog W = .ok v W := run_load_cell Tryz.underlying31 rfl h
theorem clF_v {b gb o1 o2 : Nat} {v u1 u2 : Value} (W : World) (h : clC b gb o1 o2 v u1 u2 false W) : (loadVar 69 ⟨gb, o1, none⟩).run Tryz.prog W = .ok u1 W := run_load_cell Tryz.underlying69 rfl h.1
theorem clF_i {b gb o1 o2 : Nat} {v u1 u2 : Value} (W : World) (h : clC b gb o1 o2 v u1 u2 false W) : (loadVar 85 ⟨gb, o2, none⟩).run Tryz.prog W = .ok u2 W := run_load_cell Tryz.underlying85 rfl h.2
theorem clSt : BoxT Tryz.prog 33 12 := ⟨by kernel_rfl, by kernel_rfl⟩
set_option maxRecDepth 100000 in
set_option maxHeartbeats 8000000 in
theorem c_fClone {w : World} {S : Nat → Prop} {v : StV} {g : GSt} (hs : StR w S v g) (hf : g.fits) (hi : ∀ x ∈ g.msgs, x.insts.length * 8 ≤ 140737488355328) :
    Calls Tryz.prog 22 #[.agg v.vals] w fun e w' => ∃ v' g', e = .returned (.agg v'.vals) ∧ StR w' (fun x => S x ∨ w.heap.size ≤ x) v' g' ∧ g'.pure = g.pure ∧ Below w.heap.size w w' := by
  obtain ⟨P, D, M, A3, n3, c3, A4, n4, c4, A5, n5, c5, A6, n6, c6, A7, n7, c7, A8, n8, c8, A9, n9, c9, A10, n10, c10, A11, n11, c11⟩ := v
  simp only [StV.vals]
  obtain ⟨N, hN⟩ : ∃ N, N = (w.alloc (.cells #[.int .u64 P, .int .u64 D, .int .u64 M, .slice A3 n3 c3, .slice A4 n4 c4, .slice A5 n5 c5, .slice A6 n6 c6, .slice A7 n7 c7, .slice A8 n8 c8, .slice A9 n9 c9, .slice A10 n10 c10, .slice A11 n11 c11] 33)).alloc (.cells #[.int .u64 0, .int .u64 0, .int .u64 0, .slice none 0 0, .slice none 0 0, .slice none 0 0, .slice none 0 0, .slice none 0 0, .slice none 0 0, .slice none 0 0, .slice none 0 0, .slice none 0 0] 33) := ⟨_, rfl⟩
  have HBX0 : Hid (N.heap[w.heap.size]? = some (.cells #[.int .u64 P, .int .u64 D, .int .u64 M, .slice A3 n3 c3, .slice A4 n4 c4, .slice A5 n5 c5, .slice A6 n6 c6, .slice A7 n7 c7, .slice A8 n8 c8, .slice A9 n9 c9, .slice A10 n10 c10, .slice A11 n11 c11] 33 (0, 0))) := Lib.hid (by rw [hN]; exact blk_alloc (blk_new _) _)
  have HBR0 : Hid (N.heap[w.heap.size + 1]? = some (.cells #[.int .u64 0, .int .u64 0, .int .u64 0, .slice none 0 0, .slice none 0 0, .slice none 0 0, .slice none 0 0, .slice none 0 0, .slice none 0 0, .slice none 0 0, .slice none 0 0, .slice none 0 0] 33 (0, 0))) := Lib.hid (by rw [hN]; exact blk_new_of _ (by simp))
  have HBW0 : Hid (Below w.heap.size w N) := Lib.hid (by rw [hN]; exact below_alloc (below_alloc (Below.refl _ _) _) _)
  have HNS : Hid (N.heap.size = w.heap.size + 2) := Lib.hid (by rw [hN]; simp)
  have HC3 := Lib.hid (fun (W : World) (hb : Below w.heap.size w W) => clone_Proc A3 n3 c3 g.procs W S hs.procs.1 (by have h1 := hs.procs.1; have h2 := hf; simp only at h1; unfold GSt.fits at h2; omega) (hs.procs.2.below hb))
  have HC4 := Lib.hid (fun (W : World) (hb : Below w.heap.size w W) => clone_Inst A4 n4 c4 g.insts W S hs.insts.1 (by have h1 := hs.insts.1; have h2 := hf; simp only at h1; unfold GSt.fits at h2; omega) (hs.insts.2.below hb))
  have HC5 := Lib.hid (fun (W : World) (hb : Below w.heap.size w W) => clone_Tok A5 n5 c5 g.tokens W S hs.tokens.1 (by have h1 := hs.tokens.1; have h2 := hf; simp only at h1; unfold GSt.fits at h2; omega) (hs.tokens.2.below hb))
  have HC6 := Lib.hid (fun (W : World) (hb : Below w.heap.size w W) => clone_Job A6 n6 c6 g.jobs W S hs.jobs.1 (by have h1 := hs.jobs.1; have h2 := hf; simp only at h1; unfold GSt.fits at h2; omega) (hs.jobs.2.below hb))
  have HC7 := Lib.hid (fun (W : World) (hb : Below w.heap.size w W) => clone_Tim A7 n7 c7 g.timers W S hs.timers.1 (by have h1 := hs.timers.1; have h2 := hf; simp only at h1; unfold GSt.fits at h2; omega) (hs.timers.2.below hb))
  have HC8 := Lib.hid (fun (W : World) (hb : Below w.heap.size w W) => clone_Sub A8 n8 c8 g.subs W S hs.subs.1 (by have h1 := hs.subs.1; have h2 := hf; simp only at h1; unfold GSt.fits at h2; omega) (hs.subs.2.below hb))
  have HC9 := Lib.hid (fun (W : World) (hb : Below w.heap.size w W) => clone_Kept A9 n9 c9 g.kept W S hs.kept.1 (by have h1 := hs.kept.1; have h2 := hf; simp only at h1; unfold GSt.fits at h2; omega) (hs.kept.2.below hb))
  have HC10 := Lib.hid (fun (W : World) (hb : Below w.heap.size w W) => clone_Lst A10 n10 c10 g.listed W S hs.listed.1 (by have h1 := hs.listed.1; have h2 := hf; simp only at h1; unfold GSt.fits at h2; omega) (hs.listed.2.below hb))
  have HC11 := Lib.hid (fun (W : World) (hb : Below w.heap.size w W) => clone_Msg A11 n11 c11 g.msgs W S hs.msgs.1 (by have h1 := hs.msgs.1; have h2 := hf; simp only at h1; unfold GSt.fits at h2; omega) (hs.msgs.2.below hb))
  have HS := Lib.hid hs
  have HF := Lib.hid hf
  have HI := Lib.hid hi
  have HN := Lib.hid hN
  clear hs hf hi hN
  go_enter Tryz.func22, Tryz.ntmps22
  go_wp2_with fail
  rw [show (w.alloc (.cells #[.int .u64 P, .int .u64 D, .int .u64 M, .slice A3 n3 c3, .slice A4 n4 c4, .slice A5 n5 c5, .slice A6 n6 c6, .slice A7 n7 c7, .slice A8 n8 c8, .slice A9 n9 c9, .slice A10 n10 c10, .slice A11 n11 c11] 33)).alloc (.cells #[.int .u64 0, .int .u64 0, .int .u64 0, .slice none 0 0, .slice none 0 0, .slice none 0 0, .slice none 0 0, .slice none 0 0, .slice none 0 0, .slice none 0 0, .slice none 0 0, .slice none 0 0] 33) = N from HN.out.symm]
  clear HN
  have kx := HBX0.out
  have x3 := cell_regrown (cell_of_blk kx 3)
  have x5 := cell_regrown (cell_of_blk kx 5)
  have x6 := cell_regrown (cell_of_blk kx 6)
  have x7 := cell_regrown (cell_of_blk kx 7)
  clear kx
  refine wp_region_ord [13,15,17,19] (n := 20) (listed := #[false, false, false, false, false, false, false, false, false, false, false, false, false, false, false, false, false, false, false, false]) (by kernel_rfl) rfl rfl ?_
  ((refine wpK_read (fuel := 19) (listed' := #[true, false, false, false, false, false, false, false, false, false, false, false, false, false, false, false, false, false, false, false]) 0 (by first | exact regrown_first _ _ | exact regrown_self _) rfl (by kernel_rfl) rfl ?_; (first | go_big_quiet_step (fail) | quiet_step (fail)); refine wpQuiet_nil ?_); (refine wpK_read (fuel := 18) (listed' := #[true, true, false, false, false, false, false, false, false, false, false, false, false, false, false, false, false, false, false, false]) 1 (by first | exact regrown_first _ _ | exact regrown_self _) rfl (by kernel_rfl) rfl ?_; (first | go_big_quiet_step (fail) | quiet_step (fail)); refine wpQuiet_nil ?_); (refine wpK_read (fuel := 17) (listed' := #[true, true, false, true, false, false, false, false, false, false, false, false, false, false, false, false, false, false, false, false]) 3 (by first | exact regrown_first _ _ | exact regrown_self _) rfl (by kernel_rfl) rfl ?_; (first | go_big_quiet_step (fail) | quiet_step (fail)); refine wpQuiet_nil ?_); (refine wpK_read (fuel := 16) (listed' := #[true, true, false, true, true, false, false, false, false, false, false, false, false, false, false, false, false, false, false, false]) 4 (by first | exact regrown_first _ _ | exact regrown_self _) rfl (by kernel_rfl) rfl ?_; (first | go_big_quiet_step (fail) | quiet_step (fail)); refine wpQuiet_nil ?_); (refine wpK_read (fuel := 15) (listed' := #[true, true, false, true, true, false, true, false, false, false, false, false, false, false, false, false, false, false, false, false]) 6 (by first | exact regrown_first _ _ | exact regrown_self _) rfl (by kernel_rfl) rfl ?_; (first | go_big_quiet_step (fail) | quiet_step (fail)); refine wpQuiet_nil ?_); (refine wpK_read (fuel := 14) (listed' := #[true, true, false, true, true, false, true, true, false, false, false, false, false, false, false, false, false, false, false, false]) 7 (by first | exact regrown_first _ _ | exact regrown_self _) rfl (by kernel_rfl) rfl ?_; (first | go_big_quiet_step (fail) | quiet_step (fail)); refine wpQuiet_nil ?_); (refine wpK_read (fuel := 13) (listed' := #[true, true, false, true, true, false, true, true, false, true, false, false, false, false, false, false, false, false, false, false]) 9 (by first | exact regrown_first _ _ | exact regrown_self _) rfl (by kernel_rfl) rfl ?_; (first | go_big_quiet_step (fail) | quiet_step (fail)); refine wpQuiet_nil ?_); (refine wpK_read (fuel := 12) (listed' := #[true, true, false, true, true, false, true, true, false, true, true, false, false, false, false, false, false, false, false, false]) 10 (by first | exact regrown_first _ _ | exact regrown_self _) rfl (by kernel_rfl) rfl ?_; (first | go_big_quiet_step (fail) | quiet_step (fail)); refine wpQuiet_nil ?_))
  refine wpK_one (fuel := 11) (listed' := #[true, true, true, true, true, false, true, true, false, true, true, false, false, false, false, false, false, false, false, false]) 2 rfl (by kernel_rfl) rfl ?_
  go_wp2_with (go_at_call 31; refine (HC3.out _ (below2 HBW0.out (below_redrawn N _))).mono ?_; rintro e w1_0 ⟨B3, d3, rfl, ho, hb⟩; have HO3 : Hid (World.ownsRow _ N.heap.size _ _ _ _ _) := Lib.hid ho; have HL3 := Lib.hid HO3.out.lt; have HZ1_0 : Hid (N.heap.size ≤ w1_0.heap.size) := Lib.hid hb.size; have HBc1_0 := Lib.hid (below2 (below_redrawn N _) hb); clear ho hb)
  refine ⟨rfl, fun _ _ => regrown_of_below HBc1_0.out, ?_⟩
  ((refine wpK_pure (fuel := 10) (listed' := #[true, true, true, true, true, false, true, true, false, true, true, false, true, false, false, false, false, false, false, false]) 12 rfl (by kernel_rfl) rfl ?_; (first | go_big_quiet_step (fail) | quiet_step (fail)); refine wpQuiet_nil ?_))
  refine wpK_one (fuel := 9) (listed' := #[true, true, true, true, true, true, true, true, false, true, true, false, true, false, false, false, false, false, false, false]) 5 rfl (by kernel_rfl) rfl ?_
  go_wp2_with (go_at_call 32; refine (HC5.out _ (below2 HBW0.out HBc1_0.out)).mono ?_; rintro e w1_1 ⟨B5, d5, rfl, ho, hb⟩; have HO3 := Lib.hid (own_carry HO3.out hb); have HO5 : Hid (World.ownsRow _ w1_0.heap.size _ _ _ _ _) := Lib.hid ho; have HL5 := Lib.hid HO5.out.lt; have HZ1_1 : Hid (w1_0.heap.size ≤ w1_1.heap.size) := Lib.hid hb.size; have HBc1_1 := Lib.hid (below2 HBc1_0.out hb); clear ho hb)
  refine ⟨rfl, fun _ _ => regrown_of_below HBc1_1.out, ?_⟩
  refine wpK_one (fuel := 8) (listed' := #[true, true, true, true, true, true, true, true, true, true, true, false, true, false, false, false, false, false, false, false]) 8 rfl (by kernel_rfl) rfl ?_
  go_wp2_with (go_at_call 33; refine (HC6.out _ (below2 HBW0.out HBc1_1.out)).mono ?_; rintro e w1_2 ⟨B6, d6, rfl, ho, hb⟩; have HO3 := Lib.hid (own_carry HO3.out hb); have HO5 := Lib.hid (own_carry HO5.out hb); have HO6 : Hid (World.ownsRow _ w1_1.heap.size _ _ _ _ _) := Lib.hid ho; have HL6 := Lib.hid HO6.out.lt; have HZ1_2 : Hid (w1_1.heap.size ≤ w1_2.heap.size) := Lib.hid hb.size; have HBc1_2 := Lib.hid (below2 HBc1_1.out hb); clear ho hb)
  refine ⟨rfl, fun _ _ => regrown_of_below HBc1_2.out, ?_⟩
  refine wpK_one (fuel := 7) (listed' := #[true, true, true, true, true, true, true, true, true, true, true, true, true, false, false, false, false, false, false, false]) 11 rfl (by kernel_rfl) rfl ?_
  go_wp2_with (go_at_call 34; refine (HC7.out _ (below2 HBW0.out HBc1_2.out)).mono ?_; rintro e w1_3 ⟨B7, d7, rfl, ho, hb⟩; have HO3 := Lib.hid (own_carry HO3.out hb); have HO5 := Lib.hid (own_carry HO5.out hb); have HO6 := Lib.hid (own_carry HO6.out hb); have HO7 : Hid (World.ownsRow _ w1_2.heap.size _ _ _ _ _) := Lib.hid ho; have HL7 := Lib.hid HO7.out.lt; have HZ1_3 : Hid (w1_2.heap.size ≤ w1_3.heap.size) := Lib.hid hb.size; have HBc1_3 := Lib.hid (below2 HBc1_2.out hb); clear ho hb)
  refine ⟨rfl, fun _ _ => regrown_of_below HBc1_3.out, ?_⟩
  have kb := block_below HBc1_3.out HBX0.out
  have z3 := cell_of_blk kb 3
  have f3 := frozen_of_blk kb 3
  have z5 := cell_of_blk kb 5
  have f5 := frozen_of_blk kb 5
  have z6 := cell_of_blk kb 6
  have f6 := frozen_of_blk kb 6
  have z7 := cell_of_blk kb 7
  have f7 := frozen_of_blk kb 7
  have KB := Lib.hid kb
  clear kb
  refine wpK_one (fuel := 6) (listed' := #[true, true, true, true, true, true, true, true, true, true, true, true, true, true, false, false, false, false, false, false]) 13 rfl (by kernel_rfl) rfl ?_
  go_wp2_with fail
  refine ⟨rfl, fun h => absurd h (by decide), ?_⟩
  ((refine wpK_pure (fuel := 5) (listed' := #[true, true, true, true, true, true, true, true, true, true, true, true, true, true, true, false, false, false, false, false]) 14 rfl (by kernel_rfl) rfl ?_; (first | go_big_quiet_step (fail) | quiet_step (fail)); refine wpQuiet_nil ?_))
  refine wpK_one (fuel := 4) (listed' := #[true, true, true, true, true, true, true, true, true, true, true, true, true, true, true, true, false, false, false, false]) 15 rfl (by kernel_rfl) rfl ?_
  go_wp2_with fail
  refine ⟨rfl, fun h => absurd h (by decide), ?_⟩
  ((refine wpK_pure (fuel := 3) (listed' := #[true, true, true, true, true, true, true, true, true, true, true, true, true, true, true, true, true, false, false, false]) 16 rfl (by kernel_rfl) rfl ?_; (first | go_big_quiet_step (fail) | quiet_step (fail)); refine wpQuiet_nil ?_))
  refine wpK_one (fuel := 2) (listed' := #[true, true, true, true, true, true, true, true, true, true, true, true, true, true, true, true, true, true, false, false]) 17 rfl (by kernel_rfl) rfl ?_
  go_wp2_with fail
  refine ⟨rfl, fun h => absurd h (by decide), ?_⟩
  ((refine wpK_pure (fuel := 1) (listed' := #[true, true, true, true, true, true, true, true, true, true, true, true, true, true, true, true, true, true, true, false]) 18 rfl (by kernel_rfl) rfl ?_; (first | go_big_quiet_step (fail) | quiet_step (fail)); refine wpQuiet_nil ?_))
  refine wpK_one (fuel := 0) (listed' := #[true, true, true, true, true, true, true, true, true, true, true, true, true, true, true, true, true, true, true, true]) 19 rfl (by kernel_rfl) rfl ?_
  go_wp2_with fail
  refine ⟨rfl, fun h => absurd h (by decide), ?_⟩
  refine wpK_end rfl ?_
  have HBX1 : Hid (((((w1_3.setCell ⟨w.heap.size, 3, none⟩ (.slice B3 n3 d3)).setCell ⟨w.heap.size, 5, none⟩ (.slice B5 n5 d5)).setCell ⟨w.heap.size, 6, none⟩ (.slice B6 n6 d6)).setCell ⟨w.heap.size, 7, none⟩ (.slice B7 n7 d7)).heap[w.heap.size]? = some (.cells #[.int .u64 P, .int .u64 D, .int .u64 M, .slice B3 n3 d3, .slice A4 n4 c4, .slice B5 n5 d5, .slice B6 n6 d6, .slice B7 n7 d7, .slice A8 n8 c8, .slice A9 n9 c9, .slice A10 n10 c10, .slice A11 n11 c11] 33 (0, 0))) := Lib.hid (set_blk (o := 7) (set_blk (o := 6) (set_blk (o := 5) (set_blk (o := 3) (KB.out) (.slice B3 n3 d3)) (.slice B5 n5 d5)) (.slice B6 n6 d6)) (.slice B7 n7 d7))
  have HM1 : Hid (Mut (fun x => x = w.heap.size) w1_3 ((((w1_3.setCell ⟨w.heap.size, 3, none⟩ (.slice B3 n3 d3)).setCell ⟨w.heap.size, 5, none⟩ (.slice B5 n5 d5)).setCell ⟨w.heap.size, 6, none⟩ (.slice B6 n6 d6)).setCell ⟨w.heap.size, 7, none⟩ (.slice B7 n7 d7))) := Lib.hid (Mut.setCell (T := fun x => x = w.heap.size) (Mut.setCell (T := fun x => x = w.heap.size) (Mut.setCell (T := fun x => x = w.heap.size) (Mut.setCell (T := fun x => x = w.heap.size) (Mut.refl _ _) (p := ⟨w.heap.size, 3, none⟩) (fun _ => rfl) _) (p := ⟨w.heap.size, 5, none⟩) (fun _ => rfl) _) (p := ⟨w.heap.size, 6, none⟩) (fun _ => rfl) _) (p := ⟨w.heap.size, 7, none⟩) (fun _ => rfl) _)
  have HBR1 := Lib.hid (HM1.out.blk (block_below HBc1_3.out HBR0.out) (by omega))
  have HBW1 := Lib.hid (below_of_mut (below2 HBW0.out HBc1_3.out) (Nat.le_trans HBW0.out.size HBc1_3.out.size) HM1.out (fun x hx => by omega))
  have HO3 := Lib.hid (own_box HO3.out HM1.out (by have h1 := HNS.out; have := HZ1_0.out; have := HZ1_1.out; have := HZ1_2.out; have := HZ1_3.out; have h3 := HBW0.out.size; omega))
  have HO5 := Lib.hid (own_box HO5.out HM1.out (by have h1 := HNS.out; have := HZ1_0.out; have := HZ1_1.out; have := HZ1_2.out; have := HZ1_3.out; have h3 := HBW0.out.size; omega))
  have HO6 := Lib.hid (own_box HO6.out HM1.out (by have h1 := HNS.out; have := HZ1_0.out; have := HZ1_1.out; have := HZ1_2.out; have := HZ1_3.out; have h3 := HBW0.out.size; omega))
  have HO7 := Lib.hid (own_box HO7.out HM1.out (by have h1 := HNS.out; have := HZ1_0.out; have := HZ1_1.out; have := HZ1_2.out; have := HZ1_3.out; have h3 := HBW0.out.size; omega))
  have HZV1 : Hid (w1_3.heap.size ≤ ((((w1_3.setCell ⟨w.heap.size, 3, none⟩ (.slice B3 n3 d3)).setCell ⟨w.heap.size, 5, none⟩ (.slice B5 n5 d5)).setCell ⟨w.heap.size, 6, none⟩ (.slice B6 n6 d6)).setCell ⟨w.heap.size, 7, none⟩ (.slice B7 n7 d7)).heap.size) := Lib.hid HM1.out.size
  clear KB z3 f3 z5 f5 z6 f6 z7 f7
  generalize ((((w1_3.setCell ⟨w.heap.size, 3, none⟩ (.slice B3 n3 d3)).setCell ⟨w.heap.size, 5, none⟩ (.slice B5 n5 d5)).setCell ⟨w.heap.size, 6, none⟩ (.slice B6 n6 d6)).setCell ⟨w.heap.size, 7, none⟩ (.slice B7 n7 d7)) = V1 at *
  clear x3 x5 x6 x7
  go_wp2
  have kx := HBX1.out
  have x8 := cell_regrown (cell_of_blk kx 8)
  have x9 := cell_regrown (cell_of_blk kx 9)
  clear kx
  refine wp_region_ord [7,9] (n := 10) (listed := #[false, false, false, false, false, false, false, false, false, false]) (by kernel_rfl) rfl rfl ?_
  ((refine wpK_read (fuel := 9) (listed' := #[true, false, false, false, false, false, false, false, false, false]) 0 (by first | exact regrown_first _ _ | exact regrown_self _) rfl (by kernel_rfl) rfl ?_; (first | go_big_quiet_step (fail) | quiet_step (fail)); refine wpQuiet_nil ?_); (refine wpK_read (fuel := 8) (listed' := #[true, true, false, false, false, false, false, false, false, false]) 1 (by first | exact regrown_first _ _ | exact regrown_self _) rfl (by kernel_rfl) rfl ?_; (first | go_big_quiet_step (fail) | quiet_step (fail)); refine wpQuiet_nil ?_); (refine wpK_read (fuel := 7) (listed' := #[true, true, false, true, false, false, false, false, false, false]) 3 (by first | exact regrown_first _ _ | exact regrown_self _) rfl (by kernel_rfl) rfl ?_; (first | go_big_quiet_step (fail) | quiet_step (fail)); refine wpQuiet_nil ?_); (refine wpK_read (fuel := 6) (listed' := #[true, true, false, true, true, false, false, false, false, false]) 4 (by first | exact regrown_first _ _ | exact regrown_self _) rfl (by kernel_rfl) rfl ?_; (first | go_big_quiet_step (fail) | quiet_step (fail)); refine wpQuiet_nil ?_))
  refine wpK_one (fuel := 5) (listed' := #[true, true, true, true, true, false, false, false, false, false]) 2 rfl (by kernel_rfl) rfl ?_
  go_wp2_with (go_at_call 35; refine (HC8.out _ (below2 HBW1.out (below_redrawn V1 _))).mono ?_; rintro e w2_0 ⟨B8, d8, rfl, ho, hb⟩; have HO3 := Lib.hid (own_carry HO3.out (below2 (below_redrawn V1 _) hb)); have HO5 := Lib.hid (own_carry HO5.out (below2 (below_redrawn V1 _) hb)); have HO6 := Lib.hid (own_carry HO6.out (below2 (below_redrawn V1 _) hb)); have HO7 := Lib.hid (own_carry HO7.out (below2 (below_redrawn V1 _) hb)); have HO8 : Hid (World.ownsRow _ V1.heap.size _ _ _ _ _) := Lib.hid ho; have HL8 := Lib.hid HO8.out.lt; have HZ2_0 : Hid (V1.heap.size ≤ w2_0.heap.size) := Lib.hid hb.size; have HBc2_0 := Lib.hid (below2 (below_redrawn V1 _) hb); clear ho hb)
  refine ⟨rfl, fun _ _ => regrown_of_below HBc2_0.out, ?_⟩
  ((refine wpK_pure (fuel := 4) (listed' := #[true, true, true, true, true, false, true, false, false, false]) 6 rfl (by kernel_rfl) rfl ?_; (first | go_big_quiet_step (fail) | quiet_step (fail)); refine wpQuiet_nil ?_))
  refine wpK_one (fuel := 3) (listed' := #[true, true, true, true, true, true, true, false, false, false]) 5 rfl (by kernel_rfl) rfl ?_
  go_wp2_with (go_at_call 36; refine (HC9.out _ (below2 HBW1.out HBc2_0.out)).mono ?_; rintro e w2_1 ⟨B9, d9, rfl, ho, hb⟩; have HO3 := Lib.hid (own_carry HO3.out hb); have HO5 := Lib.hid (own_carry HO5.out hb); have HO6 := Lib.hid (own_carry HO6.out hb); have HO7 := Lib.hid (own_carry HO7.out hb); have HO8 := Lib.hid (own_carry HO8.out hb); have HO9 : Hid (World.ownsRow _ w2_0.heap.size _ _ _ _ _) := Lib.hid ho; have HL9 := Lib.hid HO9.out.lt; have HZ2_1 : Hid (w2_0.heap.size ≤ w2_1.heap.size) := Lib.hid hb.size; have HBc2_1 := Lib.hid (below2 HBc2_0.out hb); clear ho hb)
  refine ⟨rfl, fun _ _ => regrown_of_below HBc2_1.out, ?_⟩
  have kb := block_below HBc2_1.out HBX1.out
  have z8 := cell_of_blk kb 8
  have f8 := frozen_of_blk kb 8
  have z9 := cell_of_blk kb 9
  have f9 := frozen_of_blk kb 9
  have KB := Lib.hid kb
  clear kb
  refine wpK_one (fuel := 2) (listed' := #[true, true, true, true, true, true, true, true, false, false]) 7 rfl (by kernel_rfl) rfl ?_
  go_wp2_with fail
  refine ⟨rfl, fun h => absurd h (by decide), ?_⟩
  ((refine wpK_pure (fuel := 1) (listed' := #[true, true, true, true, true, true, true, true, true, false]) 8 rfl (by kernel_rfl) rfl ?_; (first | go_big_quiet_step (fail) | quiet_step (fail)); refine wpQuiet_nil ?_))
  refine wpK_one (fuel := 0) (listed' := #[true, true, true, true, true, true, true, true, true, true]) 9 rfl (by kernel_rfl) rfl ?_
  go_wp2_with fail
  refine ⟨rfl, fun h => absurd h (by decide), ?_⟩
  refine wpK_end rfl ?_
  have HBX2 : Hid (((w2_1.setCell ⟨w.heap.size, 8, none⟩ (.slice B8 n8 d8)).setCell ⟨w.heap.size, 9, none⟩ (.slice B9 n9 d9)).heap[w.heap.size]? = some (.cells #[.int .u64 P, .int .u64 D, .int .u64 M, .slice B3 n3 d3, .slice A4 n4 c4, .slice B5 n5 d5, .slice B6 n6 d6, .slice B7 n7 d7, .slice B8 n8 d8, .slice B9 n9 d9, .slice A10 n10 c10, .slice A11 n11 c11] 33 (0, 0))) := Lib.hid (set_blk (o := 9) (set_blk (o := 8) (KB.out) (.slice B8 n8 d8)) (.slice B9 n9 d9))
  have HM2 : Hid (Mut (fun x => x = w.heap.size) w2_1 ((w2_1.setCell ⟨w.heap.size, 8, none⟩ (.slice B8 n8 d8)).setCell ⟨w.heap.size, 9, none⟩ (.slice B9 n9 d9))) := Lib.hid (Mut.setCell (T := fun x => x = w.heap.size) (Mut.setCell (T := fun x => x = w.heap.size) (Mut.refl _ _) (p := ⟨w.heap.size, 8, none⟩) (fun _ => rfl) _) (p := ⟨w.heap.size, 9, none⟩) (fun _ => rfl) _)
  have HBR2 := Lib.hid (HM2.out.blk (block_below HBc2_1.out HBR1.out) (by omega))
  have HBW2 := Lib.hid (below_of_mut (below2 HBW1.out HBc2_1.out) (Nat.le_trans HBW1.out.size HBc2_1.out.size) HM2.out (fun x hx => by omega))
  have HO3 := Lib.hid (own_box HO3.out HM2.out (by have h1 := HNS.out; have := HZ1_0.out; have := HZ1_1.out; have := HZ1_2.out; have := HZ1_3.out; have := HZ2_0.out; have := HZ2_1.out; have := HZV1.out; have h3 := HBW1.out.size; omega))
  have HO5 := Lib.hid (own_box HO5.out HM2.out (by have h1 := HNS.out; have := HZ1_0.out; have := HZ1_1.out; have := HZ1_2.out; have := HZ1_3.out; have := HZ2_0.out; have := HZ2_1.out; have := HZV1.out; have h3 := HBW1.out.size; omega))
  have HO6 := Lib.hid (own_box HO6.out HM2.out (by have h1 := HNS.out; have := HZ1_0.out; have := HZ1_1.out; have := HZ1_2.out; have := HZ1_3.out; have := HZ2_0.out; have := HZ2_1.out; have := HZV1.out; have h3 := HBW1.out.size; omega))
  have HO7 := Lib.hid (own_box HO7.out HM2.out (by have h1 := HNS.out; have := HZ1_0.out; have := HZ1_1.out; have := HZ1_2.out; have := HZ1_3.out; have := HZ2_0.out; have := HZ2_1.out; have := HZV1.out; have h3 := HBW1.out.size; omega))
  have HO8 := Lib.hid (own_box HO8.out HM2.out (by have h1 := HNS.out; have := HZ1_0.out; have := HZ1_1.out; have := HZ1_2.out; have := HZ1_3.out; have := HZ2_0.out; have := HZ2_1.out; have := HZV1.out; have h3 := HBW1.out.size; omega))
  have HO9 := Lib.hid (own_box HO9.out HM2.out (by have h1 := HNS.out; have := HZ1_0.out; have := HZ1_1.out; have := HZ1_2.out; have := HZ1_3.out; have := HZ2_0.out; have := HZ2_1.out; have := HZV1.out; have h3 := HBW1.out.size; omega))
  have HZV2 : Hid (w2_1.heap.size ≤ ((w2_1.setCell ⟨w.heap.size, 8, none⟩ (.slice B8 n8 d8)).setCell ⟨w.heap.size, 9, none⟩ (.slice B9 n9 d9)).heap.size) := Lib.hid HM2.out.size
  clear KB z8 f8 z9 f9
  generalize ((w2_1.setCell ⟨w.heap.size, 8, none⟩ (.slice B8 n8 d8)).setCell ⟨w.heap.size, 9, none⟩ (.slice B9 n9 d9)) = V2 at *
  clear x8 x9
  go_wp2
  have kx := HBX2.out
  have x4 := cell_regrown (cell_of_blk kx 4)
  have x10 := cell_regrown (cell_of_blk kx 10)
  have x11 := cell_regrown (cell_of_blk kx 11)
  clear kx
  refine wp_region_ord [10,12,14] (n := 15) (listed := #[false, false, false, false, false, false, false, false, false, false, false, false, false, false, false]) (by kernel_rfl) rfl rfl ?_
  ((refine wpK_read (fuel := 14) (listed' := #[true, false, false, false, false, false, false, false, false, false, false, false, false, false, false]) 0 (by first | exact regrown_first _ _ | exact regrown_self _) rfl (by kernel_rfl) rfl ?_; (first | go_big_quiet_step (fail) | quiet_step (fail)); refine wpQuiet_nil ?_); (refine wpK_read (fuel := 13) (listed' := #[true, true, false, false, false, false, false, false, false, false, false, false, false, false, false]) 1 (by first | exact regrown_first _ _ | exact regrown_self _) rfl (by kernel_rfl) rfl ?_; (first | go_big_quiet_step (fail) | quiet_step (fail)); refine wpQuiet_nil ?_); (refine wpK_read (fuel := 12) (listed' := #[true, true, false, true, false, false, false, false, false, false, false, false, false, false, false]) 3 (by first | exact regrown_first _ _ | exact regrown_self _) rfl (by kernel_rfl) rfl ?_; (first | go_big_quiet_step (fail) | quiet_step (fail)); refine wpQuiet_nil ?_); (refine wpK_read (fuel := 11) (listed' := #[true, true, false, true, true, false, false, false, false, false, false, false, false, false, false]) 4 (by first | exact regrown_first _ _ | exact regrown_self _) rfl (by kernel_rfl) rfl ?_; (first | go_big_quiet_step (fail) | quiet_step (fail)); refine wpQuiet_nil ?_); (refine wpK_read (fuel := 10) (listed' := #[true, true, false, true, true, false, true, false, false, false, false, false, false, false, false]) 6 (by first | exact regrown_first _ _ | exact regrown_self _) rfl (by kernel_rfl) rfl ?_; (first | go_big_quiet_step (fail) | quiet_step (fail)); refine wpQuiet_nil ?_); (refine wpK_read (fuel := 9) (listed' := #[true, true, false, true, true, false, true, true, false, false, false, false, false, false, false]) 7 (by first | exact regrown_first _ _ | exact regrown_self _) rfl (by kernel_rfl) rfl ?_; (first | go_big_quiet_step (fail) | quiet_step (fail)); refine wpQuiet_nil ?_))
  refine wpK_one (fuel := 8) (listed' := #[true, true, true, true, true, false, true, true, false, false, false, false, false, false, false]) 2 rfl (by kernel_rfl) rfl ?_
  go_wp2_with (go_at_call 37; refine (HC4.out _ (below2 HBW2.out (below_redrawn V2 _))).mono ?_; rintro e w3_0 ⟨B4, d4, rfl, ho, hb⟩; have HO3 := Lib.hid (own_carry HO3.out (below2 (below_redrawn V2 _) hb)); have HO5 := Lib.hid (own_carry HO5.out (below2 (below_redrawn V2 _) hb)); have HO6 := Lib.hid (own_carry HO6.out (below2 (below_redrawn V2 _) hb)); have HO7 := Lib.hid (own_carry HO7.out (below2 (below_redrawn V2 _) hb)); have HO8 := Lib.hid (own_carry HO8.out (below2 (below_redrawn V2 _) hb)); have HO9 := Lib.hid (own_carry HO9.out (below2 (below_redrawn V2 _) hb)); have HO4 : Hid (World.ownsRow _ V2.heap.size _ _ _ _ _) := Lib.hid ho; have HL4 := Lib.hid HO4.out.lt; have HZ3_0 : Hid (V2.heap.size ≤ w3_0.heap.size) := Lib.hid hb.size; have HBc3_0 := Lib.hid (below2 (below_redrawn V2 _) hb); clear ho hb)
  refine ⟨rfl, fun _ _ => regrown_of_below HBc3_0.out, ?_⟩
  ((refine wpK_pure (fuel := 7) (listed' := #[true, true, true, true, true, false, true, true, false, true, false, false, false, false, false]) 9 rfl (by kernel_rfl) rfl ?_; (first | go_big_quiet_step (fail) | quiet_step (fail)); refine wpQuiet_nil ?_))
  refine wpK_one (fuel := 6) (listed' := #[true, true, true, true, true, true, true, true, false, true, false, false, false, false, false]) 5 rfl (by kernel_rfl) rfl ?_
  go_wp2_with (go_at_call 38; refine (HC10.out _ (below2 HBW2.out HBc3_0.out)).mono ?_; rintro e w3_1 ⟨B10, d10, rfl, ho, hb⟩; have HO3 := Lib.hid (own_carry HO3.out hb); have HO5 := Lib.hid (own_carry HO5.out hb); have HO6 := Lib.hid (own_carry HO6.out hb); have HO7 := Lib.hid (own_carry HO7.out hb); have HO8 := Lib.hid (own_carry HO8.out hb); have HO9 := Lib.hid (own_carry HO9.out hb); have HO4 := Lib.hid (own_carry HO4.out hb); have HO10 : Hid (World.ownsRow _ w3_0.heap.size _ _ _ _ _) := Lib.hid ho; have HL10 := Lib.hid HO10.out.lt; have HZ3_1 : Hid (w3_0.heap.size ≤ w3_1.heap.size) := Lib.hid hb.size; have HBc3_1 := Lib.hid (below2 HBc3_0.out hb); clear ho hb)
  refine ⟨rfl, fun _ _ => regrown_of_below HBc3_1.out, ?_⟩
  refine wpK_one (fuel := 5) (listed' := #[true, true, true, true, true, true, true, true, true, true, false, false, false, false, false]) 8 rfl (by kernel_rfl) rfl ?_
  go_wp2_with (go_at_call 39; refine (HC11.out _ (below2 HBW2.out HBc3_1.out)).mono ?_; rintro e w3_2 ⟨B11, d11, rfl, ho, hb⟩; have HO3 := Lib.hid (own_carry HO3.out hb); have HO5 := Lib.hid (own_carry HO5.out hb); have HO6 := Lib.hid (own_carry HO6.out hb); have HO7 := Lib.hid (own_carry HO7.out hb); have HO8 := Lib.hid (own_carry HO8.out hb); have HO9 := Lib.hid (own_carry HO9.out hb); have HO4 := Lib.hid (own_carry HO4.out hb); have HO10 := Lib.hid (own_carry HO10.out hb); have HO11 : Hid (World.ownsRow _ w3_1.heap.size _ _ _ _ _) := Lib.hid ho; have HL11 := Lib.hid HO11.out.lt; have HZ3_2 : Hid (w3_1.heap.size ≤ w3_2.heap.size) := Lib.hid hb.size; have HBc3_2 := Lib.hid (below2 HBc3_1.out hb); clear ho hb)
  refine ⟨rfl, fun _ _ => regrown_of_below HBc3_2.out, ?_⟩
  have kb := block_below HBc3_2.out HBX2.out
  have z4 := cell_of_blk kb 4
  have f4 := frozen_of_blk kb 4
  have z10 := cell_of_blk kb 10
  have f10 := frozen_of_blk kb 10
  have z11 := cell_of_blk kb 11
  have f11 := frozen_of_blk kb 11
  have KB := Lib.hid kb
  clear kb
  refine wpK_one (fuel := 4) (listed' := #[true, true, true, true, true, true, true, true, true, true, true, false, false, false, false]) 10 rfl (by kernel_rfl) rfl ?_
  go_wp2_with fail
  refine ⟨rfl, fun h => absurd h (by decide), ?_⟩
  ((refine wpK_pure (fuel := 3) (listed' := #[true, true, true, true, true, true, true, true, true, true, true, true, false, false, false]) 11 rfl (by kernel_rfl) rfl ?_; (first | go_big_quiet_step (fail) | quiet_step (fail)); refine wpQuiet_nil ?_))
  refine wpK_one (fuel := 2) (listed' := #[true, true, true, true, true, true, true, true, true, true, true, true, true, false, false]) 12 rfl (by kernel_rfl) rfl ?_
  go_wp2_with fail
  refine ⟨rfl, fun h => absurd h (by decide), ?_⟩
  ((refine wpK_pure (fuel := 1) (listed' := #[true, true, true, true, true, true, true, true, true, true, true, true, true, true, false]) 13 rfl (by kernel_rfl) rfl ?_; (first | go_big_quiet_step (fail) | quiet_step (fail)); refine wpQuiet_nil ?_))
  refine wpK_one (fuel := 0) (listed' := #[true, true, true, true, true, true, true, true, true, true, true, true, true, true, true]) 14 rfl (by kernel_rfl) rfl ?_
  go_wp2_with fail
  refine ⟨rfl, fun h => absurd h (by decide), ?_⟩
  refine wpK_end rfl ?_
  have HBX3 : Hid ((((w3_2.setCell ⟨w.heap.size, 4, none⟩ (.slice B4 n4 d4)).setCell ⟨w.heap.size, 10, none⟩ (.slice B10 n10 d10)).setCell ⟨w.heap.size, 11, none⟩ (.slice B11 n11 d11)).heap[w.heap.size]? = some (.cells #[.int .u64 P, .int .u64 D, .int .u64 M, .slice B3 n3 d3, .slice B4 n4 d4, .slice B5 n5 d5, .slice B6 n6 d6, .slice B7 n7 d7, .slice B8 n8 d8, .slice B9 n9 d9, .slice B10 n10 d10, .slice B11 n11 d11] 33 (0, 0))) := Lib.hid (set_blk (o := 11) (set_blk (o := 10) (set_blk (o := 4) (KB.out) (.slice B4 n4 d4)) (.slice B10 n10 d10)) (.slice B11 n11 d11))
  have HM3 : Hid (Mut (fun x => x = w.heap.size) w3_2 (((w3_2.setCell ⟨w.heap.size, 4, none⟩ (.slice B4 n4 d4)).setCell ⟨w.heap.size, 10, none⟩ (.slice B10 n10 d10)).setCell ⟨w.heap.size, 11, none⟩ (.slice B11 n11 d11))) := Lib.hid (Mut.setCell (T := fun x => x = w.heap.size) (Mut.setCell (T := fun x => x = w.heap.size) (Mut.setCell (T := fun x => x = w.heap.size) (Mut.refl _ _) (p := ⟨w.heap.size, 4, none⟩) (fun _ => rfl) _) (p := ⟨w.heap.size, 10, none⟩) (fun _ => rfl) _) (p := ⟨w.heap.size, 11, none⟩) (fun _ => rfl) _)
  have HBR3 := Lib.hid (HM3.out.blk (block_below HBc3_2.out HBR2.out) (by omega))
  have HBW3 := Lib.hid (below_of_mut (below2 HBW2.out HBc3_2.out) (Nat.le_trans HBW2.out.size HBc3_2.out.size) HM3.out (fun x hx => by omega))
  have HO3 := Lib.hid (own_box HO3.out HM3.out (by have h1 := HNS.out; have := HZ1_0.out; have := HZ1_1.out; have := HZ1_2.out; have := HZ1_3.out; have := HZ2_0.out; have := HZ2_1.out; have := HZ3_0.out; have := HZ3_1.out; have := HZ3_2.out; have := HZV1.out; have := HZV2.out; have h3 := HBW2.out.size; omega))
  have HO5 := Lib.hid (own_box HO5.out HM3.out (by have h1 := HNS.out; have := HZ1_0.out; have := HZ1_1.out; have := HZ1_2.out; have := HZ1_3.out; have := HZ2_0.out; have := HZ2_1.out; have := HZ3_0.out; have := HZ3_1.out; have := HZ3_2.out; have := HZV1.out; have := HZV2.out; have h3 := HBW2.out.size; omega))
  have HO6 := Lib.hid (own_box HO6.out HM3.out (by have h1 := HNS.out; have := HZ1_0.out; have := HZ1_1.out; have := HZ1_2.out; have := HZ1_3.out; have := HZ2_0.out; have := HZ2_1.out; have := HZ3_0.out; have := HZ3_1.out; have := HZ3_2.out; have := HZV1.out; have := HZV2.out; have h3 := HBW2.out.size; omega))
  have HO7 := Lib.hid (own_box HO7.out HM3.out (by have h1 := HNS.out; have := HZ1_0.out; have := HZ1_1.out; have := HZ1_2.out; have := HZ1_3.out; have := HZ2_0.out; have := HZ2_1.out; have := HZ3_0.out; have := HZ3_1.out; have := HZ3_2.out; have := HZV1.out; have := HZV2.out; have h3 := HBW2.out.size; omega))
  have HO8 := Lib.hid (own_box HO8.out HM3.out (by have h1 := HNS.out; have := HZ1_0.out; have := HZ1_1.out; have := HZ1_2.out; have := HZ1_3.out; have := HZ2_0.out; have := HZ2_1.out; have := HZ3_0.out; have := HZ3_1.out; have := HZ3_2.out; have := HZV1.out; have := HZV2.out; have h3 := HBW2.out.size; omega))
  have HO9 := Lib.hid (own_box HO9.out HM3.out (by have h1 := HNS.out; have := HZ1_0.out; have := HZ1_1.out; have := HZ1_2.out; have := HZ1_3.out; have := HZ2_0.out; have := HZ2_1.out; have := HZ3_0.out; have := HZ3_1.out; have := HZ3_2.out; have := HZV1.out; have := HZV2.out; have h3 := HBW2.out.size; omega))
  have HO4 := Lib.hid (own_box HO4.out HM3.out (by have h1 := HNS.out; have := HZ1_0.out; have := HZ1_1.out; have := HZ1_2.out; have := HZ1_3.out; have := HZ2_0.out; have := HZ2_1.out; have := HZ3_0.out; have := HZ3_1.out; have := HZ3_2.out; have := HZV1.out; have := HZV2.out; have h3 := HBW2.out.size; omega))
  have HO10 := Lib.hid (own_box HO10.out HM3.out (by have h1 := HNS.out; have := HZ1_0.out; have := HZ1_1.out; have := HZ1_2.out; have := HZ1_3.out; have := HZ2_0.out; have := HZ2_1.out; have := HZ3_0.out; have := HZ3_1.out; have := HZ3_2.out; have := HZV1.out; have := HZV2.out; have h3 := HBW2.out.size; omega))
  have HO11 := Lib.hid (own_box HO11.out HM3.out (by have h1 := HNS.out; have := HZ1_0.out; have := HZ1_1.out; have := HZ1_2.out; have := HZ1_3.out; have := HZ2_0.out; have := HZ2_1.out; have := HZ3_0.out; have := HZ3_1.out; have := HZ3_2.out; have := HZV1.out; have := HZV2.out; have h3 := HBW2.out.size; omega))
  have HZV3 : Hid (w3_2.heap.size ≤ (((w3_2.setCell ⟨w.heap.size, 4, none⟩ (.slice B4 n4 d4)).setCell ⟨w.heap.size, 10, none⟩ (.slice B10 n10 d10)).setCell ⟨w.heap.size, 11, none⟩ (.slice B11 n11 d11)).heap.size) := Lib.hid HM3.out.size
  clear KB z4 f4 z10 f10 z11 f11
  generalize (((w3_2.setCell ⟨w.heap.size, 4, none⟩ (.slice B4 n4 d4)).setCell ⟨w.heap.size, 10, none⟩ (.slice B10 n10 d10)).setCell ⟨w.heap.size, 11, none⟩ (.slice B11 n11 d11)) = V3 at *
  clear x4 x10 x11
  have HVS4 : Hid (∀ x ∈ g.insts, VarsR V3 (fun x => (S x ∧ x < w.heap.size) ∨ V3.heap.size ≤ x) x.vA x.vN x.vC x.vars) := Lib.hid (fun x hx => (HS.out.vinst x hx).below HBW3.out (fun y hy hs => .inl ⟨hs, hy⟩))
  have kx := HBX3.out
  have x4 := cell_of_blk kx 4
  clear kx
  go_wp2
  clear x4
  go_loopw [3, 45] (fun _ i wr => ∃ (k : Nat) (lk : List EInst), k ≤ n4 ∧ i = .int .i64 k ∧ Hid (wr.ownsRow V2.heap.size 104 3 (.slice B4 n4 d4) n4 (lk.flatMap encInst)) ∧ Hid (lk.length = n4 ∧ lk.map pureInst = g.insts.map pureInst) ∧ Hid (∀ x ∈ lk, VarsR wr (fun x => (S x ∧ x < w.heap.size) ∨ V3.heap.size ≤ x) x.vA x.vN x.vC x.vars) ∧ Hid (Mut (fun x => (Value.slice B4 n4 d4).ownBlock = some x) V3 wr)) (fun _ i _ => n4 - (intOf i).toNat)
  case atStart => exact ⟨0, g.insts, Nat.zero_le _, rfl, HO4, Lib.hid ⟨HS.out.insts.1, rfl⟩, HVS4, Lib.hid (Mut.refl _ _)⟩
  case round =>
    obtain ⟨k, lk4, hk, rfl, HR4, HP4, HV4, HMm4⟩ := hrel
    have hnf : n4 ≤ 140737488355328 := by have h1 := HS.out.insts.1; have h2 := HF.out; simp only at h1; unfold GSt.fits at h2; omega
    by_cases hlt : k < n4
    · as_aux_lemma =>
        obtain ⟨gb, cap, cur, hv, hbg, hh, hnc, hcm, hcs, htk⟩ := own_some HR4.out (by omega)
        injection hv with hv1 _ hv3
        subst hv1 hv3
        have hkl : k < lk4.length := by rw [HP4.out.1]; exact hlt
        have hgm := (HL4.out gb (by simp [Value.ownBlock]))
        have kx := HMm4.out.blk HBX3.out (by simp [Value.ownBlock]; have := HNS.out; have := HZ1_0.out; have := HZ1_1.out; have := HZ1_2.out; have := HZ1_3.out; have := HZ2_0.out; have := HZ2_1.out; have := HZ3_0.out; have := HZ3_1.out; have := HZ3_2.out; have := HZV1.out; have := HZV2.out; omega)
        have x4 := cell_regrown (cell_of_blk kx 4)
        obtain ⟨B0, O0, hA0, _, hc⟩ := ListR.elem (K := 3) (enc := encInst) ⟨HP4.out.1, Row.of_own HR4.out⟩ lenInst (by omega)
        injection hA0 with hA0
        injection hA0 with hA1 hA2
        subst hA1 hA2
        have c2 := hc k hkl 2 _ rfl
        rw [Nat.zero_add] at c2
        have C2 := cell_regrown c2
        have hve := HV4.out lk4[k] (List.getElem_mem _)
        have HVC := Lib.hid (fun (W : World) (hb : Below wr.heap.size wr W) => vars_c lk4[k].vA lk4[k].vN lk4[k].vC lk4[k].vars W _ hve.1 hve.2.1 (hve.2.2.below hb))
        have HCC := Lib.hid c2
        have HHH := Lib.hid hh
        have HTK := Lib.hid htk
        have HGM := Lib.hid (And.intro hgm (lt_of_blk hh))
        have HLK : Hid (∃ y, y = lk4[k]) := Lib.hid ⟨_, rfl⟩
        have HVE := Lib.hid hve
        clear hc kx c2 hve hh htk hgm HLK
        go_wp2
        refine wp_region_ord [12] (n := 13) (listed := #[false, false, false, false, false, false, false, false, false, false, false, false, false]) (by kernel_rfl) rfl rfl ?_
        ((refine wpK_read (fuel := 12) (listed' := #[true, false, false, false, false, false, false, false, false, false, false, false, false]) 0 (by first | exact regrown_first _ _ | exact regrown_self _) rfl (by kernel_rfl) rfl ?_; (first | go_big_quiet_step (fail) | quiet_step (fail)); refine wpQuiet_nil ?_); (refine wpK_read (fuel := 11) (listed' := #[true, true, false, false, false, false, false, false, false, false, false, false, false]) 1 (by first | exact regrown_first _ _ | exact regrown_self _) rfl (by kernel_rfl) rfl ?_; (first | go_big_quiet_step (fail) | quiet_step (fail)); refine wpQuiet_nil ?_); (refine wpK_read (fuel := 10) (listed' := #[true, true, true, false, false, false, false, false, false, false, false, false, false]) 2 (by first | exact regrown_first _ _ | exact regrown_self _) rfl (by kernel_rfl) rfl ?_; (first | go_big_quiet_step (fail) | quiet_step (fail)); refine wpQuiet_nil ?_); (refine wpK_read (fuel := 9) (listed' := #[true, true, true, true, false, false, false, false, false, false, false, false, false]) 3 (by first | exact regrown_first _ _ | exact regrown_self _) rfl (by kernel_rfl) rfl ?_; (first | go_big_quiet_step (fail) | quiet_step (fail)); refine wpQuiet_nil ?_); (refine wpK_read (fuel := 8) (listed' := #[true, true, true, true, true, false, false, false, false, false, false, false, false]) 4 (by first | exact regrown_first _ _ | exact regrown_self _) rfl (by kernel_rfl) rfl ?_; (first | go_big_quiet_step (fail) | quiet_step (fail)); refine wpQuiet_nil ?_); (refine wpK_read (fuel := 7) (listed' := #[true, true, true, true, true, true, false, false, false, false, false, false, false]) 5 (by first | exact regrown_first _ _ | exact regrown_self _) rfl (by kernel_rfl) rfl ?_; (first | go_big_quiet_step (fail) | quiet_step (fail)); refine wpQuiet_nil ?_); (refine wpK_read (fuel := 6) (listed' := #[true, true, true, true, true, true, true, false, false, false, false, false, false]) 6 (by first | exact regrown_first _ _ | exact regrown_self _) rfl (by kernel_rfl) rfl ?_; (first | go_big_quiet_step (fail) | quiet_step (fail)); refine wpQuiet_nil ?_); (refine wpK_read (fuel := 5) (listed' := #[true, true, true, true, true, true, true, true, false, false, false, false, false]) 7 (by first | exact regrown_first _ _ | exact regrown_self _) rfl (by kernel_rfl) rfl ?_; (first | go_big_quiet_step (fail) | quiet_step (fail)); refine wpQuiet_nil ?_); (refine wpK_read (fuel := 4) (listed' := #[true, true, true, true, true, true, true, true, true, false, false, false, false]) 8 (by first | exact regrown_first _ _ | exact regrown_self _) rfl (by kernel_rfl) rfl ?_; (first | go_big_quiet_step (fail) | quiet_step (fail)); refine wpQuiet_nil ?_))
        refine wpK_one (fuel := 3) (listed' := #[true, true, true, true, true, true, true, true, true, true, false, false, false]) 9 rfl (by kernel_rfl) rfl ?_
        go_wp2_with (go_at_call 40; refine (HVC.out _ (below_redrawn wr _)).mono ?_; rintro e w1 ⟨A1, c1, rfl, ho, hb⟩; have HO1 : Hid (World.ownsRow _ wr.heap.size _ _ _ _ _) := Lib.hid ho; have HB1 := Lib.hid (below2 (below_redrawn wr _) hb); clear ho hb)
        refine ⟨rfl, fun _ _ => regrown_of_below HB1.out, ?_⟩
        ((refine wpK_pure (fuel := 2) (listed' := #[true, true, true, true, true, true, true, true, true, true, true, false, false]) 10 rfl (by kernel_rfl) rfl ?_; (first | go_big_quiet_step (fail) | quiet_step (fail)); refine wpQuiet_nil ?_); (refine wpK_pure (fuel := 1) (listed' := #[true, true, true, true, true, true, true, true, true, true, true, true, false]) 11 rfl (by kernel_rfl) rfl ?_; (first | go_big_quiet_step (fail) | quiet_step (fail)); refine wpQuiet_nil ?_))
        refine wpK_one (fuel := 0) (listed' := #[true, true, true, true, true, true, true, true, true, true, true, true, true]) 12 rfl (by kernel_rfl) rfl ?_
        have j2 := cell_below HB1.out HCC.out
        have f2 := frozen_of_blk (block_below HB1.out HHH.out) (k * 3 + 2)
        go_wp2_with fail
        refine ⟨rfl, fun h => absurd h (by decide), ?_⟩
        refine wpK_end rfl ?_
        go_wp2_with fail
        have hm : Mut (fun x => x = gb) wr (w1.setCell ⟨gb, k * 3 + 2, none⟩ (.slice A1 lk4[k].vN c1)) := Mut.setCell (T := fun x => x = gb) (Mut.of_below HB1.out _) (p := ⟨gb, k * 3 + 2, none⟩) (fun _ => rfl) _
        have hzs := HMm4.out.size
        have hq1 := HGM.out.1
        have hq2 := HGM.out.2
        have hsz : w.heap.size + 2 ≤ gb ∧ gb < V3.heap.size := by have := HNS.out; have := HZ1_0.out; have := HZ1_1.out; have := HZ1_2.out; have := HZ1_3.out; have := HZ2_0.out; have := HZ2_1.out; have := HZ3_0.out; have := HZ3_1.out; have := HZ3_2.out; have := HZV1.out; have := HZV2.out; have := HZV3.out; omega
        have hy : VarsR (w1.setCell ⟨gb, k * 3 + 2, none⟩ (.slice A1 lk4[k].vN c1)) (fun x => (S x ∧ x < w.heap.size) ∨ V3.heap.size ≤ x) A1 lk4[k].vN c1 lk4[k].vars := ⟨HVE.out.1, HVE.out.2.1, ((Row.of_own HO1.out).mut (T := fun x => x = gb) (Mut.setCell (T := fun x => x = gb) (Mut.refl _ _) (p := ⟨gb, k * 3 + 2, none⟩) (fun _ => rfl) _) (fun x _ hx e => by have := hx.1; omega)).weaken (fun x _ hx => .inr (by have := hx.1; omega))⟩
        go_roundw
        case rel => exact ⟨k + 1, lk4.set k { lk4[k] with vA := A1, vC := c1 }, by omega, by go_num, Lib.hid (cl_upd lenInst hkl HP4.out.1 hbg HHH.out hnc hcm hcs HTK.out HB1.out (by decide) rfl), Lib.hid ⟨by rw [List.length_set]; exact HP4.out.1, cl_pure HP4.out.2 hkl rfl⟩, Lib.hid (cl_vars EInst.vA EInst.vN EInst.vC EInst.vars HV4.out hm (fun x _ hx e => by rcases hx with hx | hx <;> omega) hy), Lib.hid (Mut.trans HMm4.out hm (fun x _ e => by subst e; simp [Value.ownBlock]))⟩
        case measure => simp [intOf]; omega
    · obtain ⟨V4, rfl⟩ : ∃ X : World, X = wr := ⟨_, rfl⟩
      have HT4 : Hid (∀ x, (Value.slice B4 n4 d4).ownBlock = some x → w.heap.size + 2 ≤ x ∧ x < w3_0.heap.size ∧ x < V3.heap.size) := Lib.hid (fun x hx => by have := HL4.out x hx; have := HZ1_0.out; have := HZ1_1.out; have := HZ1_2.out; have := HZ1_3.out; have := HZ2_0.out; have := HZ2_1.out; have := HZ3_0.out; have := HZ3_1.out; have := HZ3_2.out; have := HZV1.out; have := HZV2.out; have := HZV3.out; have := HNS.out; omega)
      have HT10 : Hid (∀ x, (Value.slice B10 n10 d10).ownBlock = some x → w.heap.size + 2 ≤ x ∧ w3_0.heap.size ≤ x ∧ x < w3_1.heap.size ∧ x < V3.heap.size) := Lib.hid (fun x hx => by have := HL10.out x hx; have := HZ1_0.out; have := HZ1_1.out; have := HZ1_2.out; have := HZ1_3.out; have := HZ2_0.out; have := HZ2_1.out; have := HZ3_0.out; have := HZ3_1.out; have := HZ3_2.out; have := HZV1.out; have := HZV2.out; have := HZV3.out; have := HNS.out; omega)
      have HT11 : Hid (∀ x, (Value.slice B11 n11 d11).ownBlock = some x → w.heap.size + 2 ≤ x ∧ w3_1.heap.size ≤ x ∧ x < V3.heap.size) := Lib.hid (fun x hx => by have := HL11.out x hx; have := HZ1_0.out; have := HZ1_1.out; have := HZ1_2.out; have := HZ1_3.out; have := HZ2_0.out; have := HZ2_1.out; have := HZ3_0.out; have := HZ3_1.out; have := HZ3_2.out; have := HZV1.out; have := HZV2.out; have := HZV3.out; have := HNS.out; omega)
      have HBX4 := Lib.hid (HMm4.out.blk HBX3.out (fun e => by have := HT4.out _ e; omega))
      have HBR4 := Lib.hid (HMm4.out.blk HBR3.out (fun e => by have := HT4.out _ e; omega))
      have HO10b := Lib.hid (own_mut HO10.out HMm4.out (fun x hx e => by have := HT4.out _ e; have := HT10.out _ hx; omega))
      have HVS10 : Hid (∀ x ∈ g.listed, VarsR V4 (fun x => (S x ∧ x < w.heap.size) ∨ V3.heap.size ≤ x) x.vA x.vN x.vC x.vars) := Lib.hid (fun x hx => ((HS.out.vlist x hx).below (S' := (fun x => (S x ∧ x < w.heap.size) ∨ V3.heap.size ≤ x)) HBW3.out (fun y hy hs => .inl ⟨hs, hy⟩)).mut HMm4.out (fun y _ hs e => by have := HT4.out _ e; rcases hs with hs | hs <;> omega) (fun _ _ h => h))
      have HZ34 := Lib.hid HMm4.out.size
      have kx := HBX4.out
      have x10 := cell_of_blk kx 10
      clear kx
      go_wp2
      clear x10
      go_loopw [4, 64] (fun _ i wr => ∃ (k : Nat) (lk : List ELst), k ≤ n10 ∧ i = .int .i64 k ∧ Hid (wr.ownsRow w3_0.heap.size 107 7 (.slice B10 n10 d10) n10 (lk.flatMap encLst)) ∧ Hid (lk.length = n10 ∧ lk.map pureLst = g.listed.map pureLst) ∧ Hid (∀ x ∈ lk, VarsR wr (fun x => (S x ∧ x < w.heap.size) ∨ V3.heap.size ≤ x) x.vA x.vN x.vC x.vars) ∧ Hid (Mut (fun x => (Value.slice B10 n10 d10).ownBlock = some x) V4 wr)) (fun _ i _ => n10 - (intOf i).toNat)
      case atStart => exact ⟨0, g.listed, Nat.zero_le _, rfl, HO10b, Lib.hid ⟨HS.out.listed.1, rfl⟩, HVS10, Lib.hid (Mut.refl _ _)⟩
      case round =>
        obtain ⟨k, lk10, hk, rfl, HR10, HP10, HV10, HMm10⟩ := hrel
        have hnf : n10 ≤ 140737488355328 := by have h1 := HS.out.listed.1; have h2 := HF.out; simp only at h1; unfold GSt.fits at h2; omega
        by_cases hlt : k < n10
        · as_aux_lemma =>
            obtain ⟨gb, cap, cur, hv, hbg, hh, hnc, hcm, hcs, htk⟩ := own_some HR10.out (by omega)
            injection hv with hv1 _ hv3
            subst hv1 hv3
            have hkl : k < lk10.length := by rw [HP10.out.1]; exact hlt
            have hgm := (HL10.out gb (by simp [Value.ownBlock]))
            have kx := HMm10.out.blk HBX4.out (by simp [Value.ownBlock]; have := HNS.out; have := HZ1_0.out; have := HZ1_1.out; have := HZ1_2.out; have := HZ1_3.out; have := HZ2_0.out; have := HZ2_1.out; have := HZ3_0.out; have := HZ3_1.out; have := HZ3_2.out; have := HZV1.out; have := HZV2.out; omega)
            have x10 := cell_regrown (cell_of_blk kx 10)
            obtain ⟨B0, O0, hA0, _, hc⟩ := ListR.elem (K := 7) (enc := encLst) ⟨HP10.out.1, Row.of_own HR10.out⟩ lenLst (by omega)
            injection hA0 with hA0
            injection hA0 with hA1 hA2
            subst hA1 hA2
            have c2 := hc k hkl 6 _ rfl
            rw [Nat.zero_add] at c2
            have C2 := cell_regrown c2
            have hve := HV10.out lk10[k] (List.getElem_mem _)
            have HVC := Lib.hid (fun (W : World) (hb : Below wr.heap.size wr W) => vars_c lk10[k].vA lk10[k].vN lk10[k].vC lk10[k].vars W _ hve.1 hve.2.1 (hve.2.2.below hb))
            have HCC := Lib.hid c2
            have HHH := Lib.hid hh
            have HTK := Lib.hid htk
            have HGM := Lib.hid (And.intro hgm (lt_of_blk hh))
            have HLK : Hid (∃ y, y = lk10[k]) := Lib.hid ⟨_, rfl⟩
            have HVE := Lib.hid hve
            clear hc kx c2 hve hh htk hgm HLK
            go_wp2
            refine wp_region_ord [12] (n := 13) (listed := #[false, false, false, false, false, false, false, false, false, false, false, false, false]) (by kernel_rfl) rfl rfl ?_
            ((refine wpK_read (fuel := 12) (listed' := #[true, false, false, false, false, false, false, false, false, false, false, false, false]) 0 (by first | exact regrown_first _ _ | exact regrown_self _) rfl (by kernel_rfl) rfl ?_; (first | go_big_quiet_step (fail) | quiet_step (fail)); refine wpQuiet_nil ?_); (refine wpK_read (fuel := 11) (listed' := #[true, true, false, false, false, false, false, false, false, false, false, false, false]) 1 (by first | exact regrown_first _ _ | exact regrown_self _) rfl (by kernel_rfl) rfl ?_; (first | go_big_quiet_step (fail) | quiet_step (fail)); refine wpQuiet_nil ?_); (refine wpK_read (fuel := 10) (listed' := #[true, true, true, false, false, false, false, false, false, false, false, false, false]) 2 (by first | exact regrown_first _ _ | exact regrown_self _) rfl (by kernel_rfl) rfl ?_; (first | go_big_quiet_step (fail) | quiet_step (fail)); refine wpQuiet_nil ?_); (refine wpK_read (fuel := 9) (listed' := #[true, true, true, true, false, false, false, false, false, false, false, false, false]) 3 (by first | exact regrown_first _ _ | exact regrown_self _) rfl (by kernel_rfl) rfl ?_; (first | go_big_quiet_step (fail) | quiet_step (fail)); refine wpQuiet_nil ?_); (refine wpK_read (fuel := 8) (listed' := #[true, true, true, true, true, false, false, false, false, false, false, false, false]) 4 (by first | exact regrown_first _ _ | exact regrown_self _) rfl (by kernel_rfl) rfl ?_; (first | go_big_quiet_step (fail) | quiet_step (fail)); refine wpQuiet_nil ?_); (refine wpK_read (fuel := 7) (listed' := #[true, true, true, true, true, true, false, false, false, false, false, false, false]) 5 (by first | exact regrown_first _ _ | exact regrown_self _) rfl (by kernel_rfl) rfl ?_; (first | go_big_quiet_step (fail) | quiet_step (fail)); refine wpQuiet_nil ?_); (refine wpK_read (fuel := 6) (listed' := #[true, true, true, true, true, true, true, false, false, false, false, false, false]) 6 (by first | exact regrown_first _ _ | exact regrown_self _) rfl (by kernel_rfl) rfl ?_; (first | go_big_quiet_step (fail) | quiet_step (fail)); refine wpQuiet_nil ?_); (refine wpK_read (fuel := 5) (listed' := #[true, true, true, true, true, true, true, true, false, false, false, false, false]) 7 (by first | exact regrown_first _ _ | exact regrown_self _) rfl (by kernel_rfl) rfl ?_; (first | go_big_quiet_step (fail) | quiet_step (fail)); refine wpQuiet_nil ?_); (refine wpK_read (fuel := 4) (listed' := #[true, true, true, true, true, true, true, true, true, false, false, false, false]) 8 (by first | exact regrown_first _ _ | exact regrown_self _) rfl (by kernel_rfl) rfl ?_; (first | go_big_quiet_step (fail) | quiet_step (fail)); refine wpQuiet_nil ?_))
            refine wpK_one (fuel := 3) (listed' := #[true, true, true, true, true, true, true, true, true, true, false, false, false]) 9 rfl (by kernel_rfl) rfl ?_
            go_wp2_with (go_at_call 40; refine (HVC.out _ (below_redrawn wr _)).mono ?_; rintro e w1 ⟨A1, c1, rfl, ho, hb⟩; have HO1 : Hid (World.ownsRow _ wr.heap.size _ _ _ _ _) := Lib.hid ho; have HB1 := Lib.hid (below2 (below_redrawn wr _) hb); clear ho hb)
            refine ⟨rfl, fun _ _ => regrown_of_below HB1.out, ?_⟩
            ((refine wpK_pure (fuel := 2) (listed' := #[true, true, true, true, true, true, true, true, true, true, true, false, false]) 10 rfl (by kernel_rfl) rfl ?_; (first | go_big_quiet_step (fail) | quiet_step (fail)); refine wpQuiet_nil ?_); (refine wpK_pure (fuel := 1) (listed' := #[true, true, true, true, true, true, true, true, true, true, true, true, false]) 11 rfl (by kernel_rfl) rfl ?_; (first | go_big_quiet_step (fail) | quiet_step (fail)); refine wpQuiet_nil ?_))
            refine wpK_one (fuel := 0) (listed' := #[true, true, true, true, true, true, true, true, true, true, true, true, true]) 12 rfl (by kernel_rfl) rfl ?_
            have j2 := cell_below HB1.out HCC.out
            have f2 := frozen_of_blk (block_below HB1.out HHH.out) (k * 7 + 6)
            go_wp2_with fail
            refine ⟨rfl, fun h => absurd h (by decide), ?_⟩
            refine wpK_end rfl ?_
            go_wp2_with fail
            have hm : Mut (fun x => x = gb) wr (w1.setCell ⟨gb, k * 7 + 6, none⟩ (.slice A1 lk10[k].vN c1)) := Mut.setCell (T := fun x => x = gb) (Mut.of_below HB1.out _) (p := ⟨gb, k * 7 + 6, none⟩) (fun _ => rfl) _
            have hzs := HMm10.out.size
            have hq1 := HGM.out.1
            have hq2 := HGM.out.2
            have hz34 := HZ34.out
            have hsz : w.heap.size + 2 ≤ gb ∧ gb < V3.heap.size := by have := HNS.out; have := HZ1_0.out; have := HZ1_1.out; have := HZ1_2.out; have := HZ1_3.out; have := HZ2_0.out; have := HZ2_1.out; have := HZ3_0.out; have := HZ3_1.out; have := HZ3_2.out; have := HZV1.out; have := HZV2.out; have := HZV3.out; omega
            have hy : VarsR (w1.setCell ⟨gb, k * 7 + 6, none⟩ (.slice A1 lk10[k].vN c1)) (fun x => (S x ∧ x < w.heap.size) ∨ V3.heap.size ≤ x) A1 lk10[k].vN c1 lk10[k].vars := ⟨HVE.out.1, HVE.out.2.1, ((Row.of_own HO1.out).mut (T := fun x => x = gb) (Mut.setCell (T := fun x => x = gb) (Mut.refl _ _) (p := ⟨gb, k * 7 + 6, none⟩) (fun _ => rfl) _) (fun x _ hx e => by have := hx.1; omega)).weaken (fun x _ hx => .inr (by have := hx.1; omega))⟩
            go_roundw
            case rel => exact ⟨k + 1, lk10.set k { lk10[k] with vA := A1, vC := c1 }, by omega, by go_num, Lib.hid (cl_upd lenLst hkl HP10.out.1 hbg HHH.out hnc hcm hcs HTK.out HB1.out (by decide) rfl), Lib.hid ⟨by rw [List.length_set]; exact HP10.out.1, cl_pure HP10.out.2 hkl rfl⟩, Lib.hid (cl_vars ELst.vA ELst.vN ELst.vC ELst.vars HV10.out hm (fun x _ hx e => by rcases hx with hx | hx <;> omega) hy), Lib.hid (Mut.trans HMm10.out hm (fun x _ e => by subst e; simp [Value.ownBlock]))⟩
            case measure => simp [intOf]; omega
        · obtain ⟨V5, rfl⟩ : ∃ X : World, X = wr := ⟨_, rfl⟩
          have HBX5 := Lib.hid (HMm10.out.blk HBX4.out (fun e => by have := HT10.out _ e; omega))
          have HBR5 := Lib.hid (HMm10.out.blk HBR4.out (fun e => by have := HT10.out _ e; omega))
          have HO11b := Lib.hid (own_mut (own_mut HO11.out HMm4.out (fun x hx e => by have := HT4.out _ e; have := HT11.out _ hx; have := HZ3_1.out; omega)) HMm10.out (fun x hx e => by have := HT10.out _ e; have := HT11.out _ hx; omega))
          have HVS11 : Hid (∀ x ∈ g.msgs, VarsR V5 (fun x => (S x ∧ x < w.heap.size) ∨ V3.heap.size ≤ x) x.vA x.vN x.vC x.vars) := Lib.hid (fun x hx => ((((HS.out.vmsg x hx).below (S' := (fun x => (S x ∧ x < w.heap.size) ∨ V3.heap.size ≤ x)) HBW3.out (fun y hy hs => .inl ⟨hs, hy⟩)).mut HMm4.out (fun y _ hs e => by have := HT4.out _ e; rcases hs with hs | hs <;> omega) (fun _ _ h => h)).mut HMm10.out (fun y _ hs e => by have := HT10.out _ e; rcases hs with hs | hs <;> omega) (fun _ _ h => h)))
          have HIS11 : Hid (∀ x ∈ g.msgs, IntsR V5 (fun x => (S x ∧ x < w.heap.size) ∨ V3.heap.size ≤ x) x.iA x.iN x.iC x.insts) := Lib.hid (fun x hx => ((((HS.out.imsg x hx).below (S' := (fun x => (S x ∧ x < w.heap.size) ∨ V3.heap.size ≤ x)) HBW3.out (fun y hy hs => .inl ⟨hs, hy⟩)).mut HMm4.out (fun y _ hs e => by have := HT4.out _ e; rcases hs with hs | hs <;> omega) (fun _ _ h => h)).mut HMm10.out (fun y _ hs e => by have := HT10.out _ e; rcases hs with hs | hs <;> omega) (fun _ _ h => h)))
          have HZ35 : Hid (V3.heap.size ≤ V5.heap.size) := Lib.hid (Nat.le_trans HZ34.out HMm10.out.size)
          have kx := HBX5.out
          have x11 := cell_of_blk kx 11
          clear kx
          go_wp2
          clear x11
          go_loopw [5, 83] (fun _ i wr => ∃ (k : Nat) (lk : List EMsg), k ≤ n11 ∧ i = .int .i64 k ∧ Hid (wr.ownsRow w3_1.heap.size 87 7 (.slice B11 n11 d11) n11 (lk.flatMap encMsg)) ∧ Hid (lk.length = n11 ∧ lk.map pureMsg = g.msgs.map pureMsg) ∧ Hid (∀ x ∈ lk, VarsR wr (fun x => (S x ∧ x < w.heap.size) ∨ V3.heap.size ≤ x) x.vA x.vN x.vC x.vars ∧ IntsR wr (fun x => (S x ∧ x < w.heap.size) ∨ V3.heap.size ≤ x) x.iA x.iN x.iC x.insts) ∧ Hid (Mut (fun x => (Value.slice B11 n11 d11).ownBlock = some x) V5 wr)) (fun _ i _ => n11 - (intOf i).toNat)
          case atStart => exact ⟨0, g.msgs, Nat.zero_le _, rfl, HO11b, Lib.hid ⟨HS.out.msgs.1, rfl⟩, Lib.hid (fun x hx => ⟨HVS11.out x hx, HIS11.out x hx⟩), Lib.hid (Mut.refl _ _)⟩
          case round =>
            obtain ⟨k, lk11, hk, rfl, HR11, HP11, HV11, HMm11⟩ := hrel
            have hnf : n11 ≤ 140737488355328 := by have h1 := HS.out.msgs.1; have h2 := HF.out; simp only at h1; unfold GSt.fits at h2; omega
            by_cases hlt : k < n11
            · as_aux_lemma =>
                obtain ⟨gb, cap, cur, hv, hbg, hh, hnc, hcm, hcs, htk⟩ := own_some HR11.out (by omega)
                injection hv with hv1 _ hv3
                subst hv1 hv3
                have hkl : k < lk11.length := by rw [HP11.out.1]; exact hlt
                have hgm := HT11.out gb (by simp [Value.ownBlock])
                have kx := HMm11.out.blk HBX5.out (by simp [Value.ownBlock]; omega)
                have x11 := cell_of_blk kx 11
                obtain ⟨B0, O0, hA0, _, hc⟩ := ListR.elem (K := 7) (enc := encMsg) ⟨HP11.out.1, Row.of_own HR11.out⟩ lenMsg (by omega)
                injection hA0 with hA0
                injection hA0 with hA1 hA2
                subst hA1 hA2
                have c5 := hc k hkl 5 _ rfl
                have c6 := hc k hkl 6 _ rfl
                rw [Nat.zero_add] at c5 c6
                have HCL : Hid (∀ t, clC w.heap.size gb (k * 7 + 5) (k * 7 + 6) (.slice (some ⟨gb, 0, none⟩) n11 d11) (.slice lk11[k].vA lk11[k].vN lk11[k].vC) (.slice lk11[k].iA lk11[k].iN lk11[k].iC) t (redrawn wr (wr.drawn + 1))) := Lib.hid (fun t => clC_below (below_redrawn wr _) t (by cases t; exact ⟨c5, c6⟩; exact x11))
                have hve := HV11.out lk11[k] (List.getElem_mem _)
                have hil : lk11[k].insts.length * 8 ≤ 140737488355328 := cl_msgs (P := fun x => x.insts.length * 8 ≤ 140737488355328) HP11.out.2 HI.out lk11[k] (List.getElem_mem _)
                have HVC := Lib.hid (fun (W : World) (hb : Below wr.heap.size wr W) => vars_c lk11[k].vA lk11[k].vN lk11[k].vC lk11[k].vars W _ hve.1.1 hve.1.2.1 (hve.1.2.2.below hb))
                have HUC := Lib.hid (fun (W : World) (hb : Below wr.heap.size wr W) => clone_U64 lk11[k].iA lk11[k].iN lk11[k].iC lk11[k].insts W _ hve.2.1 (by rw [← hve.2.1]; exact hil) (hve.2.2.below hb))
                have HHH := Lib.hid hh
                have HTK := Lib.hid htk
                have HGM := Lib.hid (And.intro hgm (lt_of_blk hh))
                have HVE := Lib.hid hve
                have HBG := Lib.hid hbg
                have HC5 := Lib.hid c5
                have HC6 := Lib.hid c6
                have HNE : Hid (w.heap.size ≠ gb) := Lib.hid (by omega)
                clear hc kx x11 c5 c6 hve hh htk hgm hil hbg
                go_wp2
                refine wp_region_ordM (ι := Bool) (clC w.heap.size gb (k * 7 + 5) (k * 7 + 6) (.slice (some ⟨gb, 0, none⟩) n11 d11) (.slice lk11[k].vA lk11[k].vN lk11[k].vC) (.slice lk11[k].iA lk11[k].iN lk11[k].iC)) (fun t => cond t [] [22, 25]) (n := 26) (listed := #[false, false, false, false, false, false, false, false, false, false, false, false, false, false, false, false, false, false, false, false, false, false, false, false, false, false]) (by kernel_rfl) rfl rfl ?_
                ((refine wpM_pure (fuel := 25) (listed' := #[true, false, false, false, false, false, false, false, false, false, false, false, false, false, false, false, false, false, false, false, false, false, false, false, false, false]) 0 rfl (by kernel_rfl) rfl ?_; (first | go_big_quiet_step (fail) | quiet_step (fail)); refine wpQuiet_nil ?_))
                (refine wpM_read true (fuel := 24) (listed' := #[true, true, false, false, false, false, false, false, false, false, false, false, false, false, false, false, false, false, false, false, false, false, false, false, false, false]) 1 (HCL.out true) rfl (by kernel_rfl) rfl ?_; refine wpQuiet_load _ _ rfl rfl rfl clF_b ?_; refine wpQuiet_nil ?_)
                ((refine wpM_pure (fuel := 23) (listed' := #[true, true, true, false, false, false, false, false, false, false, false, false, false, false, false, false, false, false, false, false, false, false, false, false, false, false]) 2 rfl (by kernel_rfl) rfl ?_; (first | go_big_quiet_step (fail) | quiet_step (fail)); refine wpQuiet_nil ?_); (refine wpM_pure (fuel := 22) (listed' := #[true, true, true, true, false, false, false, false, false, false, false, false, false, false, false, false, false, false, false, false, false, false, false, false, false, false]) 3 rfl (by kernel_rfl) rfl ?_; (first | go_big_quiet_step (fail) | quiet_step (fail)); refine wpQuiet_nil ?_))
                (refine wpM_read true (fuel := 21) (listed' := #[true, true, true, true, true, false, false, false, false, false, false, false, false, false, false, false, false, false, false, false, false, false, false, false, false, false]) 4 (HCL.out true) rfl (by kernel_rfl) rfl ?_; refine wpQuiet_load _ _ rfl rfl rfl clF_b ?_; refine wpQuiet_nil ?_)
                ((refine wpM_pure (fuel := 20) (listed' := #[true, true, true, true, true, true, false, false, false, false, false, false, false, false, false, false, false, false, false, false, false, false, false, false, false, false]) 5 rfl (by kernel_rfl) rfl ?_; (first | go_big_quiet_step (fail) | quiet_step (fail)); refine wpQuiet_nil ?_); (refine wpM_pure (fuel := 19) (listed' := #[true, true, true, true, true, true, true, false, false, false, false, false, false, false, false, false, false, false, false, false, false, false, false, false, false, false]) 6 rfl (by kernel_rfl) rfl ?_; (first | go_big_quiet_step (fail) | quiet_step (fail)); refine wpQuiet_nil ?_))
                (refine wpM_read true (fuel := 18) (listed' := #[true, true, true, true, true, true, true, true, false, false, false, false, false, false, false, false, false, false, false, false, false, false, false, false, false, false]) 7 (HCL.out true) rfl (by kernel_rfl) rfl ?_; refine wpQuiet_load _ _ rfl rfl rfl clF_b ?_; refine wpQuiet_nil ?_)
                ((refine wpM_pure (fuel := 17) (listed' := #[true, true, true, true, true, true, true, true, true, false, false, false, false, false, false, false, false, false, false, false, false, false, false, false, false, false]) 8 rfl (by kernel_rfl) rfl ?_; (first | go_big_quiet_step (fail) | quiet_step (fail)); refine wpQuiet_nil ?_); (refine wpM_pure (fuel := 16) (listed' := #[true, true, true, true, true, true, true, true, true, true, false, false, false, false, false, false, false, false, false, false, false, false, false, false, false, false]) 9 rfl (by kernel_rfl) rfl ?_; (first | go_big_quiet_step (fail) | quiet_step (fail)); refine wpQuiet_nil ?_); (refine wpM_pure (fuel := 15) (listed' := #[true, true, true, true, true, true, true, true, true, true, true, false, false, false, false, false, false, false, false, false, false, false, false, false, false, false]) 10 rfl (by kernel_rfl) rfl ?_; (first | go_big_quiet_step (fail) | quiet_step (fail)); refine wpQuiet_nil ?_))
                (refine wpM_read false (fuel := 14) (listed' := #[true, true, true, true, true, true, true, true, true, true, true, true, false, false, false, false, false, false, false, false, false, false, false, false, false, false]) 11 (HCL.out false) rfl (by kernel_rfl) rfl ?_; refine wpQuiet_load _ _ rfl rfl rfl clF_v ?_; refine wpQuiet_nil ?_)
                ((refine wpM_pure (fuel := 13) (listed' := #[true, true, true, true, true, true, true, true, true, true, true, true, false, true, false, false, false, false, false, false, false, false, false, false, false, false]) 13 rfl (by kernel_rfl) rfl ?_; (first | go_big_quiet_step (fail) | quiet_step (fail)); refine wpQuiet_nil ?_))
                (refine wpM_read true (fuel := 12) (listed' := #[true, true, true, true, true, true, true, true, true, true, true, true, false, true, true, false, false, false, false, false, false, false, false, false, false, false]) 14 (HCL.out true) rfl (by kernel_rfl) rfl ?_; refine wpQuiet_load _ _ rfl rfl rfl clF_b ?_; refine wpQuiet_nil ?_)
                ((refine wpM_pure (fuel := 11) (listed' := #[true, true, true, true, true, true, true, true, true, true, true, true, false, true, true, true, false, false, false, false, false, false, false, false, false, false]) 15 rfl (by kernel_rfl) rfl ?_; (first | go_big_quiet_step (fail) | quiet_step (fail)); refine wpQuiet_nil ?_); (refine wpM_pure (fuel := 10) (listed' := #[true, true, true, true, true, true, true, true, true, true, true, true, false, true, true, true, true, false, false, false, false, false, false, false, false, false]) 16 rfl (by kernel_rfl) rfl ?_; (first | go_big_quiet_step (fail) | quiet_step (fail)); refine wpQuiet_nil ?_); (refine wpM_pure (fuel := 9) (listed' := #[true, true, true, true, true, true, true, true, true, true, true, true, false, true, true, true, true, true, false, false, false, false, false, false, false, false]) 17 rfl (by kernel_rfl) rfl ?_; (first | go_big_quiet_step (fail) | quiet_step (fail)); refine wpQuiet_nil ?_))
                (refine wpM_read false (fuel := 8) (listed' := #[true, true, true, true, true, true, true, true, true, true, true, true, false, true, true, true, true, true, true, false, false, false, false, false, false, false]) 18 (HCL.out false) rfl (by kernel_rfl) rfl ?_; refine wpQuiet_load _ _ rfl rfl rfl clF_i ?_; refine wpQuiet_nil ?_)
                refine wpM_one (fuel := 7) (listed' := #[true, true, true, true, true, true, true, true, true, true, true, true, true, true, true, true, true, true, true, false, false, false, false, false, false, false]) 12 rfl (by kernel_rfl) rfl ?_
                go_wp2_with (go_at_call 40; refine (HVC.out _ (below_redrawn wr _)).mono ?_; rintro e w1 ⟨A1, c1, rfl, ho, hb⟩; have HO1 : Hid (World.ownsRow _ wr.heap.size _ _ _ _ _) := Lib.hid ho; have HB0 := Lib.hid hb; have HB1 := Lib.hid (below2 (below_redrawn wr _) hb); clear ho hb)
                refine ⟨rfl, fun t _ h => clC_below HB0.out t h, ?_⟩
                refine wpM_one (fuel := 6) (listed' := #[true, true, true, true, true, true, true, true, true, true, true, true, true, true, true, true, true, true, true, true, false, false, false, false, false, false]) 19 rfl (by kernel_rfl) rfl ?_
                go_wp2_with (go_at_call 41; refine (HUC.out _ HB1.out).mono ?_; rintro e w2 ⟨A2, c2, rfl, ho, hb⟩; have HO2 : Hid (World.ownsRow _ w1.heap.size _ _ _ _ _) := Lib.hid ho; have HB3 := Lib.hid hb; have HB2 := Lib.hid (below2 HB1.out hb); clear ho hb)
                refine ⟨rfl, fun t _ h => clC_below HB3.out t h, ?_⟩
                ((refine wpM_pure (fuel := 5) (listed' := #[true, true, true, true, true, true, true, true, true, true, true, true, true, true, true, true, true, true, true, true, true, false, false, false, false, false]) 20 rfl (by kernel_rfl) rfl ?_; (first | go_big_quiet_step (fail) | quiet_step (fail)); refine wpQuiet_nil ?_); (refine wpM_pure (fuel := 4) (listed' := #[true, true, true, true, true, true, true, true, true, true, true, true, true, true, true, true, true, true, true, true, true, true, false, false, false, false]) 21 rfl (by kernel_rfl) rfl ?_; (first | go_big_quiet_step (fail) | quiet_step (fail)); refine wpQuiet_nil ?_))
                have j5 := cell_below HB2.out (show wr.cell? ⟨gb, k * 7 + 5, none⟩ = _ from HC5.out)
                have j6 := cell_below HB2.out (show wr.cell? ⟨gb, k * 7 + 6, none⟩ = _ from HC6.out)
                have f5 := frozen_of_blk (block_below HB2.out HHH.out) (k * 7 + 5)
                have f6 := frozen_of_blk (block_below HB2.out HHH.out) (k * 7 + 6)
                refine wpM_one (fuel := 3) (listed' := #[true, true, true, true, true, true, true, true, true, true, true, true, true, true, true, true, true, true, true, true, true, true, true, false, false, false]) 22 rfl (by kernel_rfl) rfl ?_
                go_wp2_with fail
                refine ⟨rfl, fun t ht h => (by cases t; exact absurd ht (by decide); exact clC_store HNE.out _ _ h), ?_⟩
                ((refine wpM_pure (fuel := 2) (listed' := #[true, true, true, true, true, true, true, true, true, true, true, true, true, true, true, true, true, true, true, true, true, true, true, true, false, false]) 23 rfl (by kernel_rfl) rfl ?_; (first | go_big_quiet_step (fail) | quiet_step (fail)); refine wpQuiet_nil ?_); (refine wpM_pure (fuel := 1) (listed' := #[true, true, true, true, true, true, true, true, true, true, true, true, true, true, true, true, true, true, true, true, true, true, true, true, true, false]) 24 rfl (by kernel_rfl) rfl ?_; (first | go_big_quiet_step (fail) | quiet_step (fail)); refine wpQuiet_nil ?_))
                refine wpM_one (fuel := 0) (listed' := #[true, true, true, true, true, true, true, true, true, true, true, true, true, true, true, true, true, true, true, true, true, true, true, true, true, true]) 25 rfl (by kernel_rfl) rfl ?_
                go_wp2_with fail
                refine ⟨rfl, fun t ht h => (by cases t; exact absurd ht (by decide); exact clC_store HNE.out _ _ h), ?_⟩
                refine wpM_end rfl ?_
                go_wp2_with fail
                have hm : Mut (fun x => x = gb) wr ((w2.setCell ⟨gb, k * 7 + 5, none⟩ (.slice A1 lk11[k].vN c1)).setCell ⟨gb, k * 7 + 6, none⟩ (.slice A2 lk11[k].iN c2)) := Mut.setCell (T := fun x => x = gb) (Mut.setCell (T := fun x => x = gb) (Mut.of_below HB2.out _) (p := ⟨gb, k * 7 + 5, none⟩) (fun _ => rfl) _) (p := ⟨gb, k * 7 + 6, none⟩) (fun _ => rfl) _
                have hm2 : Mut (fun x => x = gb) w2 ((w2.setCell ⟨gb, k * 7 + 5, none⟩ (.slice A1 lk11[k].vN c1)).setCell ⟨gb, k * 7 + 6, none⟩ (.slice A2 lk11[k].iN c2)) := Mut.setCell (T := fun x => x = gb) (Mut.setCell (T := fun x => x = gb) (Mut.refl _ _) (p := ⟨gb, k * 7 + 5, none⟩) (fun _ => rfl) _) (p := ⟨gb, k * 7 + 6, none⟩) (fun _ => rfl) _
                have hzs := HMm11.out.size
                have hq1 := HGM.out.1
                have hq2 := HGM.out.2
                have hz35 := HZ35.out
                have hb1s := HB1.out.size
                have hb3s := HB3.out.size
                have hy1 : VarsR ((w2.setCell ⟨gb, k * 7 + 5, none⟩ (.slice A1 lk11[k].vN c1)).setCell ⟨gb, k * 7 + 6, none⟩ (.slice A2 lk11[k].iN c2)) (fun x => (S x ∧ x < w.heap.size) ∨ V3.heap.size ≤ x) A1 lk11[k].vN c1 lk11[k].vars := ⟨HVE.out.1.1, HVE.out.1.2.1, (((Row.of_own HO1.out).below HB3.out).mut hm2 (fun x _ hx e => by have := hx.1; omega)).weaken (fun x _ hx => .inr (by have := hx.1; omega))⟩
                have hy2 : IntsR ((w2.setCell ⟨gb, k * 7 + 5, none⟩ (.slice A1 lk11[k].vN c1)).setCell ⟨gb, k * 7 + 6, none⟩ (.slice A2 lk11[k].iN c2)) (fun x => (S x ∧ x < w.heap.size) ∨ V3.heap.size ≤ x) A2 lk11[k].iN c2 lk11[k].insts := ⟨HVE.out.2.1, ((Row.of_own HO2.out).mut hm2 (fun x _ hx e => by have := hx.1; omega)).weaken (fun x _ hx => .inr (by have := hx.1; omega))⟩
                go_roundw
                case rel => exact ⟨k + 1, lk11.set k { lk11[k] with vA := A1, vC := c1, iA := A2, iC := c2 }, by omega, by go_num, Lib.hid (cl_upd2 lenMsg hkl HP11.out.1 HBG.out HHH.out hnc hcm hcs HTK.out HB2.out (by decide) (by decide) rfl), Lib.hid ⟨by rw [List.length_set]; exact HP11.out.1, cl_pure HP11.out.2 hkl rfl⟩, Lib.hid (cl_msg HV11.out hm (fun x _ hx e => by rcases hx with hx | hx <;> omega) ⟨hy1, hy2⟩), Lib.hid (Mut.trans HMm11.out hm (fun x _ e => by subst e; simp [Value.ownBlock]))⟩
                case measure => simp [intOf]; omega
            · obtain ⟨V6, rfl⟩ : ∃ X : World, X = wr := ⟨_, rfl⟩
              have HBX6 := Lib.hid (HMm11.out.blk HBX5.out (fun e => by have := HT11.out _ e; omega))
              have HBR6 := Lib.hid (HMm11.out.blk HBR5.out (fun e => by have := HT11.out _ e; omega))
              go_wp2_with (first | (refine wpList_load_box _ _ rfl rfl rfl clSt HBX6.out rfl ?_) | (refine wpList_store_box _ _ _ rfl rfl rfl rfl clSt HBR6.out rfl rfl (by simp [Value.oneCell']) ?_; intro V7 hV7 hM7; have HV7 := Lib.hid hV7; have HM7 := Lib.hid hM7; clear hV7 hM7))
              have HV7b := HV7.out
              have HM7b := HM7.out
              have s0 := cell_of_blk HV7b 0
              have s1 := cell_of_blk HV7b 1
              have s2 := cell_of_blk HV7b 2
              have s3 := cell_of_blk HV7b 3
              have s4 := cell_of_blk HV7b 4
              have s5 := cell_of_blk HV7b 5
              have s6 := cell_of_blk HV7b 6
              have s7 := cell_of_blk HV7b 7
              have s8 := cell_of_blk HV7b 8
              have s9 := cell_of_blk HV7b 9
              have s10 := cell_of_blk HV7b 10
              have s11 := cell_of_blk HV7b 11
              have zz : w.heap.size + 2 = N.heap.size := HNS.out.symm
              have y0 := HZ1_0.out
              have y1 := HZ1_1.out
              have y2 := HZ1_2.out
              have y3 := HZ1_3.out
              have y4 := HZ2_0.out
              have y5 := HZ2_1.out
              have y6 := HZ3_0.out
              have y7 := HZ3_1.out
              have y8 := HZ3_2.out
              have y9 := HZV1.out
              have y10 := HZV2.out
              have y11 := HZV3.out
              have HMC : Mut (fun x => (Value.slice B11 n11 d11).ownBlock = some x ∨ x = w.heap.size + 1) V5 V7 := Mut.trans (HMm11.out.mono (fun x _ h => .inl h)) HM7b (fun x _ h => .inr h)
              have HMB : Mut (fun x => (Value.slice B10 n10 d10).ownBlock = some x ∨ (Value.slice B11 n11 d11).ownBlock = some x ∨ x = w.heap.size + 1) V4 V7 := Mut.trans (HMm10.out.mono (fun x _ h => .inl h)) HMC (fun x _ h => .inr h)
              have HMA : Mut (fun x => (Value.slice B4 n4 d4).ownBlock = some x ∨ (Value.slice B10 n10 d10).ownBlock = some x ∨ (Value.slice B11 n11 d11).ownBlock = some x ∨ x = w.heap.size + 1) V3 V7 := Mut.trans (HMm4.out.mono (fun x _ h => .inl h)) HMB (fun x _ h => .inr h)
              have r3 : ∀ x, (Value.slice B3 n3 d3).ownBlock = some x → ¬ (fun x => (Value.slice B4 n4 d4).ownBlock = some x ∨ (Value.slice B10 n10 d10).ownBlock = some x ∨ (Value.slice B11 n11 d11).ownBlock = some x ∨ x = w.heap.size + 1) x := by
                intro x hx ht
                have a := HL3.out x hx
                rcases ht with ht | ht | ht | ht
                · have c := HL4.out x ht; omega
                · have c := HL10.out x ht; omega
                · have c := HL11.out x ht; omega
                · omega
              have r4 : ∀ x, (Value.slice B4 n4 d4).ownBlock = some x → ¬ (fun x => (Value.slice B10 n10 d10).ownBlock = some x ∨ (Value.slice B11 n11 d11).ownBlock = some x ∨ x = w.heap.size + 1) x := by
                intro x hx ht
                have a := HL4.out x hx
                rcases ht with ht | ht | ht
                · have c := HL10.out x ht; omega
                · have c := HL11.out x ht; omega
                · omega
              have r5 : ∀ x, (Value.slice B5 n5 d5).ownBlock = some x → ¬ (fun x => (Value.slice B4 n4 d4).ownBlock = some x ∨ (Value.slice B10 n10 d10).ownBlock = some x ∨ (Value.slice B11 n11 d11).ownBlock = some x ∨ x = w.heap.size + 1) x := by
                intro x hx ht
                have a := HL5.out x hx
                rcases ht with ht | ht | ht | ht
                · have c := HL4.out x ht; omega
                · have c := HL10.out x ht; omega
                · have c := HL11.out x ht; omega
                · omega
              have r6 : ∀ x, (Value.slice B6 n6 d6).ownBlock = some x → ¬ (fun x => (Value.slice B4 n4 d4).ownBlock = some x ∨ (Value.slice B10 n10 d10).ownBlock = some x ∨ (Value.slice B11 n11 d11).ownBlock = some x ∨ x = w.heap.size + 1) x := by
                intro x hx ht
                have a := HL6.out x hx
                rcases ht with ht | ht | ht | ht
                · have c := HL4.out x ht; omega
                · have c := HL10.out x ht; omega
                · have c := HL11.out x ht; omega
                · omega
              have r7 : ∀ x, (Value.slice B7 n7 d7).ownBlock = some x → ¬ (fun x => (Value.slice B4 n4 d4).ownBlock = some x ∨ (Value.slice B10 n10 d10).ownBlock = some x ∨ (Value.slice B11 n11 d11).ownBlock = some x ∨ x = w.heap.size + 1) x := by
                intro x hx ht
                have a := HL7.out x hx
                rcases ht with ht | ht | ht | ht
                · have c := HL4.out x ht; omega
                · have c := HL10.out x ht; omega
                · have c := HL11.out x ht; omega
                · omega
              have r8 : ∀ x, (Value.slice B8 n8 d8).ownBlock = some x → ¬ (fun x => (Value.slice B4 n4 d4).ownBlock = some x ∨ (Value.slice B10 n10 d10).ownBlock = some x ∨ (Value.slice B11 n11 d11).ownBlock = some x ∨ x = w.heap.size + 1) x := by
                intro x hx ht
                have a := HL8.out x hx
                rcases ht with ht | ht | ht | ht
                · have c := HL4.out x ht; omega
                · have c := HL10.out x ht; omega
                · have c := HL11.out x ht; omega
                · omega
              have r9 : ∀ x, (Value.slice B9 n9 d9).ownBlock = some x → ¬ (fun x => (Value.slice B4 n4 d4).ownBlock = some x ∨ (Value.slice B10 n10 d10).ownBlock = some x ∨ (Value.slice B11 n11 d11).ownBlock = some x ∨ x = w.heap.size + 1) x := by
                intro x hx ht
                have a := HL9.out x hx
                rcases ht with ht | ht | ht | ht
                · have c := HL4.out x ht; omega
                · have c := HL10.out x ht; omega
                · have c := HL11.out x ht; omega
                · omega
              have r10 : ∀ x, (Value.slice B10 n10 d10).ownBlock = some x → ¬ (fun x => (Value.slice B11 n11 d11).ownBlock = some x ∨ x = w.heap.size + 1) x := by
                intro x hx ht
                have a := HL10.out x hx
                rcases ht with ht | ht
                · have c := HL11.out x ht; omega
                · omega
              have r11 : ∀ x, (Value.slice B11 n11 d11).ownBlock = some x → ¬ (fun x => x = w.heap.size + 1) x := by
                intro x hx ht
                have a := HL11.out x hx
                have ht : x = w.heap.size + 1 := ht
                omega
              have q4 : ∀ y, y < V4.heap.size → (fun x => (S x ∧ x < w.heap.size) ∨ V3.heap.size ≤ x) y → ¬ (fun x => (Value.slice B10 n10 d10).ownBlock = some x ∨ (Value.slice B11 n11 d11).ownBlock = some x ∨ x = w.heap.size + 1) y := by
                intro y _ hs ht
                have hs2 : y < w.heap.size ∨ V3.heap.size ≤ y := hs.elim (fun h => .inl h.2) .inr
                rcases ht with ht | ht | ht
                · have c := HL10.out y ht; omega
                · have c := HL11.out y ht; omega
                · omega
              have q10 : ∀ y, y < V5.heap.size → (fun x => (S x ∧ x < w.heap.size) ∨ V3.heap.size ≤ x) y → ¬ (fun x => (Value.slice B11 n11 d11).ownBlock = some x ∨ x = w.heap.size + 1) y := by
                intro y _ hs ht
                have hs2 : y < w.heap.size ∨ V3.heap.size ≤ y := hs.elim (fun h => .inl h.2) .inr
                rcases ht with ht | ht
                · have c := HL11.out y ht; omega
                · omega
              have q11 : ∀ y, y < V6.heap.size → (fun x => (S x ∧ x < w.heap.size) ∨ V3.heap.size ≤ x) y → ¬ (fun x => x = w.heap.size + 1) y := by
                intro y _ hs ht
                have hs2 : y < w.heap.size ∨ V3.heap.size ≤ y := hs.elim (fun h => .inl h.2) .inr
                have ht : y = w.heap.size + 1 := ht
                omega
              have HST : StR V7 (fun x => S x ∨ w.heap.size ≤ x) ⟨P, D, M, B3, n3, d3, B4, n4, d4, B5, n5, d5, B6, n6, d6, B7, n7, d7, B8, n8, d8, B9, n9, d9, B10, n10, d10, B11, n11, d11⟩ { g with insts := lk4, listed := lk10, msgs := lk11 } := ⟨HS.out.pos, HS.out.done, HS.out.made, ⟨HS.out.procs.1, (Row.of_own (own_mut HO3.out HMA r3)).weaken (fun x _ hx => .inr (by have := hx.1; omega))⟩, ⟨HP4.out.1, (Row.of_own (own_mut HR4.out HMB r4)).weaken (fun x _ hx => .inr (by have := hx.1; omega))⟩, ⟨HS.out.tokens.1, (Row.of_own (own_mut HO5.out HMA r5)).weaken (fun x _ hx => .inr (by have := hx.1; omega))⟩, ⟨HS.out.jobs.1, (Row.of_own (own_mut HO6.out HMA r6)).weaken (fun x _ hx => .inr (by have := hx.1; omega))⟩, ⟨HS.out.timers.1, (Row.of_own (own_mut HO7.out HMA r7)).weaken (fun x _ hx => .inr (by have := hx.1; omega))⟩, ⟨HS.out.subs.1, (Row.of_own (own_mut HO8.out HMA r8)).weaken (fun x _ hx => .inr (by have := hx.1; omega))⟩, ⟨HS.out.kept.1, (Row.of_own (own_mut HO9.out HMA r9)).weaken (fun x _ hx => .inr (by have := hx.1; omega))⟩, ⟨HP10.out.1, (Row.of_own (own_mut HR10.out HMC r10)).weaken (fun x _ hx => .inr (by have := hx.1; omega))⟩, ⟨HP11.out.1, (Row.of_own (own_mut HR11.out HM7b r11)).weaken (fun x _ hx => .inr (by have := hx.1; omega))⟩, fun x hx => (HV4.out x hx).mut HMB q4 (fun y _ hs => hs.elim (fun h => .inl h.1) (fun h => .inr (by omega))), fun x hx => (HV10.out x hx).mut HMC q10 (fun y _ hs => hs.elim (fun h => .inl h.1) (fun h => .inr (by omega))), fun x hx => (HV11.out x hx).1.mut HM7b q11 (fun y _ hs => hs.elim (fun h => .inl h.1) (fun h => .inr (by omega))), fun x hx => (HV11.out x hx).2.mut HM7b q11 (fun y _ hs => hs.elim (fun h => .inl h.1) (fun h => .inr (by omega)))⟩
              have HPU : ({ g with insts := lk4, listed := lk10, msgs := lk11 } : GSt).pure = g.pure := by simp only [GSt.pure, HP4.out.2, HP10.out.2, HP11.out.2]
              have HBE : Below w.heap.size w V7 := by
                refine below_of_mut HBW3.out HBW3.out.size HMA ?_
                intro x ht
                rcases ht with ht | ht | ht | ht
                · have c := HL4.out x ht; omega
                · have c := HL10.out x ht; omega
                · have c := HL11.out x ht; omega
                · omega
              exact bodyPost_ret (v := .agg #[.int .u64 P, .int .u64 D, .int .u64 M, .slice B3 n3 d3, .slice B4 n4 d4, .slice B5 n5 d5, .slice B6 n6 d6, .slice B7 n7 d7, .slice B8 n8 d8, .slice B9 n9 d9, .slice B10 n10 d10, .slice B11 n11 d11]) (by simp [results, Tryz.results22, go_sem, s0, s1, s2, s3, s4, s5, s6, s7, s8, s9, s10, s11]) rfl ⟨⟨P, D, M, B3, n3, d3, B4, n4, d4, B5, n5, d5, B6, n6, d6, B7, n7, d7, B8, n8, d8, B9, n9, d9, B10, n10, d10, B11, n11, d11⟩, _, rfl, HST, HPU, HBE⟩
end Go.Proofs.YtfjdllpacdobdaaGreat
/-
  fold.Apply of a record of one kind. Printed by gfold23.py.
-/
set_option linter.unusedVariables false
set_option linter.unusedSimpArgs false
namespace Go.Proofs.YtfjdllpacdobdaaGreat
open Go Go.RowKit Go.Proofs.Base
open Go.Sort (grow)
section
variable {w : World} {S : Nat → Prop} {v : StV} {g : GSt} {r : GRec} {vA : Option Addr} {vN vC : Nat}
theorem ap_k7 (pos : Int) (hst : StR w S v g) (hv : VarsR w S vA vN vC r.vars) (hc : r.cls = 2) (hk : r.kind = 7) (hf : g.fits) :
    Calls Tryz.prog 44 #[.agg v.vals, .int .u64 pos, .agg #[.int .i64 r.cls, .int .i64 r.kind, .int .u64 r.frm, .int .i64 r.time, .int .u64 r.key, .int .u64 r.key2, .int .u64 r.key3, .int .i64 r.n, .int .i64 r.m, .string r.a, .string r.b, .string r.c, .slice vA vN vC]] w (Applied w S pos r g) := by
  refine apply_ev pos hst hv (by rw [hk]; unfold i64; omega) hc 56 (by rw [hk]; rfl) (enters_of Tryz.func56 (by kernel_rfl) rfl) (fun W v2 g2 hs2 hv2 hg2 => ?_)
  refine (u_taken W _ v2 g2 r vA vN vC hs2 hv2 (by subst hg2; exact hf)).mono ?_
  rintro e w' ⟨v', g', he, hs, hp, hb⟩
  refine ⟨v', g', he, hs, ?_, hb⟩
  rw [hp]
  unfold evP
  simp [hk]
theorem ap_k8 (pos : Int) (hst : StR w S v g) (hv : VarsR w S vA vN vC r.vars) (hc : r.cls = 2) (hk : r.kind = 8) (hf : g.fits) :
    Calls Tryz.prog 44 #[.agg v.vals, .int .u64 pos, .agg #[.int .i64 r.cls, .int .i64 r.kind, .int .u64 r.frm, .int .i64 r.time, .int .u64 r.key, .int .u64 r.key2, .int .u64 r.key3, .int .i64 r.n, .int .i64 r.m, .string r.a, .string r.b, .string r.c, .slice vA vN vC]] w (Applied w S pos r g) := by
  refine apply_ev pos hst hv (by rw [hk]; unfold i64; omega) hc 57 (by rw [hk]; rfl) (enters_of Tryz.func57 (by kernel_rfl) rfl) (fun W v2 g2 hs2 hv2 hg2 => ?_)
  refine (u_back W _ v2 g2 r vA vN vC hs2 hv2 (by subst hg2; exact hf)).mono ?_
  rintro e w' ⟨v', g', he, hs, hp, hb⟩
  refine ⟨v', g', he, hs, ?_, hb⟩
  rw [hp]
  unfold evP
  simp [hk]
end
end Go.Proofs.YtfjdllpacdobdaaGreat
/-
  A struct stored into a part of a box; classes of worlds by what blocks hold. Nothing of a program.
-/
set_option linter.unusedVariables false
set_option linter.unusedSimpArgs false
namespace Go.Proofs.Base
open Go Go.RowKit
open Go.Sort (grow grow_empty)
def spl : List Value → Array Value → Nat → Array Value
  | [], cur, _ => cur
  | v :: vs, cur, k => spl vs (cur.setIfInBounds k v) (k + 1)
section
variable {P : Program}
theorem setRow_self {w : World} {g : Nat} {cur : Array Value} {t : TypeId} (hg : w.heap[g]? = some (.cells cur t (0, 0))) : w.setRow g cur = w := by
  have h := run_storeCells_from (P := default) g t [] cur.size cur w hg (by simp) (by simp)
  have h2 : Result.ok () w = Result.ok () (w.setRow g (cur.toList.take cur.size ++ []).toArray) := h
  injection h2 with _ h3
  rw [List.take_of_length_le (by simp), List.append_nil, Array.toArray_toList] at h3
  exact h3.symm
theorem run_storeCells_at (g o : Nat) (t : TypeId) : ∀ (vs : List Value) (i : Nat) (cur : Array Value) (w : World), w.heap[g]? = some (.cells cur t (0, 0)) → o + i + vs.length ≤ cur.size → (∀ v ∈ vs, v.oneCell' = true) →
    (storeCells ⟨g, o, none⟩ vs i).run P w = .ok () (w.setRow g (spl vs cur (o + i)))
  | [], i, cur, w, hg, hl, _ => by
    show Result.ok () w = _
    rw [show spl [] cur (o + i) = cur from rfl, setRow_self hg]
  | v :: rest, i, cur, w, hg, hl, h1 => by
    have hi : o + i < cur.size := by simp at hl; omega
    have hcell : w.cell? ⟨g, o + i, none⟩ = some cur[o + i] := by simp [World.cell?, hg, hi]
    have hfro : w.frozen? ⟨g, o + i, none⟩ = false := by simp [World.frozen?, hg]
    have hst : (store ((⟨g, o, none⟩ : Addr).add i) v).run P w = .ok () (w.setRow g (cur.setIfInBounds (o + i) v)) := by
      rw [add_plain, run_store P w _ v _ (h1 v (by simp)), hcell]
      simp [hfro, setCell_eq_setRow w g (o + i) cur t (0, 0) v hg]
    have ih := run_storeCells_at g o t rest (i + 1) (cur.setIfInBounds (o + i) v) (w.setRow g (cur.setIfInBounds (o + i) v)) (setRow_heap w g cur _ t _ hg) (by simp at hl ⊢; omega) (fun x hx => h1 x (by simp [hx]))
    simp only [storeCells, Sem.run_bind, hst, Result.andThen_ok, ih, setRow_setRow, spl, Nat.add_assoc]
theorem run_store_at {w : World} {g o n : Nat} {t ty : TypeId} {cur cells : Array Value} (hT : BoxT P ty n) (hg : w.heap[g]? = some (.cells cur t (0, 0))) (hn : cells.size = n) (ho : o + n ≤ cur.size) (h1 : cells.all (·.oneCell') = true) :
    (storeVar ty ⟨g, o, none⟩ (.agg cells)).run P w = .ok () (w.setRow g (spl cells.toList cur o)) := by
  have h := run_storeCells_at (P := P) g o t cells.toList 0 cur w hg (by simp; omega) (fun v hv => (Array.all_eq_true_iff_forall_mem.1 h1) v (by simpa using hv))
  have hi := hT.size
  cases hq : P.info? ty with
  | none => simp [hq] at hi
  | some i =>
    have hs : cells.size = i.size := by simp [hq] at hi; omega
    simpa [storeVar, sizeOf, typeInfo, hq, Value.cells, hs] using h
theorem wpList_store_at {ops : Array Oper} {rest : List Oper} {o : Oper} {a : Act} {w : World} {Q : Exit → Act → World → Prop} (ty : TypeId) (x y : Operand) {g k n : Nat} {t : TypeId} {cur cells : Array Value} (hgd : o.guard = none) (ho : o.op = .store ty x y)
    (hx : a.eval x = .pointer (some ⟨g, k, none⟩)) (hy : a.eval y = .agg cells) (hT : BoxT P ty n) (hg : w.heap[g]? = some (.cells cur t (0, 0))) (hk : k + n ≤ cur.size) (hn : cells.size = n) (h1 : cells.all (·.oneCell') = true)
    (h : ∀ V : World, V.heap[g]? = some (.cells (spl cells.toList cur k) t (0, 0)) → Mut (fun b => b = g) w V → wpList P ops Q rest (a.put o.dst undef) V) : wpList P ops Q (o :: rest) a w :=
  wpList_plain hgd fun _ hK => by
    unfold Oper.wp execOp
    simp only [ho, hx, hy, Instr.storeAt, Instr.sureAddr, Sem.run_bind, Sem.run_pure, Result.andThen_ok, run_store_at hT hg hn hk h1]
    exact hK _ _ (h _ (row_blk hg) mut_row)
theorem wpList_store_cell {ops : Array Oper} {rest : List Oper} {o : Oper} {a : Act} {w : World} {Q : Exit → Act → World → Prop} (ty : TypeId) (x y : Operand) {g k : Nat} {t : TypeId} {cur : Array Value} {v : Value} (hgd : o.guard = none) (ho : o.op = .store ty x y)
    (hx : a.eval x = .pointer (some ⟨g, k, none⟩)) (hy : a.eval y = v) (hi : (P.info? ty).map (·.size) = some 1) (hc : v.cells = #[v]) (h1 : v.oneCell' = true) (hg : w.heap[g]? = some (.cells cur t (0, 0))) (hk : k < cur.size)
    (h : ∀ V : World, V.heap[g]? = some (.cells (cur.setIfInBounds k v) t (0, 0)) → Mut (fun b => b = g) w V → wpList P ops Q rest (a.put o.dst undef) V) : wpList P ops Q (o :: rest) a w :=
  wpList_plain hgd fun _ hK => by
    have hs : (storeVar ty ⟨g, k, none⟩ v).run P w = .ok () (w.setRow g (cur.setIfInBounds k v)) := by
      have h := run_storeCells_at (P := P) g k t [v] 0 cur w hg (by simp; omega) (fun u hu => by simp at hu; rw [hu]; exact h1)
      cases hq : P.info? ty with
      | none => simp [hq] at hi
      | some i =>
        have hs : 1 = i.size := by simp [hq] at hi; omega
        simpa [storeVar, sizeOf, typeInfo, hq, hc, ← hs, spl] using h
    unfold Oper.wp execOp
    simp only [ho, hx, hy, Instr.storeAt, Instr.sureAddr, Sem.run_bind, Sem.run_pure, Result.andThen_ok, hs]
    exact hK _ _ (h _ (row_blk hg) mut_row)
def blkC (b1 : Nat) (o1 : Obj) (b2 : Nat) (o2 : Obj) (t : Bool) (W : World) : Prop := cond t (W.heap[b1]? = some o1) (W.heap[b2]? = some o2)
theorem blkC_below {b1 b2 : Nat} {o1 o2 : Obj} {W W' : World} (hb : Below W.heap.size W W') (t : Bool) (h : blkC b1 o1 b2 o2 t W) : blkC b1 o1 b2 o2 t W' := by
  cases t
  · exact block_below (w := W) hb h
  · exact block_below (w := W) hb h
theorem blkC_mut1 {b1 b2 : Nat} {o1 o2 : Obj} {T : Nat → Prop} {W W' : World} (hm : Mut T W W') (hn : ¬ T b1) (h : blkC b1 o1 b2 o2 true W) : blkC b1 o1 b2 o2 true W' := hm.blk (b := b1) h hn
theorem blkC_mut2 {b1 b2 : Nat} {o1 o2 : Obj} {T : Nat → Prop} {W W' : World} (hm : Mut T W W') (hn : ¬ T b2) (h : blkC b1 o1 b2 o2 false W) : blkC b1 o1 b2 o2 false W' := hm.blk (b := b2) h hn
theorem blkC_mut {b1 b2 : Nat} {o1 o2 : Obj} {T : Nat → Prop} {W W' : World} (hm : Mut T W W') (hn1 : ¬ T b1) (hn2 : ¬ T b2) (t : Bool) (h : blkC b1 o1 b2 o2 t W) : blkC b1 o1 b2 o2 t W' := by
  cases t
  · exact blkC_mut2 hm hn2 h
  · exact blkC_mut1 hm hn1 h
theorem blkC_at {b1 b2 : Nat} {o1 o2 : Obj} {W : World} (h1 : W.heap[b1]? = some o1) (h2 : W.heap[b2]? = some o2) (t : Bool) : blkC b1 o1 b2 o2 t W := by
  cases t
  · exact h2
  · exact h1
theorem load_cell_of {w : World} {b o : Nat} {cs : Array Value} {t : TypeId} {f : Nat × Nat} {v : Value} {ty : TypeId} {d : TypeDesc} (hu : P.underlying ty = some d) (hn : aggB d = false) (h : w.heap[b]? = some (.cells cs t f)) (hv : cs[o]? = some v) : (loadVar ty ⟨b, o, none⟩).run P w = .ok v w :=
  run_load_cell hu hn ((cell_of_blk h o).trans hv)
end
end Go.Proofs.Base
/-
  flow.Work: what stands in its box; Begin, State, Now, Emit.
-/
set_option linter.unusedVariables false
set_option linter.unusedSimpArgs false
namespace Go.Proofs.YtfjdllpacdobdaaGreat
open Go Go.RowKit Go.Proofs.Base
open Go.Sort (grow)
structure WkP where
  part : Int
  pos : Int
  now : Int
  E : Option Addr
  m : Nat
  c : Nat
  steps : Int
def wkC (v : StV) (p : WkP) : Array Value := #[.int .u64 v.Pp, .int .u64 v.Dd, .int .u64 v.Mm, .slice v.A3 v.n3 v.c3, .slice v.A4 v.n4 v.c4, .slice v.A5 v.n5 v.c5, .slice v.A6 v.n6 v.c6, .slice v.A7 v.n7 v.c7, .slice v.A8 v.n8 v.c8, .slice v.A9 v.n9 v.c9, .slice v.A10 v.n10 v.c10, .slice v.A11 v.n11 v.c11, .int .i64 p.part, .int .u64 p.pos, .int .i64 p.now, .slice p.E p.m p.c, .int .i64 p.steps]
def recC (r : GRec) (vA : Option Addr) (vN vC : Nat) : Array Value := #[.int .i64 r.cls, .int .i64 r.kind, .int .u64 r.frm, .int .i64 r.time, .int .u64 r.key, .int .u64 r.key2, .int .u64 r.key3, .int .i64 r.n, .int .i64 r.m, .string r.a, .string r.b, .string r.c, .slice vA vN vC]
def WkP.T (p : WkP) (b x : Nat) : Prop := x = b ∨ (Value.slice p.E p.m p.c).ownBlock = some x
structure WkB (S : Nat → Prop) (b : Nat) (W : World) (v : StV) (g : GSt) (p : WkP) : Prop where
  box : W.heap[b]? = some (.cells (wkC v p) 75 (0, 0))
  st : StR W S v g
  ev : ∃ xs, W.ownsRow 0 71 13 (.slice p.E p.m p.c) p.m xs
  ne : (Value.slice p.E p.m p.c).ownBlock ≠ some b
  dis : ∀ x, S x → ¬ p.T b x ∧ x < W.heap.size
theorem WkB.lt {S : Nat → Prop} {b : Nat} {W : World} {v : StV} {g : GSt} {p : WkP} (h : WkB S b W v g p) {x : Nat} (hx : p.T b x) : x < W.heap.size := by
  rcases hx with rfl | hx
  · exact lt_of_blk h.box
  · obtain ⟨xs, ho⟩ := h.ev; exact (ho.lt x hx).2
theorem WkB.mut {S T : Nat → Prop} {b : Nat} {W W' : World} {v : StV} {g : GSt} {p : WkP} (h : WkB S b W v g p) (hm : Mut T W W') (hT : ∀ x, T x → ¬ p.T b x ∧ ¬ S x) : WkB S b W' v g p :=
  ⟨hm.blk h.box (fun e => (hT _ e).1 (.inl rfl)), h.st.mut hm (fun x _ hs ht => (hT x ht).2 hs) (fun _ _ h => h), h.ev.imp fun _ ho => own_mut ho hm (fun x hx ht => (hT x ht).1 (.inr hx)), h.ne, fun x hx => ⟨(h.dis x hx).1, Nat.lt_of_lt_of_le (h.dis x hx).2 hm.size⟩⟩
theorem WkB.below {S : Nat → Prop} {b : Nat} {W W' : World} {v : StV} {g : GSt} {p : WkP} (h : WkB S b W v g p) (hb : Below W.heap.size W W') : WkB S b W' v g p :=
  h.mut (Mut.of_below hb (fun _ => False)) (fun _ h => h.elim)
theorem eRecs : ElemT Tryz.prog 62 71 13 144 := ElemT.of (z := .agg #[.int .i64 0, .int .i64 0, .int .u64 0, .int .i64 0, .int .u64 0, .int .u64 0, .int .u64 0, .int .i64 0, .int .i64 0, .string ⟨#[]⟩, .string ⟨#[]⟩, .string ⟨#[]⟩, .slice none 0 0]) Tryz.underlying62 (by kernel_rfl) rfl
theorem wk_load {W : World} {b : Nat} {v : StV} {p : WkP} (h : W.heap[b]? = some (.cells (wkC v p) 75 (0, 0))) : (loadVar 33 ⟨b, 0, none⟩).run Tryz.prog W = .ok (.agg v.vals) W := by
  have h1 := run_load_at (w := W) (g := b) (o := 0) bSt v.vals.toList rfl (fun j u hu => by
    rw [Nat.zero_add, cell_of_blk h]
    have hj : j < 12 := by have := (List.getElem?_eq_some_iff.1 hu).1; exact this
    rw [← hu]
    match j, hj with
    | 0, _ | 1, _ | 2, _ | 3, _ | 4, _ | 5, _ | 6, _ | 7, _ | 8, _ | 9, _ | 10, _ | 11, _ => rfl)
  exact h1
theorem wk_Now {S : Nat → Prop} {b : Nat} {w : World} {v : StV} {g : GSt} {p : WkP} (h : WkB S b w v g p) :
    Calls Tryz.prog 24 #[.pointer (some ⟨b, 0, none⟩)] w fun e w' => e = .returned (.int .i64 p.now) ∧ w = w' := by
  have hc := cell_of_blk h.box 14
  simp only [wkC] at hc
  clear h
  go_enter Tryz.func24, Tryz.ntmps24
  go_wp2
  go_ret
  exact ⟨rfl, rfl⟩
set_option maxRecDepth 100000 in
set_option maxHeartbeats 2000000 in
theorem wk_Begin {S : Nat → Prop} {w : World} {v : StV} {g : GSt} (hs : StR w S v g) (hf : g.fits) (hi : ∀ x ∈ g.msgs, x.insts.length * 8 ≤ 140737488355328) (part pos now : Int) :
    Calls Tryz.prog 10 #[.agg v.vals, .int .i64 part, .int .u64 pos, .int .i64 now] w fun e w' => ∃ b v' g', e = .returned (.pointer (some ⟨b, 0, none⟩)) ∧ w.heap.size ≤ b ∧ WkB (fun x => (S x ∧ x < w.heap.size) ∨ (w.heap.size ≤ x ∧ x < b)) b w' v' g' ⟨part, pos, now, none, 0, 0, 0⟩ ∧ g'.pure = g.pure ∧ Below w.heap.size w w' := by
  have HC := Lib.hid (fun (o : Obj) => c_fClone ((st_inner hs).below (S' := fun x => S x ∧ x < w.heap.size) (below_alloc (Below.refl _ _) o) (fun _ _ h => h)) hf hi)
  have HX := Lib.hid (blk_new (w := w) (o := .cells v.vals 33 (0, 0)))
  clear hs hf hi
  go_enter Tryz.func10, Tryz.ntmps10
  go_wp2_with (refine wpList_load_box _ _ rfl rfl rfl bSt HX.out rfl ?_)
  refine (HC.out _).mono ?_
  rintro e w1 ⟨v', g', rfl, hs, hp, hb⟩
  have hz := hb.size
  rw [World.size_alloc] at hz
  have HS := Lib.hid hs
  have HP := Lib.hid hp
  have HB := Lib.hid (below2 (below_alloc (Below.refl _ _) _) hb)
  have HZ := Lib.hid hz
  clear hs hp hb hz
  obtain ⟨P, D, M, A3, n3, c3, A4, n4, c4, A5, n5, c5, A6, n6, c6, A7, n7, c7, A8, n8, c8, A9, n9, c9, A10, n10, c10, A11, n11, c11⟩ := v'
  simp only [StV.vals]
  go_wp2
  go_ret
  refine ⟨w1.heap.size, ⟨P, D, M, A3, n3, c3, A4, n4, c4, A5, n5, c5, A6, n6, c6, A7, n7, c7, A8, n8, c8, A9, n9, c9, A10, n10, c10, A11, n11, c11⟩, g', rfl, by have := HZ.out; omega, ⟨blk_new _, ?_, ⟨[], own_nil _ _ _ _⟩, (fun h => by cases h), fun x hx => ?_⟩, HP.out, below_alloc HB.out _⟩
  · refine (st_inner HS.out).below (below_alloc (Below.refl _ _) _) (fun x _ hx => ?_)
    obtain ⟨h1 | h1, h2⟩ := hx
    · exact .inl h1
    · rw [World.size_alloc] at h1; exact .inr ⟨by omega, h2⟩
  · rw [World.size_alloc]
    have := HZ.out
    refine ⟨fun h => ?_, by omega⟩
    rcases h with h | h
    · omega
    · cases h
set_option maxRecDepth 100000 in
set_option maxHeartbeats 2000000 in
theorem wk_State {S : Nat → Prop} {b : Nat} {w : World} {v : StV} {g : GSt} {p : WkP} (h : WkB S b w v g p) (hf : g.fits) (hi : ∀ x ∈ g.msgs, x.insts.length * 8 ≤ 140737488355328) :
    Calls Tryz.prog 11 #[.pointer (some ⟨b, 0, none⟩)] w fun e w' => ∃ v' g', e = .returned (.agg v'.vals) ∧ StR w' (fun x => S x ∨ w.heap.size ≤ x) v' g' ∧ g'.pure = g.pure ∧ Below w.heap.size w w' := by
  have HC := Lib.hid (fun (o : Obj) => c_fClone (h.st.below (below_alloc (Below.refl _ _) o) (fun _ _ h => h)) hf hi)
  have HL := Lib.hid (fun (o : Obj) => wk_load (blk_alloc h.box o))
  have HD : Hid (∀ x, S x → x < w.heap.size) := Lib.hid (fun x hx => (h.dis x hx).2)
  clear h hf hi
  go_enter Tryz.func11, Tryz.ntmps11
  go_wp2_with (refine wpList_load_agg _ _ rfl rfl rfl (HL.out _) ?_)
  refine (HC.out _).mono ?_
  rintro e w1 ⟨v', g', rfl, hs, hp, hb⟩
  have hz := hb.size
  rw [World.size_alloc] at hz
  have HB := Lib.hid (block_below hb (heap_alloc_new _ _))
  have HS := Lib.hid hs
  have HP := Lib.hid hp
  have HBE := Lib.hid hb
  clear hs hp hb
  go_wp2_with (refine wpList_store_box _ _ _ rfl rfl rfl rfl bSt HB.out rfl rfl (vals_one _) ?_; intro V hV hM; have HV := Lib.hid hV; have HM := Lib.hid hM; clear hV hM)
  have s0 := cell_of_blk HV.out 0
  have s1 := cell_of_blk HV.out 1
  have s2 := cell_of_blk HV.out 2
  have s3 := cell_of_blk HV.out 3
  have s4 := cell_of_blk HV.out 4
  have s5 := cell_of_blk HV.out 5
  have s6 := cell_of_blk HV.out 6
  have s7 := cell_of_blk HV.out 7
  have s8 := cell_of_blk HV.out 8
  have s9 := cell_of_blk HV.out 9
  have s10 := cell_of_blk HV.out 10
  have s11 := cell_of_blk HV.out 11
  simp only [StV.vals] at s0 s1 s2 s3 s4 s5 s6 s7 s8 s9 s10 s11
  refine bodyPost_ret (v := .agg v'.vals) (by simp [results, Tryz.results11, go_sem, s0, s1, s2, s3, s4, s5, s6, s7, s8, s9, s10, s11, StV.vals]) rfl ⟨v', g', rfl, HS.out.mut HM.out (fun x _ hs e => ?_) (fun x _ hs => ?_), HP.out, ?_⟩
  · rcases hs with hs | hs
    · have := HD.out x hs; omega
    · rw [World.size_alloc] at hs; omega
  · rcases hs with hs | hs
    · exact .inl hs
    · rw [World.size_alloc] at hs; exact .inr (by omega)
  · exact below_of_mut (below2 (below_alloc (Below.refl _ _) _) HBE.out) (Nat.le_trans (Nat.le_succ _) hz) HM.out (fun x e => by omega)
abbrev wkO (v : StV) (p : WkP) : Obj := .cells (wkC v p) 75 (0, 0)
abbrev recO (cs : Array Value) : Obj := .cells cs 71 (0, 0)
section
variable {b b2 : Nat} {v : StV} {p : WkP} {o2 : Obj} {r : GRec} {A : Option Addr} {n c : Nat} {o1 : Obj}
theorem wkF_pos (W : World) (h : blkC b (wkO v p) b2 o2 true W) : (loadVar 22 ⟨b, 13, none⟩).run Tryz.prog W = .ok (.int .u64 p.pos) W := load_cell_of Tryz.underlying22 rfl h rfl
theorem wkF_now (W : World) (h : blkC b (wkO v p) b2 o2 true W) : (loadVar 2 ⟨b, 14, none⟩).run Tryz.prog W = .ok (.int .i64 p.now) W := load_cell_of Tryz.underlying2 rfl h rfl
theorem wkF_ev (W : World) (h : blkC b (wkO v p) b2 o2 true W) : (loadVar 62 ⟨b, 15, none⟩).run Tryz.prog W = .ok (.slice p.E p.m p.c) W := load_cell_of Tryz.underlying62 rfl h rfl
theorem wkF_Pp (W : World) (h : blkC b (wkO v p) b2 o2 true W) : (loadVar 22 ⟨b, 0, none⟩).run Tryz.prog W = .ok (.int .u64 v.Pp) W := load_cell_of Tryz.underlying22 rfl h rfl
theorem wkF_st (W : World) (h : blkC b (wkO v p) b2 o2 true W) : (loadVar 33 ⟨b, 0, none⟩).run Tryz.prog W = .ok (.agg v.vals) W := wk_load h
theorem recF_vars (W : World) (h : blkC b o1 b2 (recO (recC r A n c)) false W) : (loadVar 69 ⟨b2, 12, none⟩).run Tryz.prog W = .ok (.slice A n c) W := load_cell_of Tryz.underlying69 rfl h rfl
theorem recF_all (W : World) (h : blkC b o1 b2 (recO (recC r A n c)) false W) : (loadVar 71 ⟨b2, 0, none⟩).run Tryz.prog W = .ok (.agg #[.int .i64 r.cls, .int .i64 r.kind, .int .u64 r.frm, .int .i64 r.time, .int .u64 r.key, .int .u64 r.key2, .int .u64 r.key3, .int .i64 r.n, .int .i64 r.m, .string r.a, .string r.b, .string r.c, .slice A n c]) W := run_load_box bRec h rfl
end
theorem vars_empty {w w' : World} {S S' : Nat → Prop} {A : Option Addr} {c : Nat} (h : VarsR w S A 0 c []) : VarsR w' S' A 0 c [] := by
  obtain ⟨h1, h2, A', c', hv, k1, k2, k3, k4, k5⟩ := h
  exact ⟨h1, h2, A', c', hv, k1, k2, k3, k4, fun h => absurd h (by omega)⟩
theorem wk_spl (v v' : StV) (p : WkP) : spl v'.vals.toList (wkC v p) 0 = wkC v' p := by
  simp [spl, wkC, StV.vals]
def emR (p : WkP) (r : GRec) : GRec := { r with cls := 2, frm := p.pos, time := p.now }
theorem rec_one (r : GRec) (A : Option Addr) (n c : Nat) : ∀ u ∈ (recC r A n c).toList, u.oneCell' = true := by
  intro u hu
  simp only [recC, List.mem_cons, List.not_mem_nil, or_false] at hu
  rcases hu with rfl | rfl | rfl | rfl | rfl | rfl | rfl | rfl | rfl | rfl | rfl | rfl | rfl <;> rfl
def EmitTo (S : Nat → Prop) (b : Nat) (w : World) (v : StV) (g : GSt) (p : WkP) (r : GRec) (e : Ending) (w' : World) : Prop :=
  (∃ x, e = .returned x) ∧ ∃ S' v' g' p', WkB S' b w' v' g' p' ∧ g'.pure = applyP (IntKind.u64.wrap (g.pos + 1)) (emR p r) g.pure ∧ p'.m = p.m + 1 ∧ p'.part = p.part ∧ p'.pos = p.pos ∧ p'.now = p.now ∧ (∀ x, S' x → S x ∨ w.heap.size ≤ x) ∧ (∀ x, p'.T b x → p.T b x ∨ w.heap.size ≤ x) ∧ Mut (p.T b) w w'
set_option maxRecDepth 100000 in
set_option maxHeartbeats 8000000 in
theorem wk_Emit {S : Nat → Prop} {b : Nat} {w : World} {v : StV} {g : GSt} {p : WkP} (h : WkB S b w v g p) (hm : (p.m + 1) * 144 ≤ 140737488355328) (r : GRec) (hrv : r.vars = [])
    (hA : ∀ (W : World) (A : Option Addr) (c : Nat), StR W S v g → VarsR W S A 0 c (emR p r).vars → Calls Tryz.prog 44 #[.agg v.vals, .int .u64 (IntKind.u64.wrap (v.Pp + 1)), .agg (recC (emR p r) A 0 c)] W (Applied W S (IntKind.u64.wrap (g.pos + 1)) (emR p r) g)) :
    Calls Tryz.prog 25 #[.pointer (some ⟨b, 0, none⟩), .agg (recC r none 0 0)] w (EmitTo S b w v g p r) := by
  have HVC := Lib.hid (fun (W : World) => clone_Var none 0 0 [] W (fun _ => False) rfl (by decide) (Row.nil _ _ _))
  have HBX := Lib.hid h.box
  have HL := Lib.hid (lt_of_blk h.box)
  have HW := Lib.hid h
  have HA := Lib.hid hA
  have HM := Lib.hid hm
  have HRV := Lib.hid hrv
  clear h hA hm hrv
  go_enter Tryz.func25, Tryz.ntmps25
  go_wp2_with fail
  have HN0 : Hid (Below w.heap.size w (w.alloc (recO (recC r none 0 0)))) := Lib.hid (below_alloc (Below.refl _ _) _)
  have HR0 : Hid ((w.alloc (recO (recC r none 0 0))).heap[w.heap.size]? = some (recO (recC r none 0 0))) := Lib.hid (blk_new _)
  have HZ0 : Hid ((w.alloc (recO (recC r none 0 0))).heap.size = w.heap.size + 1) := Lib.hid (World.size_alloc _ _)
  generalize w.alloc (recO (recC r none 0 0)) = N at *
  have HCL : Hid (∀ t, blkC b (wkO v p) w.heap.size (recO (recC r none 0 0)) t (redrawn N (N.drawn + 1))) := Lib.hid (fun t => blkC_below (below_redrawn N _) t (blkC_at (block_below HN0.out HBX.out) HR0.out t))
  refine wp_region_ordM (ι := Bool) (blkC b (wkO v p) w.heap.size (recO (recC r none 0 0))) (fun t => cond t [] [12, 14, 16, 18]) (n := 19) (listed := #[false, false, false, false, false, false, false, false, false, false, false, false, false, false, false, false, false, false, false]) (by kernel_rfl) rfl rfl ?_
  ((refine wpM_pure (fuel := 18) (listed' := #[true, false, false, false, false, false, false, false, false, false, false, false, false, false, false, false, false, false, false]) 0 rfl (by kernel_rfl) rfl ?_; (first | go_big_quiet_step (fail) | quiet_step (fail)); refine wpQuiet_nil ?_); (refine wpM_pure (fuel := 17) (listed' := #[true, true, false, false, false, false, false, false, false, false, false, false, false, false, false, false, false, false, false]) 1 rfl (by kernel_rfl) rfl ?_; (first | go_big_quiet_step (fail) | quiet_step (fail)); refine wpQuiet_nil ?_); (refine wpM_pure (fuel := 16) (listed' := #[true, true, true, false, false, false, false, false, false, false, false, false, false, false, false, false, false, false, false]) 2 rfl (by kernel_rfl) rfl ?_; (first | go_big_quiet_step (fail) | quiet_step (fail)); refine wpQuiet_nil ?_))
  (refine wpM_read true (fuel := 15) (listed' := #[true, true, true, true, false, false, false, false, false, false, false, false, false, false, false, false, false, false, false]) 3 (HCL.out true) rfl (by kernel_rfl) rfl ?_; refine wpQuiet_load _ _ rfl rfl rfl wkF_pos ?_; refine wpQuiet_nil ?_)
  ((refine wpM_pure (fuel := 14) (listed' := #[true, true, true, true, true, false, false, false, false, false, false, false, false, false, false, false, false, false, false]) 4 rfl (by kernel_rfl) rfl ?_; (first | go_big_quiet_step (fail) | quiet_step (fail)); refine wpQuiet_nil ?_); (refine wpM_pure (fuel := 13) (listed' := #[true, true, true, true, true, true, false, false, false, false, false, false, false, false, false, false, false, false, false]) 5 rfl (by kernel_rfl) rfl ?_; (first | go_big_quiet_step (fail) | quiet_step (fail)); refine wpQuiet_nil ?_); (refine wpM_pure (fuel := 12) (listed' := #[true, true, true, true, true, true, true, false, false, false, false, false, false, false, false, false, false, false, false]) 6 rfl (by kernel_rfl) rfl ?_; (first | go_big_quiet_step (fail) | quiet_step (fail)); refine wpQuiet_nil ?_))
  (refine wpM_read true (fuel := 11) (listed' := #[true, true, true, true, true, true, true, true, false, false, false, false, false, false, false, false, false, false, false]) 7 (HCL.out true) rfl (by kernel_rfl) rfl ?_; refine wpQuiet_load _ _ rfl rfl rfl wkF_now ?_; refine wpQuiet_nil ?_)
  ((refine wpM_pure (fuel := 10) (listed' := #[true, true, true, true, true, true, true, true, true, false, false, false, false, false, false, false, false, false, false]) 8 rfl (by kernel_rfl) rfl ?_; (first | go_big_quiet_step (fail) | quiet_step (fail)); refine wpQuiet_nil ?_))
  (refine wpM_read false (fuel := 9) (listed' := #[true, true, true, true, true, true, true, true, true, true, false, false, false, false, false, false, false, false, false]) 9 (HCL.out false) rfl (by kernel_rfl) rfl ?_; refine wpQuiet_load _ _ rfl rfl rfl recF_vars ?_; refine wpQuiet_nil ?_)
  ((refine wpM_pure (fuel := 8) (listed' := #[true, true, true, true, true, true, true, true, true, true, false, true, false, false, false, false, false, false, false]) 11 rfl (by kernel_rfl) rfl ?_; (first | go_big_quiet_step (fail) | quiet_step (fail)); refine wpQuiet_nil ?_))
  refine wpM_one (fuel := 7) (listed' := #[true, true, true, true, true, true, true, true, true, true, true, true, false, false, false, false, false, false, false]) 10 rfl (by kernel_rfl) rfl ?_
  go_wp2_with (go_at_call 43; refine (HVC.out _).mono ?_; rintro e w1 ⟨A1, c1, rfl, ho, hb⟩; have HB0 := Lib.hid hb; have HB1 := Lib.hid (below2 (below_redrawn N _) hb); have HO := Lib.hid (vars_empty (w := w1) (w' := w1) (S' := S) ⟨rfl, by decide, (Row.of_own ho).weaken (S' := fun _ => True) (fun _ _ _ => trivial)⟩); clear ho hb)
  refine ⟨rfl, fun t _ h => blkC_below HB0.out t h, ?_⟩
  have HR1 := Lib.hid (block_below HB1.out HR0.out)
  have HNE : Hid (b ≠ w.heap.size) := Lib.hid (by have := HL.out; omega)
  refine wpM_one (fuel := 6) (listed' := #[true, true, true, true, true, true, true, true, true, true, true, true, true, false, false, false, false, false, false]) 12 rfl (by kernel_rfl) rfl ?_
  refine wpList_store_cell _ _ _ rfl rfl rfl rfl (by kernel_rfl) rfl rfl HR1.out (show 0 < 13 by decide) ?_
  intro V1 hV1 hM1
  have HV1 := Lib.hid hV1; have HM1 := Lib.hid hM1; clear hV1 hM1
  refine ⟨rfl, fun t ht h => (by cases t; exact absurd ht (by decide); exact blkC_mut1 HM1.out HNE.out h), ?_⟩
  ((refine wpM_pure (fuel := 5) (listed' := #[true, true, true, true, true, true, true, true, true, true, true, true, true, true, false, false, false, false, false]) 13 rfl (by kernel_rfl) rfl ?_; (first | go_big_quiet_step (fail) | quiet_step (fail)); refine wpQuiet_nil ?_))
  refine wpM_one (fuel := 4) (listed' := #[true, true, true, true, true, true, true, true, true, true, true, true, true, true, true, false, false, false, false]) 14 rfl (by kernel_rfl) rfl ?_
  refine wpList_store_cell _ _ _ rfl rfl rfl rfl (by kernel_rfl) rfl rfl HV1.out (show 2 < 13 by decide) ?_
  intro V2 hV2 hM2
  have HV2 := Lib.hid hV2; have HM2 := Lib.hid (HM1.out.trans hM2 (fun _ _ h => h)); have HMa := Lib.hid hM2; clear hV2 hM2
  refine ⟨rfl, fun t ht h => (by cases t; exact absurd ht (by decide); exact blkC_mut1 HMa.out HNE.out h), ?_⟩
  ((refine wpM_pure (fuel := 3) (listed' := #[true, true, true, true, true, true, true, true, true, true, true, true, true, true, true, true, false, false, false]) 15 rfl (by kernel_rfl) rfl ?_; (first | go_big_quiet_step (fail) | quiet_step (fail)); refine wpQuiet_nil ?_))
  refine wpM_one (fuel := 2) (listed' := #[true, true, true, true, true, true, true, true, true, true, true, true, true, true, true, true, true, false, false]) 16 rfl (by kernel_rfl) rfl ?_
  refine wpList_store_cell _ _ _ rfl rfl rfl rfl (by kernel_rfl) rfl rfl HV2.out (show 3 < 13 by decide) ?_
  intro V3 hV3 hM3
  have HV3 := Lib.hid hV3; have HM3 := Lib.hid (HM2.out.trans hM3 (fun _ _ h => h)); have HMb := Lib.hid hM3; clear hV3 hM3
  refine ⟨rfl, fun t ht h => (by cases t; exact absurd ht (by decide); exact blkC_mut1 HMb.out HNE.out h), ?_⟩
  ((refine wpM_pure (fuel := 1) (listed' := #[true, true, true, true, true, true, true, true, true, true, true, true, true, true, true, true, true, true, false]) 17 rfl (by kernel_rfl) rfl ?_; (first | go_big_quiet_step (fail) | quiet_step (fail)); refine wpQuiet_nil ?_))
  refine wpM_one (fuel := 0) (listed' := #[true, true, true, true, true, true, true, true, true, true, true, true, true, true, true, true, true, true, true]) 18 rfl (by kernel_rfl) rfl ?_
  refine wpList_store_cell _ _ _ rfl rfl rfl rfl (by kernel_rfl) rfl rfl HV3.out (show 12 < 13 by decide) ?_
  intro V4 hV4 hM4
  have HR4 : Hid (V4.heap[w.heap.size]? = some (recO (recC (emR p r) A1 0 c1))) := Lib.hid hV4
  have HM4 := Lib.hid (HM3.out.trans hM4 (fun _ _ h => h)); have HMc := Lib.hid hM4; clear hV4 hM4
  refine ⟨rfl, fun t ht h => (by cases t; exact absurd ht (by decide); exact blkC_mut1 HMc.out HNE.out h), ?_⟩
  refine wpM_end rfl ?_
  have HB4 : Hid (Below w.heap.size w V4) := Lib.hid (below_of_mut (below2 HN0.out HB1.out) (below2 HN0.out HB1.out).size HM4.out (fun x e => by have e : x = w.heap.size := e; omega))
  have HW4 : Hid (WkB S b V4 v g p) := Lib.hid (((HW.out.below HN0.out).below HB1.out).mut HM4.out (fun x e => by
    have e : x = w.heap.size := e
    subst e
    exact ⟨fun h => by have := HW.out.lt h; omega, fun h => by have := (HW.out.dis _ h).2; omega⟩))
  have HZ4 : Hid (w.heap.size < V4.heap.size) := Lib.hid (by have h1 := HZ0.out; have h2 := HB1.out.size; have h3 := HM4.out.size; omega)
  have HO4 := Lib.hid (vars_empty (w' := V4) (S' := S) HO.out)
  clear HV1 HV2 HV3 HM1 HM2 HM3 HM4 HMa HMb HMc HR1 HCL HR0 HB0 HBX HN0 HZ0 HB1 HO
  obtain ⟨xs, hev⟩ := HW4.out.ev
  have HEV := Lib.hid hev
  clear hev
  have HCL : Hid (∀ t, blkC b (wkO v p) w.heap.size (recO (recC (emR p r) A1 0 c1)) t (redrawn V4 (V4.drawn + 1))) := Lib.hid (fun t => blkC_below (below_redrawn V4 _) t (blkC_at HW4.out.box HR4.out t))
  go_wp2_with fail
  refine wp_region_ordM (ι := Bool) (blkC b (wkO v p) w.heap.size (recO (recC (emR p r) A1 0 c1))) (fun t => cond t [10] []) (n := 11) (listed := #[false, false, false, false, false, false, false, false, false, false, false]) (by kernel_rfl) rfl rfl ?_
  ((refine wpM_pure (fuel := 10) (listed' := #[true, false, false, false, false, false, false, false, false, false, false]) 0 rfl (by kernel_rfl) rfl ?_; (first | go_big_quiet_step (fail) | quiet_step (fail)); refine wpQuiet_nil ?_); (refine wpM_pure (fuel := 9) (listed' := #[true, true, false, false, false, false, false, false, false, false, false]) 1 rfl (by kernel_rfl) rfl ?_; (first | go_big_quiet_step (fail) | quiet_step (fail)); refine wpQuiet_nil ?_); (refine wpM_pure (fuel := 8) (listed' := #[true, true, true, false, false, false, false, false, false, false, false]) 2 rfl (by kernel_rfl) rfl ?_; (first | go_big_quiet_step (fail) | quiet_step (fail)); refine wpQuiet_nil ?_); (refine wpM_pure (fuel := 7) (listed' := #[true, true, true, true, false, false, false, false, false, false, false]) 3 rfl (by kernel_rfl) rfl ?_; (first | go_big_quiet_step (fail) | quiet_step (fail)); refine wpQuiet_nil ?_))
  (refine wpM_read true (fuel := 6) (listed' := #[true, true, true, true, true, false, false, false, false, false, false]) 4 (HCL.out true) rfl (by kernel_rfl) rfl ?_; refine wpQuiet_load _ _ rfl rfl rfl wkF_ev ?_; refine wpQuiet_nil ?_)
  (refine wpM_read false (fuel := 5) (listed' := #[true, true, true, true, true, true, false, false, false, false, false]) 5 (HCL.out false) rfl (by kernel_rfl) rfl ?_; refine wpQuiet_load _ _ rfl rfl rfl recF_all ?_; refine wpQuiet_nil ?_)
  refine wpM_one (fuel := 4) (listed' := #[true, true, true, true, true, true, true, false, false, false, false]) 6 rfl (by kernel_rfl) rfl ?_
  go_wp2_with fail
  refine ⟨rfl, fun t _ h => blkC_below (below_alloc (Below.refl _ _) _) t h, ?_⟩
  refine wpM_one (fuel := 3) (listed' := #[true, true, true, true, true, true, true, true, false, false, false]) 7 rfl (by kernel_rfl) rfl ?_
  refine wp_app (w0 := redrawn V4 (V4.drawn + 1)) (W := redrawn V4 (V4.drawn + 1)) eRecs (by decide) rfl _ _ rfl 0 (.slice p.E p.m p.c) p.m xs (recC (emR p r) A1 0 c1).toList rfl rfl rfl (rec_one _ _ _ _) (own_carry HEV.out (below_redrawn V4 _)) (Below.refl 0 _) (Nat.zero_le _) (by have := HM.out; omega) HM.out ?_
  intro v1 w1 ho hb hg hat
  obtain ⟨A2, c2, rfl, -, -⟩ := (Row.of_own ho).open_
  have HG : Hid (Mut (fun x => (Value.slice p.E p.m p.c).ownBlock = some x) V4 w1) := Lib.hid (Mut.trans (T := fun x => (Value.slice p.E p.m p.c).ownBlock = some x) (Mut.of_below (below2 (below_redrawn V4 _) (below_alloc (Below.refl _ _) _)) _) (Mut.grown hg (fun _ h => h)) (fun _ _ h => h))
  have HGa := Lib.hid (Mut.grown (T := fun x => (Value.slice p.E p.m p.c).ownBlock = some x) hg (fun _ h => h))
  have HOW := Lib.hid ho
  have HAT : Hid ((Value.slice A2 (p.m + 1) c2).ownBlock = (Value.slice p.E p.m p.c).ownBlock ∨ ∃ b, (Value.slice A2 (p.m + 1) c2).ownBlock = some b ∧ V4.heap.size ≤ b) := Lib.hid hat
  clear ho hb hg hat
  have HNR : Hid (¬ (Value.slice p.E p.m p.c).ownBlock = some w.heap.size) := Lib.hid (fun e => by have := HW.out.lt (.inr e); omega)
  refine ⟨rfl, fun t _ h => blkC_mut HGa.out HW.out.ne HNR.out t h, ?_⟩
  have HB6 := Lib.hid (HG.out.blk HW4.out.box HW.out.ne)
  have HR6 := Lib.hid (HG.out.blk HR4.out HNR.out)
  ((refine wpM_pure (fuel := 2) (listed' := #[true, true, true, true, true, true, true, true, true, false, false]) 8 rfl (by kernel_rfl) rfl ?_; (first | go_big_quiet_step (fail) | quiet_step (fail)); refine wpQuiet_nil ?_); (refine wpM_pure (fuel := 1) (listed' := #[true, true, true, true, true, true, true, true, true, true, false]) 9 rfl (by kernel_rfl) rfl ?_; (first | go_big_quiet_step (fail) | quiet_step (fail)); refine wpQuiet_nil ?_))
  refine wpM_one (fuel := 0) (listed' := #[true, true, true, true, true, true, true, true, true, true, true]) 10 rfl (by kernel_rfl) rfl ?_
  refine wpList_store_cell _ _ _ rfl rfl rfl rfl (by kernel_rfl) rfl rfl HB6.out (show 15 < 17 by decide) ?_
  intro V5 hV5 hM5
  obtain ⟨p1, hp1⟩ : ∃ p1 : WkP, p1 = { p with E := A2, m := p.m + 1, c := c2 } := ⟨_, rfl⟩
  have HB7 : Hid (V5.heap[b]? = some (wkO v p1)) := Lib.hid (by rw [hp1]; exact hV5)
  have HM5 := Lib.hid hM5
  have HP1 := Lib.hid hp1
  clear hV5 hM5 hp1
  refine ⟨rfl, fun t ht h => (by cases t; exact blkC_mut2 HM5.out (fun e => HNE.out e.symm) h; exact absurd ht (by decide)), ?_⟩
  refine wpM_end rfl ?_
  have HR7 := Lib.hid (HM5.out.blk HR6.out (fun e => HNE.out e.symm))
  have HZ5 : Hid (V4.heap.size ≤ V5.heap.size) := Lib.hid (Nat.le_trans HG.out.size HM5.out.size)
  have HT1 : Hid (∀ x, p1.T b x → p.T b x ∨ V4.heap.size ≤ x) := Lib.hid (fun x hx => by
    rw [HP1.out] at hx
    rcases hx with hx | hx
    · exact .inl (.inl hx)
    · rcases HAT.out with ha | ⟨y, ha, hy⟩
      · exact .inl (.inr (ha.symm.trans hx))
      · have e := ha.symm.trans hx
        injection e with e
        exact .inr (by omega))
  have HN1 : Hid ((Value.slice A2 (p.m + 1) c2).ownBlock ≠ some b) := Lib.hid (fun hx => by
    rcases HAT.out with ha | ⟨y, ha, hy⟩
    · exact HW.out.ne (ha.symm.trans hx)
    · have e := ha.symm.trans hx
      injection e with e
      have := HL.out; have := HZ4.out
      omega)
  have HW5 : Hid (WkB S b V5 v g p1) := Lib.hid ⟨HB7.out, (HW4.out.st.mut HG.out (fun x _ hs ht => (HW4.out.dis x hs).1 (.inr ht)) (fun _ _ h => h)).mut HM5.out (fun x _ hs ht => (HW4.out.dis x hs).1 (.inl ht)) (fun _ _ h => h), ⟨_, by rw [HP1.out]; exact own_mut HOW.out HM5.out (fun x hx e => by have e : x = b := e; subst e; exact HN1.out hx)⟩, by rw [HP1.out]; exact HN1.out, fun x hx => ⟨fun ht => by
      rcases HT1.out x ht with h1 | h1
      · exact (HW.out.dis x hx).1 h1
      · have := (HW.out.dis x hx).2; have := HZ4.out; omega, by have := (HW.out.dis x hx).2; have := HZ4.out; have := HZ5.out; omega⟩⟩
  have HL5 : Hid (∀ x, p1.T b x → x < V5.heap.size) := Lib.hid (fun x hx => HW5.out.lt hx)
  have HM5a : Hid (Mut (p.T b) w V5) := Lib.hid (Mut.trans (Mut.trans (Mut.of_below HB4.out (p.T b)) HG.out (fun _ _ h => .inr h)) HM5.out (fun _ _ h => .inl h))
  have HCL : Hid (∀ t, blkC b (wkO v p1) w.heap.size (recO (recC (emR p r) A1 0 c1)) t (redrawn V5 (V5.drawn + 1))) := Lib.hid (fun t => blkC_below (below_redrawn V5 _) t (blkC_at HB7.out HR7.out t))
  have HAP := Lib.hid (HA.out (redrawn V5 (V5.drawn + 1)) A1 c1 (HW5.out.st.below (below_redrawn V5 _) (fun _ _ h => h)) (by rw [show (emR p r).vars = [] from HRV.out]; exact vars_empty HO4.out))
  have HPE : Hid (p1.m = p.m + 1 ∧ p1.part = p.part ∧ p1.pos = p.pos ∧ p1.now = p.now) := Lib.hid (by rw [HP1.out]; exact ⟨rfl, rfl, rfl, rfl⟩)
  clear HA HB6 HR6 HG HGa HEV HR4 HOW HM5 HW4 HP1 HAT HN1
  go_wp2_with fail
  refine wp_region_ordM (ι := Bool) (blkC b (wkO v p1) w.heap.size (recO (recC (emR p r) A1 0 c1))) (fun t => cond t [15] []) (n := 16) (listed := #[false, false, false, false, false, false, false, false, false, false, false, false, false, false, false, false]) (by kernel_rfl) rfl rfl ?_
  ((refine wpM_pure (fuel := 15) (listed' := #[true, false, false, false, false, false, false, false, false, false, false, false, false, false, false, false]) 0 rfl (by kernel_rfl) rfl ?_; (first | go_big_quiet_step (fail) | quiet_step (fail)); refine wpQuiet_nil ?_); (refine wpM_pure (fuel := 14) (listed' := #[true, true, false, false, false, false, false, false, false, false, false, false, false, false, false, false]) 1 rfl (by kernel_rfl) rfl ?_; (first | go_big_quiet_step (fail) | quiet_step (fail)); refine wpQuiet_nil ?_); (refine wpM_pure (fuel := 13) (listed' := #[true, true, true, false, false, false, false, false, false, false, false, false, false, false, false, false]) 2 rfl (by kernel_rfl) rfl ?_; (first | go_big_quiet_step (fail) | quiet_step (fail)); refine wpQuiet_nil ?_); (refine wpM_pure (fuel := 12) (listed' := #[true, true, true, true, false, false, false, false, false, false, false, false, false, false, false, false]) 3 rfl (by kernel_rfl) rfl ?_; (first | go_big_quiet_step (fail) | quiet_step (fail)); refine wpQuiet_nil ?_))
  (refine wpM_read true (fuel := 11) (listed' := #[true, true, true, true, true, false, false, false, false, false, false, false, false, false, false, false]) 4 (HCL.out true) rfl (by kernel_rfl) rfl ?_; refine wpQuiet_load _ _ rfl rfl rfl wkF_st ?_; refine wpQuiet_nil ?_)
  ((refine wpM_pure (fuel := 10) (listed' := #[true, true, true, true, true, true, false, false, false, false, false, false, false, false, false, false]) 5 rfl (by kernel_rfl) rfl ?_; (first | go_big_quiet_step (fail) | quiet_step (fail)); refine wpQuiet_nil ?_); (refine wpM_pure (fuel := 9) (listed' := #[true, true, true, true, true, true, true, false, false, false, false, false, false, false, false, false]) 6 rfl (by kernel_rfl) rfl ?_; (first | go_big_quiet_step (fail) | quiet_step (fail)); refine wpQuiet_nil ?_); (refine wpM_pure (fuel := 8) (listed' := #[true, true, true, true, true, true, true, true, false, false, false, false, false, false, false, false]) 7 rfl (by kernel_rfl) rfl ?_; (first | go_big_quiet_step (fail) | quiet_step (fail)); refine wpQuiet_nil ?_); (refine wpM_pure (fuel := 7) (listed' := #[true, true, true, true, true, true, true, true, true, false, false, false, false, false, false, false]) 8 rfl (by kernel_rfl) rfl ?_; (first | go_big_quiet_step (fail) | quiet_step (fail)); refine wpQuiet_nil ?_))
  (refine wpM_read true (fuel := 6) (listed' := #[true, true, true, true, true, true, true, true, true, true, false, false, false, false, false, false]) 9 (HCL.out true) rfl (by kernel_rfl) rfl ?_; refine wpQuiet_load _ _ rfl rfl rfl wkF_Pp ?_; refine wpQuiet_nil ?_)
  ((refine wpM_pure (fuel := 5) (listed' := #[true, true, true, true, true, true, true, true, true, true, true, false, false, false, false, false]) 10 rfl (by kernel_rfl) rfl ?_; (first | go_big_quiet_step (fail) | quiet_step (fail)); refine wpQuiet_nil ?_))
  (refine wpM_read false (fuel := 4) (listed' := #[true, true, true, true, true, true, true, true, true, true, true, true, false, false, false, false]) 11 (HCL.out false) rfl (by kernel_rfl) rfl ?_; refine wpQuiet_load _ _ rfl rfl rfl recF_all ?_; refine wpQuiet_nil ?_)
  refine wpM_one (fuel := 3) (listed' := #[true, true, true, true, true, true, true, true, true, true, true, true, true, false, false, false]) 12 rfl (by kernel_rfl) rfl ?_
  go_wp2_with fail
  refine HAP.out.mono ?_
  rintro e w2 ⟨v', g', rfl, hs, hp, hb⟩
  have HS := Lib.hid hs
  have HP := Lib.hid hp
  have HB2 := Lib.hid hb
  have HB2a := Lib.hid (below2 (below_redrawn V5 _) hb)
  clear hs hp hb HAP
  go_wp2_with fail
  refine ⟨rfl, fun t _ h => blkC_below HB2.out t h, ?_⟩
  ((refine wpM_pure (fuel := 2) (listed' := #[true, true, true, true, true, true, true, true, true, true, true, true, true, true, false, false]) 13 rfl (by kernel_rfl) rfl ?_; (first | go_big_quiet_step (fail) | quiet_step (fail)); refine wpQuiet_nil ?_); (refine wpM_pure (fuel := 1) (listed' := #[true, true, true, true, true, true, true, true, true, true, true, true, true, true, true, false]) 14 rfl (by kernel_rfl) rfl ?_; (first | go_big_quiet_step (fail) | quiet_step (fail)); refine wpQuiet_nil ?_))
  refine wpM_one (fuel := 0) (listed' := #[true, true, true, true, true, true, true, true, true, true, true, true, true, true, true, true]) 15 rfl (by kernel_rfl) rfl ?_
  refine wpList_store_at _ _ _ rfl rfl rfl rfl bSt (block_below HB2a.out HB7.out) (show 0 + 12 ≤ 17 by decide) rfl (vals_one _) ?_
  intro V6 hV6 hM6
  have HV6 : Hid (V6.heap[b]? = some (wkO v' p1)) := Lib.hid (by rw [wk_spl] at hV6; exact hV6)
  have HM6 := Lib.hid hM6
  clear hV6 hM6
  refine ⟨rfl, fun t ht h => (by cases t; exact blkC_mut2 HM6.out (fun e => HNE.out e.symm) h; exact absurd ht (by decide)), ?_⟩
  refine wpM_end rfl ?_
  go_wp2_with fail
  have hl := HL.out
  have hz4 := HZ4.out
  have hz5 := HZ5.out
  have hz2 := HB2a.out.size
  have hz6 := HM6.out.size
  have hres : EmitTo S b w v g p r (.returned (.tuple #[])) V6 := by
    refine ⟨⟨_, rfl⟩, fun x => S x ∨ (V5.heap.size ≤ x ∧ x < w2.heap.size), v', g', p1, ⟨HV6.out, HS.out.mut HM6.out (fun x hx hs e => ?_) (fun x hx hs => hs.elim .inl (fun h => .inr ⟨h, hx⟩)), ?_, HW5.out.ne, fun x hx => ?_⟩, HP.out, HPE.out.1, HPE.out.2.1, HPE.out.2.2.1, HPE.out.2.2.2, fun x hx => hx.elim .inl (fun h => .inr (by omega)), fun x hx => (HT1.out x hx).elim .inl (fun h => .inr (by omega)), ?_⟩
    · have e : x = b := e
      subst e
      rcases hs with hs | hs
      · exact (HW5.out.dis _ hs).1 (.inl rfl)
      · have hs : V5.heap.size ≤ x := hs
        omega
    · obtain ⟨ys, hy⟩ := HW5.out.ev
      exact ⟨ys, own_mut (own_carry hy HB2a.out) HM6.out (fun x hx e => by have e : x = b := e; subst e; exact HW5.out.ne hx)⟩
    · rcases hx with hx | hx
      · exact ⟨(HW5.out.dis x hx).1, by have := (HW5.out.dis x hx).2; omega⟩
      · exact ⟨fun ht => by have := HL5.out x ht; omega, by omega⟩
    · exact Mut.trans (Mut.trans HM5a.out (Mut.of_below HB2a.out (p.T b)) (fun _ _ h => h)) HM6.out (fun _ _ h => .inl h)
  exact bodyPost_end (by simp [results, Tryz.results25, go_sem]) rfl hres
end Go.Proofs.YtfjdllpacdobdaaGreat
/-
  A range over a function whose iterator may itself range over a function: the iterator's contract asks of the caller's word that it stands the turn of any later block that holds no cells. Nothing of a program; everything at the wide fence.
-/
set_option linter.unusedVariables false
set_option linter.unusedSimpArgs false
namespace Go.Proofs.Base
open Go Go.RowKit
def SeqN {α : Type} (P : Program) (g : Nat) (lb : Array Value) (encs : α → Array Value) (Kp : World → World → Prop) (S Sp Ok : List α → Prop) (n₂ : Nat) (w : World) : Prop :=
  ∀ (l : Nat) (J Jx : List α → World → Prop) (W : World), Below w.heap.size w W → n₂ ≤ W.heap.size → OwnFrom W.heap.size J → OwnFrom W.heap.size Jx →
    (∀ pre x V, J pre V → Ok (pre ++ [x]) → YieldAt Fence.wide 0 P l (encs x) V fun e V' =>
      (e = .returned (.bool true) ∧ J (pre ++ [x]) V' ∧ Kp V V') ∨ (e = .returned (.bool false) ∧ Jx (pre ++ [x]) V' ∧ KeepsFrom n₂ V V')) →
    J [] W →
    CallsIn Fence.wide 0 P g (#[.func (.yield l) #[] #[]] ++ lb) W fun e V => (∃ v, e = .returned v) ∧ ((∃ xs, S xs ∧ J xs V) ∨ (∃ pre, Sp pre ∧ Jx pre V))
theorem KeepsFrom.mono' {B B' : Nat} {W W' : World} (h : KeepsFrom B W W') (hB : B ≤ B') : KeepsFrom B' W W' := ⟨h.size, fun k o hk ho hc => h.same k o (Nat.le_trans hB hk) ho hc⟩
theorem KeepsFrom.turn {B l : Nat} (W : World) (o : Obj) (h : l < B) : KeepsFrom B W (W.putObj l o) := ⟨(grownBy_putObj' W l o).size, fun k o' hk ho _ => ((grownBy_putObj' W l o).block k (lt_of_blk ho) (fun e => by injection e with e; omega)).trans ho⟩
variable {P : Program}
theorem range_law {α : Type} {g : Operand} {ps : Array Tmp} {assign body : Code} {Q : Exit → Act → World → Prop} {a : Act} {w : World} {gf : Nat} {lb : Array Value}
    (hg : a.eval g = .func (.func gf) #[] lb) (eg : ∀ args w, (callFunc gf args).run P w = .ok (.enter gf args) w)
    {encs : α → Array Value} {Kp : World → World → Prop} {S Sp Ok : List α → Prop} (hseq : SeqN P gf lb encs Kp S Sp Ok (w.heap.size + 2) w)
    (hKt : ∀ {A B C : World}, Kp A B → Kp B C → Kp A C) (hKb : ∀ (W : World) (r : Loop) (o : Obj), W.heap[w.heap.size + 1]? = some (.loop r) → Kp W (W.putObj (w.heap.size + 1) o)) (hps : ∀ x, (encs x).size = ps.size)
    (I : List α → World → Prop) (Ix : Code → List α → World → Prop) (hI : OwnFrom w.heap.size I) (hIx : ∀ c, OwnFrom w.heap.size (Ix c)) (h0 : I [] w)
    (Ax : List α → α → Act → World → Prop) (hAx : ∀ pre x a', OwnFrom w.heap.size (fun (_ : Unit) W => Ax pre x a' W))
    (hassign : ∀ (l : Nat) (pre : List α) (x : α) (W : World) (K : Act → World → Prop), I pre W → (∀ a' W', KeepsFrom w.heap.size W W' → Kp W W' → I pre W' → Ax pre x a' W' → K a' W') →
      assign.wpIn (Fence.wide.inRound l) 0 P (Exit.then K (fun _ _ _ => False)) { tmps := (ps.zip (encs x)).foldl (fun t (p, v) => t.setIfInBounds p v) a.tmps, defers := [] } W)
    (hbody : ∀ (l : Nat) (pre : List α) (x : α) (a' : Act) (W : World), w.heap.size + 2 ≤ W.heap.size → I pre W → Ax pre x a' W → Ok (pre ++ [x]) → body.wpIn (Fence.wide.inRound l) 0 P (ownPostG w.heap.size Kp I Ix (pre ++ [x]) W) a' W)
    (hdone : ∀ (D : Nat) (xs : List α) (W : World), w.heap.size ≤ D → S xs → I xs W → W.heap[D]? = some (.deferred (some [])) → Q .normal { a with defers := { target := .collected D, args := #[] } :: a.defers } W)
    (hstop : ∀ (D : Nat) (c : Code) (pre : List α) (W : World), w.heap.size ≤ D → Sp pre → Ix c pre W → W.heap[D]? = some (.deferred (some [])) → c.wpIn Fence.wide 0 P Q { a with defers := { target := .collected D, args := #[] } :: a.defers } W) :
    (Code.rangeFunc g ps assign body).wpIn Fence.wide 0 P Q a w := by
  refine wpIn_rangeFunc (fun fn hfn => ?_)
  generalize hD : w.heap.size = D at *
  obtain ⟨R, hR⟩ : ∃ R : LoopState → Option Code → Loop, ∀ s p, R s p = { state := s, pending := p, fn := fn, tmps := a.tmps, params := ps, assign := assign, body := body, defers := D } := ⟨_, fun _ _ => rfl⟩
  obtain ⟨V, hV⟩ : ∃ V, V = (w.alloc (.deferred (some []))).alloc (.loop (R .ready none)) := ⟨_, rfl⟩
  have vsize : V.heap.size = D + 2 := by rw [hV]; simp [hD]
  have vL : V.heap[D + 1]? = some (.loop (R .ready none)) := by
    have h := World.alloc_heap_new (w.alloc (.deferred (some []))) (.loop (R .ready none))
    rw [World.size_alloc, hD] at h
    rw [hV]; exact h
  have vD : V.heap[D]? = some (.deferred (some [])) := by
    have h := World.alloc_heap_new w (.deferred (some []))
    rw [hD] at h
    rw [hV]
    exact (Below.heap_alloc _ _ _ (by rw [World.size_alloc, hD]; omega)).trans h
  have vI : I [] V := by rw [hV]; exact hI.alloc _ (hI.alloc _ h0)
  have vB : Below w.heap.size w V := by rw [hV]; exact below_alloc (below_alloc (Below.refl _ _) _) _
  have henter : (Instr.enterLoop fn a.tmps ps assign body Fence.wide.round).run P w = .ok (D + 1, [{ target := .collected D, args := #[] }]) V := by
    have h := run_enterLoop_outer (P := P) (w := w) fn a.tmps ps assign body
    rw [hD] at h
    rw [hV, hR]; exact h
  refine ⟨D + 1, _, V, { target := .fn (.func gf) lb, args := #[.func (.yield (D + 1)) #[] #[]] }, V, gf, #[.func (.yield (D + 1)) #[] #[]] ++ lb, V, henter, ?_, fun _ _ => trivial, ?_, (fun h => by cases h), ?_⟩
  · simp only [resolve, hg]
    simp [go_sem]
  · simp [invoke, go_sem, eg]
  have far : ∀ {A : World} {row : Option Nat}, (∀ r, row = some r → V.heap.size ≤ r ∧ ∃ o : Obj, A.heap[r]? = some o ∧ o.isCells = false) → ∀ r, row = some r → D ≤ r ∧ ∃ o : Obj, A.heap[r]? = some o ∧ o.isCells = false :=
    fun h r e => by have := h r e; rw [vsize] at this; exact ⟨by omega, this.2⟩
  have stays : ∀ {A B : World} {row : Option Nat} {k : Nat} {o : Obj}, A.grownBy B row → (∀ r, row = some r → V.heap.size ≤ r ∧ ∃ o : Obj, A.heap[r]? = some o ∧ o.isCells = false) → k < D + 2 → A.heap[k]? = some o → B.heap[k]? = some o :=
    fun hgr hr hk ho => (hgr.block _ (lt_of_blk ho) (fun e => by have := (hr _ e.symm).1; rw [vsize] at this; omega)).trans ho
  have hcall := hseq (D + 1) (fun pre W => I pre W ∧ W.heap[D + 1]? = some (.loop (R .ready none)) ∧ W.heap[D]? = some (.deferred (some [])))
    (fun pre W => ∃ c, Ix c pre W ∧ W.heap[D + 1]? = some (.loop (R .done (some c))) ∧ W.heap[D]? = some (.deferred (some []))) V vB (by rw [vsize]; exact Nat.le_refl _)
    (fun s A B row hs hgr hr => ⟨hI s A B row hs.1 hgr (far hr), stays hgr hr (by omega) hs.2.1, stays hgr hr (by omega) hs.2.2⟩)
    (fun s A B row hs hgr hr => by
      obtain ⟨c, h1, h2, h3⟩ := hs
      exact ⟨c, hIx c s A B row h1 hgr (far hr), stays hgr hr (by omega) h2, stays hgr hr (by omega) h3⟩)
  refine (hcall ?round ⟨vI, vL, vD⟩).mono ?after
  case round =>
    rintro pre x W ⟨hi, hl, hd⟩ hlen
    have hy := run_yield (P := P) (args := encs x) hl (by rw [hR]; exact hps x)
    have e1 : (R .ready none).fn = fn ∧ (R .ready none).tmps = a.tmps ∧ (R .ready none).params = ps ∧ (R .ready none).assign = assign ∧ (R .ready none).body = body := by rw [hR]; exact ⟨rfl, rfl, rfl, rfl, rfl⟩
    rw [e1.1, e1.2.1, e1.2.2.1, e1.2.2.2.1, e1.2.2.2.2] at hy
    refine ⟨fn, _, assign, body, hy, roundIn_of_wpIn hfn (hassign _ pre x W _ hi ?_)⟩
    intro a' U hkeep hkp hiU hax
    have hlU := hkeep.same _ _ (by omega) hl rfl
    have hdU := hkeep.same _ _ (Nat.le_refl _) hd rfl
    have ltL : D + 1 < U.heap.size := lt_of_blk hlU
    refine ⟨_, run_beginRound hlU (by rw [hR]), ?_⟩
    have eb : ({ R .ready none with state := .busy } : Loop) = R .busy none := by rw [hR, hR]
    rw [eb]
    have hlB : (U.putObj (D + 1) (.loop (R .busy none))).heap[D + 1]? = some (.loop (R .busy none)) := World.putObj_heap_same ltL
    have hdB : (U.putObj (D + 1) (.loop (R .busy none))).heap[D]? = some (.deferred (some [])) := (World.putObj_heap_other (by omega)).trans hdU
    have hkB : Kp U (U.putObj (D + 1) (.loop (R .busy none))) := hKb U _ _ hlU
    have hsz : D + 2 ≤ (U.putObj (D + 1) (.loop (R .busy none))).heap.size := by have := lt_of_blk hlB; omega
    refine wpIn_mono (hbody _ pre x a' _ hsz (hI.putObj _ hiU (by omega) hlU rfl) ((hAx pre x a').putObj (s := ()) _ hax (by omega) hlU rfl) hlen) ?_
    have ends : ∀ (jump : Option Code) (Z : World), KeepsFrom D (U.putObj (D + 1) (.loop (R .busy none))) Z →
        (Instr.endRound (D + 1) jump).run P Z = .ok (.bool jump.isNone) (Z.putObj (D + 1) (.loop (R (if jump.isNone then .ready else .done) jump))) ∧ Z.heap[D + 1]? = some (.loop (R .busy none)) ∧
          (Z.putObj (D + 1) (.loop (R (if jump.isNone then .ready else .done) jump))).heap[D + 1]? = some (.loop (R (if jump.isNone then .ready else .done) jump)) ∧
          (Z.putObj (D + 1) (.loop (R (if jump.isNone then .ready else .done) jump))).heap[D]? = some (.deferred (some [])) := by
      intro jump Z hz
      have zl := hz.same _ _ (by omega) hlB rfl
      have zd := hz.same _ _ (Nat.le_refl _) hdB rfl
      have hrun := run_endRound (P := P) jump zl
      have ej : ({ R .busy none with state := if jump.isNone then .ready else .done, pending := jump } : Loop) = R (if jump.isNone then .ready else .done) jump := by rw [hR, hR]
      rw [ej] at hrun
      exact ⟨hrun, zl, World.putObj_heap_same (lt_of_blk zl), (World.putObj_heap_other (by omega)).trans zd⟩
    have left : ∀ (c : Code) (Z : World), KeepsFrom D (U.putObj (D + 1) (.loop (R .busy none))) Z → Ix c (pre ++ [x]) Z → ∃ b Z', (Instr.endRound (D + 1) (some c)).run P Z = .ok (.bool b) Z' ∧ b = false ∧
        KeepsFrom (D + 2) W Z' ∧ (∃ c, Ix c (pre ++ [x]) Z' ∧ Z'.heap[D + 1]? = some (.loop (R .done (some c))) ∧ Z'.heap[D]? = some (.deferred (some []))) := by
      intro c Z hz hc
      obtain ⟨h1, h2, h3, h4⟩ := ends (some c) Z hz
      exact ⟨_, _, h1, rfl, (((KeepsFrom.mono' hkeep (by omega)).trans (KeepsFrom.turn U _ (by omega))).trans (KeepsFrom.mono' hz (by omega))).trans (KeepsFrom.turn Z _ (by omega)), c, (hIx c).putObj _ hc (by omega) h2 rfl, h3, h4⟩
    rintro e a3 Z hp
    cases e with
    | normal =>
      obtain ⟨hz, hkz, hiz⟩ := hp
      obtain ⟨h1, h2, h3, h4⟩ := ends none Z hz
      exact ⟨_, _, h1, .inl ⟨rfl, ⟨hI.putObj _ hiz (by omega) h2 rfl, h3, h4⟩, hKt hkp (hKt (hKt hkB hkz) (hKb Z _ _ h2))⟩⟩
    | ret =>
      obtain ⟨b, Z', h1, rfl, hkf, h2⟩ := left .ret Z hp.1 hp.2
      exact ⟨_, _, h1, .inr ⟨rfl, h2, hkf⟩⟩
    | exit id =>
      obtain ⟨b, Z', h1, rfl, hkf, h2⟩ := left (.exit id) Z hp.1 hp.2
      exact ⟨_, _, h1, .inr ⟨rfl, h2, hkf⟩⟩
    | goto t =>
      obtain ⟨b, Z', h1, rfl, hkf, h2⟩ := left (.goto t) Z hp.1 hp.2
      exact ⟨_, _, h1, .inr ⟨rfl, h2, hkf⟩⟩
    | panic ch => exact hp.elim
    | outgrown => exact hp.elim
  case after =>
    rintro e Z ⟨⟨v, rfl⟩, ⟨xs, hS, hi, hl, hd⟩ | ⟨pre, hSp, c, hi, hl, hd⟩⟩
    · have h := run_endLoop (P := P) hl (by rw [hR]; simp)
      exact ⟨none, _, by rw [h, hR], hdone D xs _ (Nat.le_refl _) hS (hI.putObj _ hi (by omega) hl rfl) ((World.putObj_heap_other (by omega)).trans hd)⟩
    · have h := run_endLoop (P := P) hl (by rw [hR]; simp)
      exact ⟨some c, _, by rw [h, hR], hstop D c pre _ (Nat.le_refl _) hSp ((hIx c).putObj _ hi (by omega) hl rfl) ((World.putObj_heap_other (by omega)).trans hd)⟩
end Go.Proofs.Base
/-
  book.Ready: the range over the jobs that are ready.
-/
set_option linter.unusedVariables false
set_option linter.unusedSimpArgs false
namespace Go.Proofs.YtfjdllpacdobdaaGreat
open Go Go.RowKit Go.Shelf Go.Proofs.Base
attribute [local go_sem] Oper.semAt_some
def readyB (kind : ByteArray) (x : EJob) : Bool := (x.typ.toList == kind.toList) && x.worker.toList.isEmpty && decide (0 < x.retries)
def rdy (kind : ByteArray) : List EJob → Nat → List (Nat × EJob)
  | [], _ => []
  | x :: r, i => if readyB kind x then (i, x) :: rdy kind r (i + 1) else rdy kind r (i + 1)
theorem rdy_append (kind : ByteArray) : ∀ (a b : List EJob) (i : Nat), rdy kind (a ++ b) i = rdy kind a i ++ rdy kind b (i + a.length)
  | [], b, i => by simp [rdy]
  | x :: a, b, i => by
    have ih := rdy_append kind a b (i + 1)
    have e : i + (x :: a).length = i + 1 + a.length := by simp; omega
    rw [e]
    by_cases h : readyB kind x = true
    · simp only [List.cons_append, rdy, h, if_true, ih]
    · simp only [List.cons_append, rdy, h, if_false, ih]
      simp
theorem rdy_take (kind : ByteArray) {l : List EJob} {k : Nat} (h : k < l.length) : rdy kind (l.take (k + 1)) 0 = rdy kind (l.take k) 0 ++ (if readyB kind l[k] then [(k, l[k])] else []) := by
  rw [List.take_succ_eq_append_getElem h, rdy_append, List.length_take, Nat.min_eq_left (by omega), Nat.zero_add]
  congr 1
theorem rdy_pre (kind : ByteArray) (l : List EJob) (k : Nat) : rdy kind (l.take k) 0 <+: rdy kind l 0 := by
  have e : rdy kind l 0 = rdy kind (l.take k ++ l.drop k) 0 := by rw [List.take_append_drop]
  rw [e, rdy_append]
  exact List.prefix_append _ _
def KeepN (n₀ : Nat) (T : Nat → Prop) (W W' : World) : Prop := W.heap.size ≤ W'.heap.size ∧ ∀ x, x < n₀ → ¬ T x → W'.heap[x]? = W.heap[x]?
theorem KeepN.refl (n₀ : Nat) (T : Nat → Prop) (W : World) : KeepN n₀ T W W := ⟨Nat.le_refl _, fun _ _ _ => rfl⟩
theorem KeepN.trans {n₀ : Nat} {T : Nat → Prop} {A B C : World} (h : KeepN n₀ T A B) (k : KeepN n₀ T B C) : KeepN n₀ T A C := ⟨Nat.le_trans h.1 k.1, fun x hx ht => (k.2 x hx ht).trans (h.2 x hx ht)⟩
theorem KeepN.of_mut {n₀ : Nat} {T T' : Nat → Prop} {W W' : World} (h : Mut T' W W') (hn : n₀ ≤ W.heap.size) (hT : ∀ x, x < n₀ → T' x → T x) : KeepN n₀ T W W' := ⟨h.size, fun x hx ht => h.block x (by omega) (fun h => ht (hT x hx h))⟩
theorem KeepN.turn {n₀ : Nat} {T : Nat → Prop} (W : World) (o : Obj) : KeepN n₀ T W (W.putObj (n₀ + 1) o) := by
  have hg := grownBy_putObj' W (n₀ + 1) o
  refine ⟨hg.size, fun x hx _ => ?_⟩
  rcases Nat.lt_or_ge x W.heap.size with h | h
  · exact hg.block x h (fun e => by injection e with e; omega)
  · have h2 : W.heap.size = (W.putObj (n₀ + 1) o).heap.size := by simp [World.putObj]
    rw [Array.getElem?_eq_none h, Array.getElem?_eq_none (by omega)]
theorem ListR.keepN {α : Type} {n₀ : Nat} {T : Nat → Prop} {W W' : World} {K : Nat} {enc : α → List Value} {A : Option Addr} {n c : Nat} {l : List α} (h : ListR W (fun x => x < n₀ ∧ ¬ T x) K enc A n c l) (hk : KeepN n₀ T W W') : ListR W' (fun x => x < n₀ ∧ ¬ T x) K enc A n c l :=
  ⟨h.1, h.2.keep (fun b _ hs => hk.2 b hs.1 hs.2) (fun _ _ h => h) hk.1⟩
theorem ready_any (v : StV) (kind : ByteArray) (w : World) :
    Calls Tryz.prog 21 #[.agg v.vals, .string kind] w fun e w' => e = .returned (.func (.func 30) #[] #[.pointer (some ⟨w.heap.size, 0, none⟩), .pointer (some ⟨w.heap.size + 1, 0, none⟩)]) ∧ w' = (w.alloc (.cells v.vals 33)).alloc (.cells #[.string kind] 9) := by
  go_enter Tryz.func21, Tryz.ntmps21
  go_wp2
  go_ret
  exact ⟨by simp, rfl⟩
set_option maxRecDepth 100000 in
set_option maxHeartbeats 4000000 in
theorem ready1 (lp sb n₀ n₂ : Nat) (T : Nat → Prop) (A : Option Addr) (m c : Nat) (kind : ByteArray) (l : List EJob) (J Jx : List (Nat × EJob) → World → Prop) (W : World)
    (hs6 : W.cell? ⟨sb, 6, none⟩ = some (.slice A m c)) (hk : W.heap[sb + 1]? = some (.cells #[.string kind] 9 (0, 0))) (hkn : sb + 1 < n₀ ∧ ¬ T (sb + 1)) (hr : ListR W (fun x => x < n₀ ∧ ¬ T x) 6 encJob A m c l)
    (h0 : J [] W) (hJ2 : ∀ pre W1 o, J pre W1 → J pre (World.alloc W1 o)) (hn0 : n₀ ≤ W.heap.size)
    (hY : ∀ pre x W1, J pre W1 → pre ++ [x] <+: rdy kind l 0 → YieldAt Fence.wide 0 Tryz.prog lp #[.int .i64 (x.1 : Nat), .agg #[.int .u64 x.2.key, .int .u64 x.2.token, .string x.2.typ, .int .i64 x.2.retries, .string x.2.worker, .int .i64 x.2.till]] W1 fun e W' =>
      (e = .returned (.bool true) ∧ J (pre ++ [x]) W' ∧ KeepN n₀ T W1 W') ∨ (e = .returned (.bool false) ∧ Jx (pre ++ [x]) W' ∧ KeepsFrom n₂ W1 W')) :
    CallsIn Fence.wide 0 Tryz.prog 30 #[.func (.yield lp) #[] #[], .pointer (some ⟨sb, 0, none⟩), .pointer (some ⟨sb + 1, 0, none⟩)] W fun e W' => (∃ v, e = .returned v) ∧
      ((∃ ys, ys = rdy kind l 0 ∧ J ys W') ∨ (∃ pre, pre <+: rdy kind l 0 ∧ Jx pre W')) := by
  refine callsIn_of_wp Tryz.func30 rfl trivial ?_ rfl
  simp only [Tryz.ntmps30, List.size_toArray, List.length_cons, List.length_nil, Nat.reduceAdd, Nat.reduceSub, Array.replicate_succ, Array.replicate_zero, List.push_toArray, List.append_toArray, List.nil_append, List.cons_append]
  have hm : m < 9223372036854775807 + 1 := by obtain ⟨A', c', e, h1, h2⟩ := hr.2.open_; omega
  have HR0 := Lib.hid hr
  have HK0 := Lib.hid hk
  have HL := Lib.hid hr.1
  clear hr hk
  gi_wp2
  clear hs6
  gi_loopw [9] (fun i wr => ∃ k : Nat, k ≤ m ∧ i = .int .i64 k ∧ J (rdy kind (l.take k) 0) wr ∧ Hid (ListR wr (fun x => x < n₀ ∧ ¬ T x) 6 encJob A m c l) ∧ Hid (wr.heap[sb + 1]? = some (.cells #[.string kind] 9 (0, 0))) ∧ Hid (n₀ ≤ wr.heap.size)) (fun i _ => m - (intOf i).toNat)
  case atStart => exact ⟨0, Nat.zero_le _, rfl, h0, HR0, HK0, Lib.hid hn0⟩
  case round =>
    obtain ⟨k, hk, rfl, hJs, HR, HK, HN⟩ := hrel
    by_cases hlt : k < m
    · have hkl : k < l.length := by rw [HL.out]; exact hlt
      obtain ⟨g, o, rfl, _, hc⟩ := HR.out.elem lenJob (by omega)
      have hx := hc k hkl
      have HT := Lib.hid (rdy_take kind hkl)
      have HP := Lib.hid (rdy_pre kind l (k + 1))
      generalize l[k] = x at *
      have c0 := hx 0 _ rfl
      rw [Nat.add_zero] at c0
      have c1 := hx 1 _ rfl
      have c2 := hx 2 _ rfl
      have c3 := hx 3 _ rfl
      have c4 := hx 4 _ rfl
      have c5 := hx 5 _ rfl
      have kc : (wr.alloc (.cells #[.int .u64 x.key, .int .u64 x.token, .string x.typ, .int .i64 x.retries, .string x.worker, .int .i64 x.till] 45)).cell? ⟨sb + 1, 0, none⟩ = some (.string kind) := cell_below (below_alloc (Below.refl _ wr) _) (cell_of_blk HK.out 0)
      clear hx hc
      by_cases h1 : (x.typ.toList == kind.toList) = true
      · by_cases h2 : x.worker.toList.isEmpty = true
        · by_cases h3 : 0 < x.retries
          · have hb : readyB kind x = true := by simp [readyB, h1, h2, h3]
            have HT2 : Hid (rdy kind (l.take (k + 1)) 0 = rdy kind (l.take k) 0 ++ [(k, x)]) := Lib.hid (by rw [HT.out, if_pos hb])
            clear hb
            obtain ⟨fn, tmps, assign, body, hy, hR⟩ := hY _ (k, x) (wr.alloc (.cells #[.int .u64 x.key, .int .u64 x.token, .string x.typ, .int .i64 x.retries, .string x.worker, .int .i64 x.till] 45)) (hJ2 _ _ _ hJs) (by rw [← HT2.out]; exact HP.out)
            gi_wp2
            refine ⟨rfl, hR.mono ?_⟩
            rintro e W3 (⟨rfl, hJ3, hk3⟩ | ⟨rfl, hJx3, -⟩)
            · have HR3 := Lib.hid (ListR.keepN HR.out (KeepN.trans (KeepN.of_mut (Mut.of_below (below_alloc (Below.refl _ _) _) (fun _ => False)) HN.out (fun _ _ h => h.elim)) hk3))
              have HK3 := Lib.hid (((KeepN.trans (KeepN.of_mut (Mut.of_below (below_alloc (Below.refl _ _) _) (fun _ => False)) HN.out (fun _ _ h => h.elim)) hk3).2 _ hkn.1 hkn.2).trans HK.out)
              have HN3 : Hid (n₀ ≤ W3.heap.size) := Lib.hid (by have h1 := HN.out; have h2 := hk3.1; rw [World.size_alloc] at h2; omega)
              clear hk3
              gi_wp2
              go_roundw
              case rel => exact ⟨k + 1, by omega, by simp, by rw [HT2.out]; exact hJ3, HR3, HK3, HN3⟩
              case measure => simp [intOf]; omega
            · gi_wp2
              refine bodyPost_ret (results_none rfl _ _ _) rfl ?_
              exact ⟨⟨_, rfl⟩, .inr ⟨_, by rw [← HT2.out]; exact HP.out, hJx3⟩⟩
          · have hb : readyB kind x = false := by simp [readyB, h3]
            have HT2 : Hid (rdy kind (l.take (k + 1)) 0 = rdy kind (l.take k) 0) := Lib.hid (by rw [HT.out, if_neg (by simp [hb]), List.append_nil])
            have hj := hJ2 _ _ (.cells #[.int .u64 x.key, .int .u64 x.token, .string x.typ, .int .i64 x.retries, .string x.worker, .int .i64 x.till] 45) hJs
            clear hb hJs
            gi_wp2
            all_goals (try (refine ⟨fun f h => (by cases h), ?_⟩; gi_wp2))
            have HR3 := Lib.hid (ListR.keepN HR.out (KeepN.trans (KeepN.of_mut (Mut.of_below (below_alloc (Below.refl _ _) _) (fun _ => False)) HN.out (fun _ _ h => h.elim)) (KeepN.refl _ _ (wr.alloc (.cells #[.int .u64 x.key, .int .u64 x.token, .string x.typ, .int .i64 x.retries, .string x.worker, .int .i64 x.till] 45)))))
            have HK3 := Lib.hid (((KeepN.trans (KeepN.of_mut (Mut.of_below (below_alloc (Below.refl _ _) _) (fun _ => False)) HN.out (fun _ _ h => h.elim)) (KeepN.refl _ _ (wr.alloc (.cells #[.int .u64 x.key, .int .u64 x.token, .string x.typ, .int .i64 x.retries, .string x.worker, .int .i64 x.till] 45)))).2 _ hkn.1 hkn.2).trans HK.out)
            have HN3 : Hid (n₀ ≤ (wr.alloc (.cells #[.int .u64 x.key, .int .u64 x.token, .string x.typ, .int .i64 x.retries, .string x.worker, .int .i64 x.till] 45)).heap.size) := Lib.hid (by have h1 := HN.out; rw [World.size_alloc]; omega)
            go_roundw
            case rel => exact ⟨k + 1, by omega, by simp, by rw [HT2.out]; exact hj, HR3, HK3, HN3⟩
            case measure => simp [intOf]; omega
        · have h2' : x.worker.toList.isEmpty = false := by simpa using h2
          have hb : readyB kind x = false := by simp only [readyB, h2', Bool.and_false, Bool.false_and]
          clear h2
          have HT2 : Hid (rdy kind (l.take (k + 1)) 0 = rdy kind (l.take k) 0) := Lib.hid (by rw [HT.out, if_neg (by simp [hb]), List.append_nil])
          have hj := hJ2 _ _ (.cells #[.int .u64 x.key, .int .u64 x.token, .string x.typ, .int .i64 x.retries, .string x.worker, .int .i64 x.till] 45) hJs
          clear hb hJs
          gi_wp2
          all_goals (try (refine ⟨fun f h => (by cases h), ?_⟩; gi_wp2))
          have HR3 := Lib.hid (ListR.keepN HR.out (KeepN.trans (KeepN.of_mut (Mut.of_below (below_alloc (Below.refl _ _) _) (fun _ => False)) HN.out (fun _ _ h => h.elim)) (KeepN.refl _ _ (wr.alloc (.cells #[.int .u64 x.key, .int .u64 x.token, .string x.typ, .int .i64 x.retries, .string x.worker, .int .i64 x.till] 45)))))
          have HK3 := Lib.hid (((KeepN.trans (KeepN.of_mut (Mut.of_below (below_alloc (Below.refl _ _) _) (fun _ => False)) HN.out (fun _ _ h => h.elim)) (KeepN.refl _ _ (wr.alloc (.cells #[.int .u64 x.key, .int .u64 x.token, .string x.typ, .int .i64 x.retries, .string x.worker, .int .i64 x.till] 45)))).2 _ hkn.1 hkn.2).trans HK.out)
          have HN3 : Hid (n₀ ≤ (wr.alloc (.cells #[.int .u64 x.key, .int .u64 x.token, .string x.typ, .int .i64 x.retries, .string x.worker, .int .i64 x.till] 45)).heap.size) := Lib.hid (by have h1 := HN.out; rw [World.size_alloc]; omega)
          go_roundw
          case rel => exact ⟨k + 1, by omega, by simp, by rw [HT2.out]; exact hj, HR3, HK3, HN3⟩
          case measure => simp [intOf]; omega
      · have h1' : (x.typ.toList == kind.toList) = false := by simpa using h1
        have hb : readyB kind x = false := by simp only [readyB, h1', Bool.false_and]
        clear h1
        have HT2 : Hid (rdy kind (l.take (k + 1)) 0 = rdy kind (l.take k) 0) := Lib.hid (by rw [HT.out, if_neg (by simp [hb]), List.append_nil])
        have hj := hJ2 _ _ (.cells #[.int .u64 x.key, .int .u64 x.token, .string x.typ, .int .i64 x.retries, .string x.worker, .int .i64 x.till] 45) hJs
        clear hb hJs
        gi_wp2
        all_goals (try (refine ⟨fun f h => (by cases h), ?_⟩; gi_wp2))
        have HR3 := Lib.hid (ListR.keepN HR.out (KeepN.trans (KeepN.of_mut (Mut.of_below (below_alloc (Below.refl _ _) _) (fun _ => False)) HN.out (fun _ _ h => h.elim)) (KeepN.refl _ _ (wr.alloc (.cells #[.int .u64 x.key, .int .u64 x.token, .string x.typ, .int .i64 x.retries, .string x.worker, .int .i64 x.till] 45)))))
        have HK3 := Lib.hid (((KeepN.trans (KeepN.of_mut (Mut.of_below (below_alloc (Below.refl _ _) _) (fun _ => False)) HN.out (fun _ _ h => h.elim)) (KeepN.refl _ _ (wr.alloc (.cells #[.int .u64 x.key, .int .u64 x.token, .string x.typ, .int .i64 x.retries, .string x.worker, .int .i64 x.till] 45)))).2 _ hkn.1 hkn.2).trans HK.out)
        have HN3 : Hid (n₀ ≤ (wr.alloc (.cells #[.int .u64 x.key, .int .u64 x.token, .string x.typ, .int .i64 x.retries, .string x.worker, .int .i64 x.till] 45)).heap.size) := Lib.hid (by have h1 := HN.out; rw [World.size_alloc]; omega)
        go_roundw
        case rel => exact ⟨k + 1, by omega, by simp, by rw [HT2.out]; exact hj, HR3, HK3, HN3⟩
        case measure => simp [intOf]; omega
    · obtain rfl : k = m := by omega
      gi_wp2
      go_end0
      exact ⟨⟨_, rfl⟩, .inl ⟨_, rfl, by rw [List.take_of_length_le (by rw [HL.out]; exact Nat.le_refl _)] at hJs; exact hJs⟩⟩
theorem ready_seq {n₀ n₂ sb : Nat} {T : Nat → Prop} {A : Option Addr} {m c : Nat} {kind : ByteArray} {l : List EJob} {w : World}
    (hs6 : w.cell? ⟨sb, 6, none⟩ = some (.slice A m c)) (hk : w.heap[sb + 1]? = some (.cells #[.string kind] 9 (0, 0))) (hkn : sb + 1 < n₀ ∧ ¬ T (sb + 1)) (hr : ListR w (fun x => x < n₀ ∧ ¬ T x) 6 encJob A m c l) (hn0 : n₀ ≤ w.heap.size) :
    SeqN Tryz.prog 30 #[.pointer (some ⟨sb, 0, none⟩), .pointer (some ⟨sb + 1, 0, none⟩)] (fun x : Nat × EJob => #[.int .i64 (x.1 : Nat), .agg #[.int .u64 x.2.key, .int .u64 x.2.token, .string x.2.typ, .int .i64 x.2.retries, .string x.2.worker, .int .i64 x.2.till]]) (KeepN n₀ T) (fun ys => ys = rdy kind l 0) (fun pre => pre <+: rdy kind l 0) (fun pre => pre <+: rdy kind l 0) n₂ w := by
  intro lp J Jx W hW _ hJ _ hY h0
  exact ready1 lp sb n₀ n₂ T A m c kind l J Jx W (cell_below hW hs6) (block_below hW hk) hkn ⟨hr.1, hr.2.below hW⟩ h0 (fun pre W1 o h => hJ.alloc _ h) (Nat.le_trans hn0 hW.size) hY
end Go.Proofs.YtfjdllpacdobdaaGreat
/-
  Words for book.Activate: what a round over the jobs that are ready keeps. 
-/
set_option linter.unusedVariables false
set_option linter.unusedSimpArgs false
namespace Go.Proofs.Base
open Go Go.RowKit
def isC (W : World) (x : Nat) : Prop := ∃ cs t f, W.heap[x]? = some (.cells cs t f)
theorem Row.cellsS {w : World} {S : Nat → Prop} {sz n : Nat} {v : Value} {cs : List Value} (h : Row w S sz n v cs) (hsz : 0 < sz) : Row w (fun x => S x ∧ isC w x) sz n v cs := by
  obtain ⟨A, c, hv, h1, h2, h3, h4, h5⟩ := h
  refine ⟨A, c, hv, h1, h2, h3, h4, fun hn => ?_⟩
  obtain ⟨b, o, hA, hS, hlt, hc⟩ := h5 hn
  refine ⟨b, o, hA, ⟨hS, ?_⟩, hlt, hc⟩
  have hp : 0 < cs.length := by rw [h3]; exact Nat.mul_pos hn hsz
  have h0 := hc 0 cs[0] (List.getElem?_eq_getElem hp)
  unfold World.cell? at h0
  split at h0
  · exact ⟨_, _, _, by assumption⟩
  · cases h0
theorem StR.cellsS {w : World} {S : Nat → Prop} {v : StV} {g : GSt} (h : StR w S v g) : StR w (fun x => S x ∧ isC w x) v g :=
  ⟨h.pos, h.done, h.made, ⟨h.procs.1, h.procs.2.cellsS (by decide)⟩, ⟨h.insts.1, h.insts.2.cellsS (by decide)⟩, ⟨h.tokens.1, h.tokens.2.cellsS (by decide)⟩, ⟨h.jobs.1, h.jobs.2.cellsS (by decide)⟩, ⟨h.timers.1, h.timers.2.cellsS (by decide)⟩, ⟨h.subs.1, h.subs.2.cellsS (by decide)⟩, ⟨h.kept.1, h.kept.2.cellsS (by decide)⟩, ⟨h.listed.1, h.listed.2.cellsS (by decide)⟩, ⟨h.msgs.1, h.msgs.2.cellsS (by decide)⟩,
    fun x hx => ⟨(h.vinst x hx).1, (h.vinst x hx).2.1, (h.vinst x hx).2.2.cellsS (by decide)⟩, fun x hx => ⟨(h.vlist x hx).1, (h.vlist x hx).2.1, (h.vlist x hx).2.2.cellsS (by decide)⟩, fun x hx => ⟨(h.vmsg x hx).1, (h.vmsg x hx).2.1, (h.vmsg x hx).2.2.cellsS (by decide)⟩, fun x hx => ⟨(h.imsg x hx).1, (h.imsg x hx).2.cellsS (by decide)⟩⟩
theorem own_type {w : World} {base e size n : Nat} {v : Value} {xs : List Value} (h : w.ownsRow base e size v n xs) {b : Nat} (hb : v.ownBlock = some b) : base ≤ b ∧ ∃ cs, w.heap[b]? = some (.cells cs e (0, 0)) := by
  rcases h.2 with ⟨rfl, _⟩ | ⟨g, cap, cur, rfl, hbg, hh, _⟩
  · simp [Value.ownBlock] at hb
  · obtain rfl : g = b := by simpa [Value.ownBlock] using hb
    exact ⟨hbg, _, hh⟩
theorem ownFrom_blk {β : Type} (B b : Nat) (cs : Array Value) (t : TypeId) : OwnFrom B (fun (_ : β) W => W.heap[b]? = some (.cells cs t (0, 0))) := fun s W W' row hs hg hr =>
  (hg.block b (lt_of_blk hs) (fun e => by obtain ⟨_, o, ho, hc⟩ := hr b e.symm; rw [hs] at ho; injection ho with ho; subst ho; cases hc)).trans hs
theorem ownFrom_mut {β : Type} {B : Nat} {T : Nat → Prop} {V : World} (hB : V.heap.size ≤ B) : OwnFrom B (fun (_ : β) W => Mut T V W) := fun _ _ _ _ hs hg hr =>
  Mut.trans hs (Mut.grown (T := fun x => B ≤ x) hg (fun r e => (hr r e).1)) (fun x hx h => by omega)
end Go.Proofs.Base
namespace Go.Proofs.YtfjdllpacdobdaaGreat
open Go Go.RowKit Go.Proofs.Base
def tkR (key : Int) (worker : ByteArray) (till : Int) : GRec := ⟨0, 7, 0, 0, key, 0, 0, till, 0, worker, ⟨#[]⟩, ⟨#[]⟩, []⟩
def bkR (key n : Int) : GRec := ⟨0, 8, 0, 0, key, 0, 0, n, 0, ⟨#[]⟩, ⟨#[]⟩, ⟨#[]⟩, []⟩
def dnR : GRec := ⟨0, 24, 0, 0, 0, 0, 0, 0, 0, ⟨#[]⟩, ⟨#[]⟩, ⟨#[]⟩, []⟩
section
variable {S : Nat → Prop} {b : Nat} {w : World} {v : StV} {g : GSt} {p : WkP}
theorem em7 (h : WkB S b w v g p) (hm : (p.m + 1) * 144 ≤ 140737488355328) (hf : g.fits) (key : Int) (worker : ByteArray) (till : Int) :
    Calls Tryz.prog 25 #[.pointer (some ⟨b, 0, none⟩), .agg #[.int .i64 0, .int .i64 7, .int .u64 0, .int .i64 0, .int .u64 key, .int .u64 0, .int .u64 0, .int .i64 till, .int .i64 0, .string worker, .string ⟨#[]⟩, .string ⟨#[]⟩, .slice none 0 0]] w (EmitTo S b w v g p (tkR key worker till)) :=
  wk_Emit h hm (tkR key worker till) rfl (fun W A c hs hv => by have k := ap_k7 (r := emR p (tkR key worker till)) (vN := 0) (IntKind.u64.wrap (v.Pp + 1)) hs hv rfl rfl hf; rw [hs.pos] at k ⊢; exact k)
theorem em8 (h : WkB S b w v g p) (hm : (p.m + 1) * 144 ≤ 140737488355328) (hf : g.fits) (key n : Int) :
    Calls Tryz.prog 25 #[.pointer (some ⟨b, 0, none⟩), .agg #[.int .i64 0, .int .i64 8, .int .u64 0, .int .i64 0, .int .u64 key, .int .u64 0, .int .u64 0, .int .i64 n, .int .i64 0, .string ⟨#[]⟩, .string ⟨#[]⟩, .string ⟨#[]⟩, .slice none 0 0]] w (EmitTo S b w v g p (bkR key n)) :=
  wk_Emit h hm (bkR key n) rfl (fun W A c hs hv => by have k := ap_k8 (r := emR p (bkR key n)) (vN := 0) (IntKind.u64.wrap (v.Pp + 1)) hs hv rfl rfl hf; rw [hs.pos] at k ⊢; exact k)
theorem em24 (h : WkB S b w v g p) (hm : (p.m + 1) * 144 ≤ 140737488355328) :
    Calls Tryz.prog 25 #[.pointer (some ⟨b, 0, none⟩), .agg #[.int .i64 0, .int .i64 24, .int .u64 0, .int .i64 0, .int .u64 0, .int .u64 0, .int .u64 0, .int .i64 0, .int .i64 0, .string ⟨#[]⟩, .string ⟨#[]⟩, .string ⟨#[]⟩, .slice none 0 0]] w (EmitTo S b w v g p dnR) :=
  wk_Emit h hm dnR rfl (fun W A c hs hv => by have k := apply_not (r := emR p dnR) (vN := 0) (IntKind.u64.wrap (v.Pp + 1)) hs (by unfold emR dnR i64; simp) hv (.inr rfl) (fun _ => by funext g; unfold evP emR dnR; simp); rw [hs.pos] at k ⊢; exact k)
theorem WkB.own {B : World} {row : Option Nat} (h : WkB S b w v g p) (hg : w.grownBy B row) (hr : ∀ r, row = some r → ∃ o : Obj, w.heap[r]? = some o ∧ o.isCells = false) : WkB (fun x => S x ∧ isC w x) b B v g p := by
  have no : ∀ {x : Nat} {cs : Array Value} {t : TypeId} {f : Nat × Nat}, w.heap[x]? = some (.cells cs t f) → ¬ row = some x := fun hx e => by
    obtain ⟨o, ho, hc⟩ := hr _ e
    rw [hx] at ho; injection ho with ho; subst ho; cases hc
  have hm : Mut (fun x => row = some x) w B := Mut.grown hg (fun _ h => h)
  refine ⟨hm.blk h.box (no h.box), h.st.cellsS.mut hm (fun x _ hs ht => ?_) (fun _ _ h => h), h.ev.imp fun _ ho => own_mut ho hm (fun x hx => ?_), h.ne, fun x hx => ⟨(h.dis x hx.1).1, Nat.lt_of_lt_of_le (h.dis x hx.1).2 hm.size⟩⟩
  · obtain ⟨_, cs, t, f, hx⟩ := hs; exact no hx ht
  · obtain ⟨_, cs, hx2⟩ := own_type ho hx; exact no hx2
end
def stepP (p : WkP) (r : GRec) (g : GSt) : GSt := applyP (IntKind.u64.wrap (g.pos + 1)) (emR p r) g
def takeP (p : WkP) (worker : ByteArray) (till : Int) (ts : List (Nat × EJob)) (g : GSt) : GSt := ts.foldl (fun g x => stepP p (tkR x.2.key worker till) g) g
def outJ (worker : ByteArray) (till : Int) (x : Nat × EJob) : EJob := { x.2 with worker := worker, till := till }
def ActI (n₀ b Bo : Nat) (S0 : Nat → Prop) (g0 : GSt) (p0 : WkP) (worker : ByteArray) (till : Int) (F : Nat → Prop) (pre : List (Nat × EJob)) (W : World) : Prop :=
  ∃ S v g p A c, WkB S b W v g p ∧ g.pure = takeP p0 worker till pre g0.pure ∧ (p.m = p0.m + pre.length ∧ p.part = p0.part ∧ p.pos = p0.pos ∧ p.now = p0.now) ∧ W.heap[Bo]? = some (.cells #[.slice A pre.length c] 26 (0, 0)) ∧ W.ownsRow n₀ 45 6 (.slice A pre.length c) pre.length ((pre.map (outJ worker till)).flatMap encJob) ∧
    (∀ x, F x → ¬ S x ∧ ¬ p.T b x ∧ (Value.slice A pre.length c).ownBlock ≠ some x) ∧ (∀ x, (Value.slice A pre.length c).ownBlock = some x → ¬ S x ∧ ¬ p.T b x) ∧ (∀ x, S x → S0 x ∨ n₀ ≤ x) ∧ (∀ x, p.T b x → p0.T b x ∨ n₀ ≤ x)
theorem actI_own (B n₀ b Bo : Nat) (S0 : Nat → Prop) (g0 : GSt) (p0 : WkP) (worker : ByteArray) (till : Int) (F : Nat → Prop) : OwnFrom B (ActI n₀ b Bo S0 g0 p0 worker till F) := by
  rintro pre W W' row ⟨S, v, g, p, A, c, hw, hp, hq, hb, ho, hF, hd, hS, hT⟩ hg hr
  have no : ∀ {x : Nat} {cs : Array Value} {t : TypeId} {f : Nat × Nat}, W.heap[x]? = some (.cells cs t f) → ¬ row = some x := fun hx e => by
    obtain ⟨_, o, ho, hc⟩ := hr _ e
    rw [hx] at ho; injection ho with ho; subst ho; cases hc
  have hm : Mut (fun x => row = some x) W W' := Mut.grown hg (fun _ h => h)
  exact ⟨_, v, g, p, A, c, hw.own hg (fun r e => (hr r e).2), hp, hq, hm.blk hb (no hb), own_mut ho hm (fun x hx => by obtain ⟨_, cs, hx2⟩ := own_type ho hx; exact no hx2), fun x hx => ⟨fun h => (hF x hx).1 h.1, (hF x hx).2⟩, fun x hx => ⟨fun h => (hd x hx).1 h.1, (hd x hx).2⟩, fun x hx => hS x hx.1, hT⟩
theorem ActI.new {n₀ b Bo : Nat} {S0 : Nat → Prop} {g0 : GSt} {p0 : WkP} {worker : ByteArray} {till : Int} {F : Nat → Prop} {pre : List (Nat × EJob)} {W : World} (h : ActI n₀ b Bo S0 g0 p0 worker till F pre W) (o : Obj) :
    ActI n₀ b Bo S0 g0 p0 worker till (fun x => F x ∨ x = W.heap.size) pre (W.alloc o) := by
  obtain ⟨S, v, g, p, A, c, hw, hp, hq, hb, ho, hF, hd, hS, hT⟩ := h
  have hbl : Below W.heap.size W (W.alloc o) := below_alloc (Below.refl _ _) _
  refine ⟨S, v, g, p, A, c, hw.below hbl, hp, hq, block_below hbl hb, own_carry ho hbl, fun x hx => ?_, hd, hS, hT⟩
  rcases hx with hx | rfl
  · exact hF x hx
  · exact ⟨fun h => by have := (hw.dis _ h).2; omega, fun h => by have := hw.lt h; omega, fun h => by have := (ho.lt _ h).2; omega⟩
end Go.Proofs.YtfjdllpacdobdaaGreat
/-
  Words for book.Activate: what a round makes of what stands; lists stay as long as they are.
-/
set_option linter.unusedVariables false
set_option linter.unusedSimpArgs false
namespace Go.Proofs.Base
open Go Go.RowKit
theorem wpIn_app_at {F : Fence} {nF : Nat} {P : Program} {W : World} {ops : Array Oper} {rest : List Oper} {o : Oper} {a : Act} {Q : Exit → Act → World → Prop} {t e : TypeId} {sz bytes : Nat} (E : ElemT P t e sz bytes) (hsz : 0 < sz)
    (hgd : o.guard = none) (s x : Operand) (ho : o.op = .call { callee := .builtin .append, args := #[s, x], argTypes := #[t, t] })
    (base : Nat) (v : Value) (n : Nat) (xs cs : List Value) (hs : a.eval s = v) (z0 : Nat) (hz0 : z0 = W.heap.size) (hx : a.eval x = .slice (some ⟨z0, 0, none⟩) 1 1) (hcs : cs.length = sz) (h1 : ∀ u ∈ cs, u.oneCell' = true)
    (HO : W.ownsRow base e sz v n xs) (hbase : base ≤ W.heap.size) (hl : n + 1 ≤ 140737488355328) (hl2 : (n + 1) * bytes ≤ 140737488355328)
    (h : ∀ v1 w1, w1.ownsRow base e sz v1 (n + 1) (xs ++ cs) → (W.alloc (.cells cs.toArray e)).grownBy w1 v.ownBlock → (∀ g, v1.ownBlock = some g → v.ownBlock = some g ∨ W.heap.size ≤ g) → wpListIn F nF P ops Q rest (a.put o.dst v1) w1) :
    wpListIn F nF P ops Q (o :: rest) a (W.alloc (.cells cs.toArray e)) := by
  subst hz0
  obtain ⟨i0, z, hi, hz0, hz1, hz2, hzc⟩ := E.hi
  refine wpListIn_plain hgd fun K hK' => ?_
  obtain ⟨v', w', hrun, r1, r2, -, r4⟩ := run_append_own_at (P := P) (w := W.alloc (.cells cs.toArray e)) base t o.type e i0 z sz bytes E.ht hi hz0 hz1 hz2 hzc hsz v n xs (HO.alloc _) ⟨W.heap.size, 0, none⟩ 1 1 cs (by omega)
    (World.news_of_block (cs := cs.toArray) (t := e) (fr := (0, 0)) (heap_alloc_new W _)) h1 (by simp only [maxLen]; omega) hl2 (by simp; omega)
  unfold Oper.wpIn
  refine ⟨?_, ?_⟩
  · simp [Oper.about, ho, resolve, Target.leads, Sem.run_pure]
  · rw [Oper.semAt_plain F _ _ (by rw [ho]; intro c hc'; cases hc')]
    simp [execOp, ho, resolve, invoke, builtin, hs, hx, hrun, Result.andThen]
    refine hK' _ _ (h v' w' r1 r2 (fun g hg => ?_))
    rcases r4 with r4 | r4
    · exact .inl (r4 ▸ hg)
    · rw [r4] at hg
      injection hg with hg
      rw [World.size_alloc] at hg
      exact .inr (by omega)
theorem KeepsFrom.of_mut {B : Nat} {T : Nat → Prop} {W W' : World} (h : Mut T W W') (hT : ∀ x, T x → x < W.heap.size → isC W x) : KeepsFrom B W W' :=
  ⟨h.size, fun k o _ ho hc => h.blk ho (fun ht => by
    obtain ⟨cs, t, f, hx⟩ := hT k ht (lt_of_blk ho)
    rw [ho] at hx; injection hx with hx; subst hx; cases hc)⟩
def GSt.alike (g g' : GSt) : Prop := g.procs.length = g'.procs.length ∧ g.insts.length = g'.insts.length ∧ g.tokens.length = g'.tokens.length ∧ g.jobs.length = g'.jobs.length ∧ g.timers.length = g'.timers.length ∧ g.subs.length = g'.subs.length ∧ g.kept.length = g'.kept.length ∧ g.listed.length = g'.listed.length ∧ g.msgs.length = g'.msgs.length ∧ g.msgs.map pureMsg = g'.msgs.map pureMsg
theorem alike_refl (g : GSt) : g.alike g := ⟨rfl, rfl, rfl, rfl, rfl, rfl, rfl, rfl, rfl, rfl⟩
theorem GSt.alike.trans {a b c : GSt} (h : a.alike b) (k : b.alike c) : a.alike c :=
  ⟨h.1.trans k.1, h.2.1.trans k.2.1, h.2.2.1.trans k.2.2.1, h.2.2.2.1.trans k.2.2.2.1, h.2.2.2.2.1.trans k.2.2.2.2.1, h.2.2.2.2.2.1.trans k.2.2.2.2.2.1, h.2.2.2.2.2.2.1.trans k.2.2.2.2.2.2.1, h.2.2.2.2.2.2.2.1.trans k.2.2.2.2.2.2.2.1, h.2.2.2.2.2.2.2.2.1.trans k.2.2.2.2.2.2.2.2.1, h.2.2.2.2.2.2.2.2.2.trans k.2.2.2.2.2.2.2.2.2⟩
theorem GSt.alike.fits {a b : GSt} (h : a.alike b) (hf : b.fits) : a.fits := by
  obtain ⟨h1, h2, h3, h4, h5, h6, h7, h8, h9, -⟩ := h
  unfold GSt.fits at hf ⊢
  rw [h1, h2, h3, h4, h5, h6, h7, h8, h9]
  exact hf
theorem GSt.alike.ints {a b : GSt} (h : a.alike b) {n : Nat} (hi : ∀ x ∈ b.msgs, x.insts.length * 8 ≤ n) : ∀ x ∈ a.msgs, x.insts.length * 8 ≤ n := fun x hx => by
  have h1 : pureMsg x ∈ b.msgs.map pureMsg := h.2.2.2.2.2.2.2.2.2 ▸ List.mem_map_of_mem hx
  obtain ⟨y, hy, e⟩ := List.mem_map.1 h1
  have := hi y hy
  have e2 : (pureMsg y).insts = (pureMsg x).insts := by rw [e]
  have e3 : y.insts = x.insts := e2
  rwa [e3] at this
theorem alike_pure (g : GSt) : g.pure.alike g := ⟨rfl, by simp [GSt.pure], rfl, rfl, rfl, rfl, rfl, by simp [GSt.pure], by simp [GSt.pure], by simp [GSt.pure, Function.comp_def, pureMsg]⟩
theorem GSt.alike.symm {a b : GSt} (h : a.alike b) : b.alike a :=
  ⟨h.1.symm, h.2.1.symm, h.2.2.1.symm, h.2.2.2.1.symm, h.2.2.2.2.1.symm, h.2.2.2.2.2.1.symm, h.2.2.2.2.2.2.1.symm, h.2.2.2.2.2.2.2.1.symm, h.2.2.2.2.2.2.2.2.1.symm, h.2.2.2.2.2.2.2.2.2.symm⟩
theorem alike_of {g g' : GSt} (h : g.pure.alike g'.pure) : g.alike g' := ((alike_pure g).symm.trans h).trans (alike_pure g')
end Go.Proofs.Base
namespace Go.Proofs.YtfjdllpacdobdaaGreat
open Go Go.RowKit Go.Proofs.Base
theorem step_tk (p : WkP) (key : Int) (worker : ByteArray) (till : Int) (g : GSt) : (stepP p (tkR key worker till) g).alike g := by
  unfold stepP applyP evP emR tkR
  simp [GSt.alike, changeL_len]
theorem take_alike (p : WkP) (worker : ByteArray) (till : Int) : ∀ (ts : List (Nat × EJob)) (g : GSt), (takeP p worker till ts g).alike g
  | [], g => alike_refl g
  | x :: ts, g => (take_alike p worker till ts _).trans (step_tk p _ _ _ _)
theorem take_snoc (p : WkP) (worker : ByteArray) (till : Int) (ts : List (Nat × EJob)) (x : Nat × EJob) (g : GSt) : takeP p worker till (ts ++ [x]) g = stepP p (tkR x.2.key worker till) (takeP p worker till ts g) := by
  unfold takeP; rw [List.foldl_append]; rfl
theorem emR_eq {p p' : WkP} (h1 : p'.pos = p.pos) (h2 : p'.now = p.now) (r : GRec) : emR p' r = emR p r := by unfold emR; rw [h1, h2]
theorem act_round {n₀ b Bo Jb : Nat} {S0 F S2 S3 T0 : Nat → Prop} {g0 g2 g3 : GSt} {p0 p2 p3 : WkP} {v2 v3 : StV} {worker : ByteArray} {till : Int} {pre : List (Nat × EJob)} {x : Nat × EJob} {V U U1 U2 w4 : World} {A2 A4 : Option Addr} {c2 c4 : Nat} {ob : Obj} {jc : Array Value} {tj : TypeId} {fj : Nat × Nat}
    (hW2 : WkB S2 b U v2 g2 p2) (hp2 : g2.pure = takeP p0 worker till pre g0.pure) (hq2 : p2.m = p0.m + pre.length ∧ p2.part = p0.part ∧ p2.pos = p0.pos ∧ p2.now = p0.now) (hbo : U.heap[Bo]? = some (.cells #[.slice A2 pre.length c2] 26 (0, 0)))
    (ho : U.ownsRow n₀ 45 6 (.slice A2 pre.length c2) pre.length ((pre.map (outJ worker till)).flatMap encJob)) (hF2 : ∀ y, F y ∨ y = Jb → ¬ S2 y ∧ ¬ p2.T b y ∧ (Value.slice A2 pre.length c2).ownBlock ≠ some y) (hd2 : ∀ y, (Value.slice A2 pre.length c2).ownBlock = some y → ¬ S2 y ∧ ¬ p2.T b y) (hS2 : ∀ y, S2 y → S0 y ∨ n₀ ≤ y) (hT2 : ∀ y, p2.T b y → p0.T b y ∨ n₀ ≤ y)
    (hFn : ∀ y, F y → y < n₀) (hBF : F Bo) (hUn : n₀ ≤ U.heap.size) (hJn : n₀ ≤ Jb) (hJc : U.heap[Jb]? = some (.cells jc tj fj))
    (hW3 : WkB S3 b U1 v3 g3 p3) (hp3 : g3.pure = applyP (IntKind.u64.wrap (g2.pos + 1)) (emR p2 (tkR x.2.key worker till)) g2.pure) (hm3 : p3.m = p2.m + 1) (ha3 : p3.part = p2.part) (hb3 : p3.pos = p2.pos) (hn3 : p3.now = p2.now) (hS3 : ∀ y, S3 y → S2 y ∨ U.heap.size ≤ y) (hT3 : ∀ y, p3.T b y → p2.T b y ∨ U.heap.size ≤ y) (hMu : Mut (p2.T b) U U1)
    (hM2 : Mut (fun y => y = Jb) U1 U2) (ho4 : w4.ownsRow n₀ 45 6 (.slice A4 (pre.length + 1) c4) (pre.length + 1) ((pre.map (outJ worker till)).flatMap encJob ++ encJob (outJ worker till x))) (hg4 : (U2.alloc ob).grownBy w4 (Value.slice A2 pre.length c2).ownBlock)
    (hat : ∀ y, (Value.slice A4 (pre.length + 1) c4).ownBlock = some y → (Value.slice A2 pre.length c2).ownBlock = some y ∨ U2.heap.size ≤ y) (hMV : Mut T0 V U) (hVn : V.heap.size = n₀) (hT0 : ∀ y, p0.T b y ∨ y = Bo → T0 y) :
    KeepsFrom n₀ U (w4.setCell ⟨Bo, 0, none⟩ (.slice A4 (pre.length + 1) c4)) ∧ KeepN n₀ T0 U (w4.setCell ⟨Bo, 0, none⟩ (.slice A4 (pre.length + 1) c4)) ∧ ActI n₀ b Bo S0 g0 p0 worker till F (pre ++ [x]) (w4.setCell ⟨Bo, 0, none⟩ (.slice A4 (pre.length + 1) c4)) ∧ Mut T0 V (w4.setCell ⟨Bo, 0, none⟩ (.slice A4 (pre.length + 1) c4)) := by
  generalize hu4 : (Value.slice A4 (pre.length + 1) c4) = u4 at *
  have hBn := hFn Bo hBF
  have hJl : Jb < U.heap.size := lt_of_blk hJc
  have hm1 : Mut (fun y => y = Jb ∨ (Value.slice A2 pre.length c2).ownBlock = some y ∨ y = Bo) U1 (w4.setCell ⟨Bo, 0, none⟩ u4) :=
    Mut.setCell (Mut.trans (Mut.trans (hM2.mono (fun _ _ h => .inl h)) (Mut.of_below (below_alloc (Below.refl _ _) ob) (fun _ => False)) (fun _ _ h => h.elim)) (Mut.grown (T := fun y => (Value.slice A2 pre.length c2).ownBlock = some y) hg4 (fun _ h => h)) (fun _ _ h => .inr (.inl h))) (p := ⟨Bo, 0, none⟩) (fun _ => .inr (.inr rfl)) u4
  have hall : Mut (fun y => p2.T b y ∨ y = Jb ∨ (Value.slice A2 pre.length c2).ownBlock = some y ∨ y = Bo) U (w4.setCell ⟨Bo, 0, none⟩ u4) := Mut.trans (hMu.mono (fun _ _ h => .inl h)) hm1 (fun _ _ h => .inr h)
  have hkn : KeepN n₀ T0 U (w4.setCell ⟨Bo, 0, none⟩ u4) := KeepN.of_mut hall hUn (fun y hy ht => by
    rcases ht with ht | rfl | ht | rfl
    · exact hT0 y (.inl ((hT2 y ht).resolve_right (by omega)))
    · omega
    · have := (ho.lt y ht).1; omega
    · exact hT0 _ (.inr rfl))
  refine ⟨KeepsFrom.of_mut hall (fun y ht hlt => ?_), hkn, ?_, ?_⟩
  · rcases ht with ht | rfl | ht | rfl
    · rcases ht with rfl | ht
      · exact ⟨_, _, _, hW2.box⟩
      · obtain ⟨xs, hx⟩ := hW2.ev
        obtain ⟨_, cs, h⟩ := own_type hx ht
        exact ⟨cs, _, _, h⟩
    · exact ⟨_, _, _, hJc⟩
    · obtain ⟨_, cs, h⟩ := own_type ho ht
      exact ⟨cs, _, _, h⟩
    · exact ⟨_, _, _, hbo⟩
  · have hlen : (pre ++ [x]).length = pre.length + 1 := by simp
    have hs1 := hMu.size
    have hs2 := hM2.size
    have hold : ∀ y, y < U.heap.size → ¬ S2 y → ¬ p2.T b y → ¬ S3 y ∧ ¬ p3.T b y := fun y hy h1 h2 => ⟨fun h => (hS3 y h).elim h1 (by omega), fun h => (hT3 y h).elim h2 (by omega)⟩
    have hF3 : ∀ y, F y ∨ y = Jb → ¬ S3 y ∧ ¬ p3.T b y := fun y hy => hold y (by rcases hy with hy | rfl; have := hFn y hy; omega; exact hJl) (hF2 y hy).1 (hF2 y hy).2.1
    have hO3 : ∀ y, (Value.slice A2 pre.length c2).ownBlock = some y → ¬ S3 y ∧ ¬ p3.T b y := fun y hy => hold y (ho.lt y hy).2 (hd2 y hy).1 (hd2 y hy).2
    have hu : u4 = .slice A4 (pre.length + 1) c4 := hu4.symm
    have hw4B : w4.heap[Bo]? = some (.cells #[.slice A2 pre.length c2] 26 (0, 0)) := by
      have k1 := hMu.blk hbo (hF2 Bo (.inl hBF)).2.1
      have k2 := hM2.blk k1 (by omega)
      have k3 := block_below (below_alloc (Below.refl _ U2) ob) k2
      exact (hg4.block Bo (lt_of_blk k3) (fun e => (hF2 Bo (.inl hBF)).2.2 e.symm)).trans k3
    refine ⟨S3, v3, g3, p3, A4, c4, ?_, ?_, ⟨by rw [hm3, hq2.1, hlen]; omega, ha3.trans hq2.2.1, hb3.trans hq2.2.2.1, hn3.trans hq2.2.2.2⟩, ?_, ?_, ?_, ?_, ?_, ?_⟩
    · refine hW3.mut hm1 (fun y hy => ?_)
      rcases hy with rfl | hy | rfl
      · exact (hF3 _ (.inr rfl)).symm
      · exact (hO3 y hy).symm
      · exact (hF3 _ (.inl hBF)).symm
    · rw [take_snoc, ← hp2, hp3, emR_eq hq2.2.2.1 hq2.2.2.2]; rfl
    · rw [hlen, ← hu]; exact set_blk (o := 0) hw4B u4
    · rw [hlen, List.map_append, List.flatMap_append, ← hu]
      have h2 := own_mut ho4 (Mut.setCell (T := fun y => y = Bo) (Mut.refl _ w4) (p := ⟨Bo, 0, none⟩) (fun _ => rfl) u4) (fun y hy e => by have := (ho4.lt y hy).1; omega)
      simpa using h2
    · intro y hy
      refine ⟨(hF3 y (.inl hy)).1, (hF3 y (.inl hy)).2, fun e => ?_⟩
      rw [hlen, ← hu] at e
      have := (ho4.lt y e).1
      have := hFn y hy
      omega
    · intro y hy
      rw [hlen, ← hu] at hy
      rcases hat y hy with h | h
      · exact hO3 y h
      · exact ⟨fun h' => by have := (hW3.dis y h').2; omega, fun h' => by have := hW3.lt h'; omega⟩
    · exact fun y hy => (hS3 y hy).elim (hS2 y) (fun h => .inr (by omega))
    · exact fun y hy => (hT3 y hy).elim (hT2 y) (fun h => .inr (by omega))
  · refine Mut.trans hMV hall (fun y hy ht => ?_)
    rcases ht with ht | rfl | ht | rfl
    · exact hT0 y (.inl ((hT2 y ht).resolve_right (by omega)))
    · omega
    · have := (ho.lt y ht).1; omega
    · exact hT0 _ (.inr rfl)
def ActX (n₀ b Bo : Nat) (S0 : Nat → Prop) (g0 : GSt) (p0 : WkP) (worker : ByteArray) (till : Int) (F : Nat → Prop) (most : Int) (pre' : List (Nat × EJob)) (W : World) : Prop := ∃ pre x, pre' = pre ++ [x] ∧ (pre.length : Int) = most ∧ ActI n₀ b Bo S0 g0 p0 worker till F pre W
theorem actX_own (B n₀ b Bo : Nat) (S0 : Nat → Prop) (g0 : GSt) (p0 : WkP) (worker : ByteArray) (till : Int) (F : Nat → Prop) (most : Int) : OwnFrom B (ActX n₀ b Bo S0 g0 p0 worker till F most) := fun pre' W W' row hs hg hr => by
  obtain ⟨pre, x, h1, h2, h3⟩ := hs
  exact ⟨pre, x, h1, h2, actI_own _ _ _ _ _ _ _ _ _ _ _ W W' row h3 hg hr⟩
end Go.Proofs.YtfjdllpacdobdaaGreat
