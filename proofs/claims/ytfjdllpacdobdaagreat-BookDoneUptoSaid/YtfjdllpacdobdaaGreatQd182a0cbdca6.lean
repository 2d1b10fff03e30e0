/-
  Merged from Tkn, Due, Duw, Rf16, Nmd, ActB, ActW, Trn, Shw, Mst, Dnw, Open, FoO, FoO2.
-/
import Derived.Test.YtfjdllpacdobdaaGreatQ42a3495d48c5
import Derived.LoopTactic
import Derived.Test.YtfjdllpacdobdaaGreatQ5e0e1d795d88
import Derived.Test.YtfjdllpacdobdaaGreatProg
import Derived.BigRegionIn
import Derived.Test.YtfjdllpacdobdaaGreatRows
import Derived.Deep.Slices
import Derived.Deep.Fields
import Derived.SizedLaws
import Derived.OpenShut
/-
  book.taken, Fail, Late.
-/
set_option linter.unusedVariables false
set_option linter.unusedSimpArgs false
namespace Go.Proofs.YtfjdllpacdobdaaGreat
open Go Go.RowKit Go.Proofs.Base
open Go.Sort (grow)
theorem bJob : BoxT Tryz.prog 45 6 := ⟨by kernel_rfl, by kernel_rfl⟩
def takenP (key : Int) (l : List EJob) : EJob × Int :=
  if (findP zeroJob (fun x : EJob => x.key == key) l).2 = false then ((findP zeroJob (fun x : EJob => x.key == key) l).1, 5)
  else if (findP zeroJob (fun x : EJob => x.key == key) l).1.worker.toList.isEmpty then ((findP zeroJob (fun x : EJob => x.key == key) l).1, 12)
  else ((findP zeroJob (fun x : EJob => x.key == key) l).1, 0)
theorem takenP_of {key : Int} {l : List EJob} {x : EJob} {ok : Bool} (h : findP zeroJob (fun x : EJob => x.key == key) l = (x, ok)) : takenP key l = if ok = false then (x, 5) else if x.worker.toList.isEmpty then (x, 12) else (x, 0) := by
  unfold takenP; rw [h]
def TakenTo (key : Int) (l : List EJob) (w : World) (e : Ending) (w' : World) : Prop :=
  ∃ x en, takenP key l = (x, en) ∧ e = .returned (.tuple #[.agg #[.int .u64 x.key, .int .u64 x.token, .string x.typ, .int .i64 x.retries, .string x.worker, .int .i64 x.till], .int .i64 en]) ∧ Below w.heap.size w w'
set_option maxRecDepth 100000 in
set_option maxHeartbeats 4000000 in
theorem bk_taken {S : Nat → Prop} {b : Nat} {w : World} {v : StV} {g : GSt} {p : WkP} (h : WkB S b w v g p) (hf : g.fits) (hi : ∀ x ∈ g.msgs, x.insts.length * 8 ≤ 140737488355328) (key : Int) :
    Calls Tryz.prog 27 #[.pointer (some ⟨b, 0, none⟩), .int .u64 key] w (TakenTo key g.jobs w) := by
  have HC := Lib.hid (fun (o : Obj) => wk_State (h.below (below_alloc (Below.refl _ _) o)) hf hi)
  clear h hf hi
  go_enter Tryz.func27, Tryz.ntmps27
  go_wp2_with fail
  refine (HC.out _).mono ?_
  rintro e w1 ⟨v1, g1, rfl, hs, hp, hb⟩
  have hj : g1.jobs = g.jobs := by show g1.pure.jobs = g.pure.jobs; rw [hp]
  have HJ := Lib.hid hs.jobs
  have HJJ := Lib.hid hj
  have HR1 := Lib.hid (block_below hb (heap_alloc_new _ _))
  have HB1 := Lib.hid (below2 (below_alloc (Below.refl _ _) _) hb)
  have HZ1 : Hid (w.heap.size < w1.heap.size) := Lib.hid (by have := hb.size; rw [World.size_alloc] at this; omega)
  clear hs hp hb hj HC
  go_wp2_with fail
  refine (ask_JobV v1 key g1.jobs w1 _ HJ.out).mono ?_
  rintro e w2 ⟨x, ok, hfnd, rfl, hb2⟩
  have HT : Hid (takenP key g.jobs = if ok = false then (x, 5) else if x.worker.toList.isEmpty then (x, 12) else (x, 0)) := Lib.hid (takenP_of (by rw [← HJJ.out]; exact hfnd))
  have HR2 := Lib.hid (block_below hb2 HR1.out)
  have HB2 := Lib.hid (below2 HB1.out hb2)
  have HZ2 : Hid (w.heap.size < w2.heap.size) := Lib.hid (by have := hb2.size; have := HZ1.out; omega)
  have HJB : Hid ((w2.alloc (.cells #[.int .u64 x.key, .int .u64 x.token, .string x.typ, .int .i64 x.retries, .string x.worker, .int .i64 x.till] 45)).heap[w2.heap.size]? = some (.cells #[.int .u64 x.key, .int .u64 x.token, .string x.typ, .int .i64 x.retries, .string x.worker, .int .i64 x.till] 45 (0, 0))) := Lib.hid (blk_new _)
  have HRN := Lib.hid (blk_alloc HR2.out (.cells #[.int .u64 x.key, .int .u64 x.token, .string x.typ, .int .i64 x.retries, .string x.worker, .int .i64 x.till] 45))
  have HBN : Hid (Below w.heap.size w (w2.alloc (.cells #[.int .u64 x.key, .int .u64 x.token, .string x.typ, .int .i64 x.retries, .string x.worker, .int .i64 x.till] 45))) := Lib.hid (below_alloc HB2.out _)
  clear hfnd hb2 HJ HR1 HR2 HB1 HB2
  have ww : w.heap.size ≠ w2.heap.size := by have := HZ2.out; omega
  have j4 := cell_of_blk HJB.out 4
  cases ok with
  | false =>
    go_wp2_with (first
      | (refine wpList_load_box _ _ rfl rfl rfl bJob HJB.out rfl ?_)
      | (refine wpList_store_box _ _ _ rfl rfl rfl rfl bJob HRN.out rfl rfl (by simp [Value.oneCell']) ?_; intro V hV hM; have HV := Lib.hid hV; have HM := Lib.hid hM; clear hV hM))
    have s0 := cell_of_blk HV.out 0
    have s1 := cell_of_blk HV.out 1
    have s2 := cell_of_blk HV.out 2
    have s3 := cell_of_blk HV.out 3
    have s4 := cell_of_blk HV.out 4
    have s5 := cell_of_blk HV.out 5
    exact bodyPost_ret (v := .tuple #[.agg #[.int .u64 x.key, .int .u64 x.token, .string x.typ, .int .i64 x.retries, .string x.worker, .int .i64 x.till], .int .i64 5]) (by simp [results, Tryz.results27, go_sem, s0, s1, s2, s3, s4, s5]) rfl ⟨x, 5, HT.out, rfl, below_of_mut HBN.out HBN.out.size HM.out (fun y hy => Nat.le_of_eq hy.symm)⟩
  | true =>
    by_cases h2 : x.worker.toList.isEmpty = true
    · go_wp2_with (first
      | (refine wpList_load_box _ _ rfl rfl rfl bJob HJB.out rfl ?_)
      | (refine wpList_store_box _ _ _ rfl rfl rfl rfl bJob HRN.out rfl rfl (by simp [Value.oneCell']) ?_; intro V hV hM; have HV := Lib.hid hV; have HM := Lib.hid hM; clear hV hM))
      have s0 := cell_of_blk HV.out 0
      have s1 := cell_of_blk HV.out 1
      have s2 := cell_of_blk HV.out 2
      have s3 := cell_of_blk HV.out 3
      have s4 := cell_of_blk HV.out 4
      have s5 := cell_of_blk HV.out 5
      exact bodyPost_ret (v := .tuple #[.agg #[.int .u64 x.key, .int .u64 x.token, .string x.typ, .int .i64 x.retries, .string x.worker, .int .i64 x.till], .int .i64 12]) (by simp [results, Tryz.results27, go_sem, s0, s1, s2, s3, s4, s5]) rfl ⟨x, 12, (by rw [HT.out]; simp [h2]), rfl, below_of_mut HBN.out HBN.out.size HM.out (fun y hy => Nat.le_of_eq hy.symm)⟩
    · have h2 : x.worker.toList.isEmpty = false := by simpa using h2
      go_wp2_with (first
      | (refine wpList_load_box _ _ rfl rfl rfl bJob HJB.out rfl ?_)
      | (refine wpList_store_box _ _ _ rfl rfl rfl rfl bJob HRN.out rfl rfl (by simp [Value.oneCell']) ?_; intro V hV hM; have HV := Lib.hid hV; have HM := Lib.hid hM; clear hV hM))
      have s0 := cell_of_blk HV.out 0
      have s1 := cell_of_blk HV.out 1
      have s2 := cell_of_blk HV.out 2
      have s3 := cell_of_blk HV.out 3
      have s4 := cell_of_blk HV.out 4
      have s5 := cell_of_blk HV.out 5
      exact bodyPost_ret (v := .tuple #[.agg #[.int .u64 x.key, .int .u64 x.token, .string x.typ, .int .i64 x.retries, .string x.worker, .int .i64 x.till], .int .i64 0]) (by simp [results, Tryz.results27, go_sem, s0, s1, s2, s3, s4, s5]) rfl ⟨x, 0, (by rw [HT.out]; simp [h2]), rfl, below_of_mut HBN.out HBN.out.size HM.out (fun y hy => Nat.le_of_eq hy.symm)⟩
def WTo (S : Nat → Prop) (b : Nat) (w : World) (p : WkP) (r : GSt × Int) (k : Nat) (e : Ending) (w' : World) : Prop :=
  ∃ S' v' g' p', e = .returned (.int .i64 r.2) ∧ WkB S' b w' v' g' p' ∧ g'.pure = r.1 ∧ p'.m ≤ p.m + k ∧ p'.part = p.part ∧ p'.pos = p.pos ∧ p'.now = p.now ∧ (∀ x, S' x → S x ∨ w.heap.size ≤ x) ∧ (∀ x, p'.T b x → p.T b x ∨ w.heap.size ≤ x) ∧ Mut (p.T b) w w'
theorem WTo.same {S : Nat → Prop} {b : Nat} {w w' : World} {v : StV} {g : GSt} {p : WkP} {r : GSt × Int} {k : Nat} {en : Int} (h : WkB S b w v g p) (hr : r = (g.pure, en)) (hb : Below w.heap.size w w') : WTo S b w p r k (.returned (.int .i64 en)) w' := by
  subst hr
  exact ⟨S, v, g, p, rfl, h.below hb, rfl, Nat.le_add_right _ _, rfl, rfl, rfl, fun _ h => .inl h, fun _ h => .inl h, Mut.of_below hb _⟩
theorem WTo.emit {S S1 : Nat → Prop} {b : Nat} {w w1 w' : World} {v1 : StV} {g1 : GSt} {p p1 : WkP} {r : GSt × Int} {k : Nat} {rc : GRec} {e0 : Ending}
    (hE : EmitTo S1 b w1 v1 g1 p1 rc e0 w') (hr : r = (stepP p rc g1.pure, 0)) (hm : p1.m + 1 ≤ p.m + k) (ha : p1.part = p.part) (hb : p1.pos = p.pos) (hn : p1.now = p.now) (hS : ∀ x, S1 x → S x ∨ w.heap.size ≤ x) (hT : ∀ x, p1.T b x → p.T b x ∨ w.heap.size ≤ x) (hM : Mut (p.T b) w w1) : WTo S b w p r k (.returned (.int .i64 0)) w' := by
  obtain ⟨-, S2, v2, g2, p2, h1, h2, h3, h4, h5, h6, h7, h8, h9⟩ := hE
  subst hr
  have hz := hM.size
  refine ⟨S2, v2, g2, p2, rfl, h1, ?_, by omega, h4.trans ha, h5.trans hb, h6.trans hn, fun x hx => (h7 x hx).elim (hS x) (fun h => .inr (by omega)), fun x hx => (h8 x hx).elim (hT x) (fun h => .inr (by omega)), Mut.trans hM h9 (fun x hx h => (hT x h).resolve_right (by omega))⟩
  rw [h2, emR_eq hb hn]; rfl
def lateP (p : WkP) (key : Int) (g : GSt) : GSt × Int :=
  if (takenP key g.jobs).2 ≠ 0 then (g, (takenP key g.jobs).2) else if p.now < (takenP key g.jobs).1.till then (g, 12) else (stepP p (bkR key (takenP key g.jobs).1.retries) g, 0)
def jobO (x : EJob) : Obj := .cells #[.int .u64 x.key, .int .u64 x.token, .string x.typ, .int .i64 x.retries, .string x.worker, .int .i64 x.till] 45 (0, 0)
theorem jobF_till {b1 b2 : Nat} {o1 : Obj} {x : EJob} (W : World) (h : blkC b1 o1 b2 (jobO x) false W) : (loadVar 2 ⟨b2, 5, none⟩).run Tryz.prog W = .ok (.int .i64 x.till) W := load_cell_of Tryz.underlying2 rfl h rfl
set_option maxRecDepth 100000 in
set_option maxHeartbeats 4000000 in
theorem bk_Late {S : Nat → Prop} {b : Nat} {w : World} {v : StV} {g : GSt} {p : WkP} (h : WkB S b w v g p) (hf : g.fits) (hi : ∀ x ∈ g.msgs, x.insts.length * 8 ≤ 140737488355328) (hm : (p.m + 1) * 144 ≤ 140737488355328) (key : Int) :
    Calls Tryz.prog 17 #[.pointer (some ⟨b, 0, none⟩), .int .u64 key] w (WTo S b w p (lateP p key g.pure) 1) := by
  have HC := Lib.hid (bk_taken h hf hi key)
  have HW := Lib.hid h
  have HF := Lib.hid hf
  have HM := Lib.hid hm
  clear h hf hi hm
  go_enter Tryz.func17, Tryz.ntmps17
  go_wp2_with fail
  refine HC.out.mono ?_
  rintro e w1 ⟨x, en, htk, rfl, hb⟩
  have HT : Hid (takenP key g.pure.jobs = (x, en)) := Lib.hid htk
  have HB := Lib.hid hb
  have HW1 := Lib.hid (HW.out.below hb)
  obtain ⟨N, hN⟩ : ∃ N, N = w1.alloc (jobO x) := ⟨_, rfl⟩
  have HJB : Hid (N.heap[w1.heap.size]? = some (jobO x)) := Lib.hid (by rw [hN]; exact blk_new _)
  have HWN : Hid (WkB S b N v g p) := Lib.hid (by rw [hN]; exact HW1.out.below (below_alloc (Below.refl _ _) _))
  have HBN : Hid (Below w.heap.size w N) := Lib.hid (by rw [hN]; exact below_alloc HB.out _)
  have HN := Lib.hid hN
  clear htk hb hN HC
  by_cases he : en = 0
  · subst he
    go_wp2_with fail
    rw [show w1.alloc (.cells #[.int .u64 x.key, .int .u64 x.token, .string x.typ, .int .i64 x.retries, .string x.worker, .int .i64 x.till] 45) = N from HN.out.symm]
    have HCL : Hid (∀ t, blkC b (wkO v p) w1.heap.size (jobO x) t (redrawn N (N.drawn + 1))) := Lib.hid (fun t => blkC_below (below_redrawn N _) t (blkC_at HWN.out.box HJB.out t))
    refine wp_region_ordM (ι := Bool) (blkC b (wkO v p) w1.heap.size (jobO x)) (fun t => cond t [] []) (n := 6) (listed := #[false, false, false, false, false, false]) (by kernel_rfl) rfl rfl ?_
    ((refine wpM_pure (fuel := 5) (listed' := #[true, false, false, false, false, false]) 0 rfl (by kernel_rfl) rfl ?_; (first | go_big_quiet_step (fail) | quiet_step (fail)); refine wpQuiet_nil ?_))
    (refine wpM_read false (fuel := 4) (listed' := #[true, true, false, false, false, false]) 1 (HCL.out false) rfl (by kernel_rfl) rfl ?_; refine wpQuiet_load _ _ rfl rfl rfl jobF_till ?_; refine wpQuiet_nil ?_)
    ((refine wpM_pure (fuel := 3) (listed' := #[true, true, true, false, false, false]) 2 rfl (by kernel_rfl) rfl ?_; (first | go_big_quiet_step (fail) | quiet_step (fail)); refine wpQuiet_nil ?_))
    refine wpM_one (fuel := 2) (listed' := #[true, true, true, true, false, false]) 3 rfl (by kernel_rfl) rfl ?_
    go_wp2_with fail
    refine (wk_Now (HWN.out.below (below_redrawn N _))).mono ?_
    rintro e w2 ⟨rfl, rfl⟩
    go_wp2_with fail
    refine ⟨rfl, fun t _ h => h, ?_⟩
    by_cases hl : p.now < x.till
    · have HR : Hid (lateP p key g.pure = (g.pure, 12)) := Lib.hid (by unfold lateP; rw [HT.out]; simp [hl])
      ((refine wpM_pure (fuel := 1) (listed' := #[true, true, true, true, true, false]) 4 rfl (by kernel_rfl) rfl ?_; (first | go_big_quiet_step (fail) | quiet_step (fail)); refine wpQuiet_nil ?_); (refine wpM_pure (fuel := 0) (listed' := #[true, true, true, true, true, true]) 5 rfl (by kernel_rfl) rfl ?_; (first | go_big_quiet_step (fail) | quiet_step (fail)); refine wpQuiet_nil ?_))
      refine wpM_end rfl ?_
      go_wp2
      go_ret
      exact WTo.same HW.out HR.out (below2 HBN.out (below_redrawn N _))
    · have HR : Hid (lateP p key g.pure = (stepP p (bkR key x.retries) g.pure, 0)) := Lib.hid (by unfold lateP; rw [HT.out]; simp [hl])
      ((refine wpM_pure (fuel := 1) (listed' := #[true, true, true, true, true, false]) 4 rfl (by kernel_rfl) rfl ?_; (first | go_big_quiet_step (fail) | quiet_step (fail)); refine wpQuiet_nil ?_); (refine wpM_pure (fuel := 0) (listed' := #[true, true, true, true, true, true]) 5 rfl (by kernel_rfl) rfl ?_; (first | go_big_quiet_step (fail) | quiet_step (fail)); refine wpQuiet_nil ?_))
      refine wpM_end rfl ?_
      have j3 := cell_of_blk (block_below (below_redrawn N (N.drawn + 1)) HJB.out) 3
      go_wp2_with fail
      refine (em8 (HWN.out.below (below_redrawn N (N.drawn + 1))) HM.out HF.out key x.retries).mono ?_
      rintro e w3 hE
      have HR2 := WTo.emit hE HR.out (Nat.le_refl _) rfl rfl rfl (fun _ h => .inl h) (fun _ h => .inl h) (Mut.of_below (below2 HBN.out (below_redrawn N _)) _)
      obtain ⟨⟨ev, rfl⟩, -⟩ := hE
      have HR3 := Lib.hid HR2
      clear HR2 j3
      go_wp2
      go_ret
      exact HR3.out
  · have hb : (en != 0) = true := bne_t he
    have HR : Hid (lateP p key g.pure = (g.pure, en)) := Lib.hid (by unfold lateP; rw [HT.out]; simp [he])
    clear he
    go_wp2
    go_ret
    exact WTo.same HW.out HR.out (below_alloc HB.out _)
end Go.Proofs.YtfjdllpacdobdaaGreat
/-
  book.Due: what it puts together.
-/
set_option linter.unusedVariables false
set_option linter.unusedSimpArgs false
namespace Go.Proofs.YtfjdllpacdobdaaGreat
open Go Go.RowKit Go.Proofs.Base
def dueR (kind now key n : Int) : GRec := ⟨1, kind, 0, now, key, 0, 0, n, 0, ⟨#[]⟩, ⟨#[]⟩, ⟨#[]⟩, []⟩
def encD (r : GRec) : List Value := (recC r none 0 0).toList
theorem lenD (r : GRec) : (encD r).length = 13 := rfl
def timB (now : Int) (x : ETim) : Bool := decide (x.due ≤ now)
def jobB (now : Int) (x : EJob) : Bool := !x.worker.toList.isEmpty && decide (x.till ≤ now)
def msgB (now : Int) (x : EMsg) : Bool := decide (x.till ≤ now)
def dueT (now : Int) (l : List ETim) : List GRec := (l.filter (timB now)).map fun x => dueR 9 now x.token x.node
def dueJ (now : Int) (l : List EJob) : List GRec := (l.filter (jobB now)).map fun x => dueR 10 now x.key 0
def dueM (now : Int) (l : List EMsg) : List GRec := (l.filter (msgB now)).map fun x => dueR 11 now x.key 0
def OutB (base bo : Nat) (W : World) (l : List GRec) : Prop := ∃ A c, W.heap[bo]? = some (.cells #[.slice A l.length c] 62 (0, 0)) ∧ W.ownsRow base 71 13 (.slice A l.length c) l.length (l.flatMap encD)
theorem OutB.below {base bo : Nat} {W W' : World} {l : List GRec} (h : OutB base bo W l) (hb : Below W.heap.size W W') : OutB base bo W' l := by
  obtain ⟨A, c, h1, h2⟩ := h
  exact ⟨A, c, block_below hb h1, own_carry h2 hb⟩
def PutTo (base bo : Nat) (w : World) (l : List GRec) (e : Ending) (w' : World) : Prop := (∃ x, e = .returned x) ∧ OutB base bo w' l ∧ Mut (fun x => base ≤ x ∨ x = bo) w w'
set_option maxRecDepth 100000 in
set_option maxHeartbeats 2000000 in
theorem put_no (r : GRec) (bn bo : Nat) (w : World) :
    Calls Tryz.prog 28 #[.bool false, .agg (recC r none 0 0), .pointer (some ⟨bn, 0, none⟩), .pointer (some ⟨bo, 0, none⟩)] w fun e w' => (∃ x, e = .returned x) ∧ Below w.heap.size w w' := by
  go_enter Tryz.func28, Tryz.ntmps28
  go_wp2
  exact bodyPost_end (v := .tuple #[]) (by simp [results, Tryz.results28, go_sem]) rfl ⟨⟨_, rfl⟩, below_alloc (Below.refl _ _) _⟩
set_option maxRecDepth 100000 in
set_option maxHeartbeats 4000000 in
theorem put_yes (r : GRec) (bn bo base : Nat) (now : Int) (l : List GRec) (w : World) (ho : OutB base bo w l) (hn : w.heap[bn]? = some (.cells #[.int .i64 now] 2 (0, 0))) (hbo : bo < base) (hba : base ≤ w.heap.size) (hbn : bn ≠ bo) (hbb : bn < base) (hl : (l.length + 1) * 144 ≤ 140737488355328) :
    Calls Tryz.prog 28 #[.bool true, .agg (recC r none 0 0), .pointer (some ⟨bn, 0, none⟩), .pointer (some ⟨bo, 0, none⟩)] w (PutTo base bo w (l ++ [{ r with cls := 1, time := now }])) := by
  obtain ⟨A, c, hB, hO⟩ := ho
  have hlt := lt_of_blk hn
  have hlo := lt_of_blk hB
  obtain ⟨N, hN⟩ : ∃ N, N = w.alloc (.cells (recC r none 0 0) 71) := ⟨_, rfl⟩
  have HBN : Hid (Below w.heap.size w N) := Lib.hid (by rw [hN]; exact below_alloc (Below.refl _ _) _)
  have HRB : Hid (N.heap[w.heap.size]? = some (recO (recC r none 0 0))) := Lib.hid (by rw [hN]; exact blk_new _)
  have HB := Lib.hid (block_below HBN.out hB)
  have HO := Lib.hid (own_carry hO HBN.out)
  have HN := Lib.hid hN
  have c0 : N.cell? ⟨bn, 0, none⟩ = some (.int .i64 now) := cell_of_blk (block_below HBN.out hn) 0
  have r0 : N.cell? ⟨w.heap.size, 0, none⟩ = some (.int .i64 r.cls) := cell_of_blk HRB.out 0
  have r3 : N.cell? ⟨w.heap.size, 3, none⟩ = some (.int .i64 r.time) := cell_of_blk HRB.out 3
  have f0 := frozen_of_blk HRB.out 0
  have f3 := frozen_of_blk HRB.out 3
  have hne : bn ≠ w.heap.size := by omega
  have HLT : Hid (bn < w.heap.size ∧ bo < w.heap.size ∧ bo < base ∧ base ≤ w.heap.size) := Lib.hid ⟨hlt, hlo, hbo, hba⟩
  have HL := Lib.hid hl
  obtain ⟨N2, hN2⟩ : ∃ N2, N2 = ((N.setCell ⟨w.heap.size, 0, none⟩ (.int .i64 1)).setCell ⟨w.heap.size, 3, none⟩ (.int .i64 now)).drew := ⟨_, rfl⟩
  have HM2 : Hid (Mut (fun x => x = w.heap.size) N N2) := Lib.hid (by rw [hN2]; exact (Mut.setCell (T := fun x => x = w.heap.size) (Mut.setCell (T := fun x => x = w.heap.size) (Mut.refl _ _) (p := ⟨w.heap.size, 0, none⟩) (fun _ => rfl) _) (p := ⟨w.heap.size, 3, none⟩) (fun _ => rfl) _).drew)
  have HR2 : Hid (N2.heap[w.heap.size]? = some (recO (recC { r with cls := 1, time := now } none 0 0))) := Lib.hid (by rw [hN2]; exact set_blk (o := 3) (set_blk (o := 0) HRB.out _) _)
  have HB2 := Lib.hid (HM2.out.blk HB.out (fun e => by have := HLT.out; omega))
  have HO2 := Lib.hid (own_mut HO.out HM2.out (fun x hx e => by have h1 := (hO.lt x hx).2; have e : x = w.heap.size := e; omega))
  have HN2 := Lib.hid hN2
  have co : N2.cell? ⟨bo, 0, none⟩ = some (.slice A l.length c) := cell_of_blk HB2.out 0
  have HLD : Hid ((loadVar 71 ⟨w.heap.size, 0, none⟩).run Tryz.prog N2 = .ok (.agg #[.int .i64 1, .int .i64 r.kind, .int .u64 r.frm, .int .i64 now, .int .u64 r.key, .int .u64 r.key2, .int .u64 r.key3, .int .i64 r.n, .int .i64 r.m, .string r.a, .string r.b, .string r.c, .slice none 0 0]) N2) := Lib.hid (run_load_box bRec HR2.out rfl)
  clear hB hO hn hlt hlo hN hbo hba hbb hl hN2
  go_enter Tryz.func28, Tryz.ntmps28
  go_wp2_with fail
  rw [show w.alloc (.cells (recC r none 0 0) 71) = N from HN.out.symm]
  clear HN
  go_region
  all_goals (rw [show ((N.setCell ⟨w.heap.size, 0, none⟩ (.int .i64 1)).setCell ⟨w.heap.size, 3, none⟩ (.int .i64 now)).drew = N2 from HN2.out.symm])
  all_goals clear HN2 c0 r0 r3 f0 f3
  all_goals
    go_wp2_with (first
      | (refine wpList_load_agg _ _ rfl rfl rfl HLD.out ?_)
      | (at_builtin; refine wp_app (w0 := N2) eRecs (by decide) rfl _ _ rfl base (.slice A l.length c) l.length (l.flatMap encD) [.int .i64 1, .int .i64 r.kind, .int .u64 r.frm, .int .i64 now, .int .u64 r.key, .int .u64 r.key2, .int .u64 r.key3, .int .i64 r.n, .int .i64 r.m, .string r.a, .string r.b, .string r.c, .slice none 0 0] rfl rfl rfl (by simp [Value.oneCell']) HO2.out (Below.refl _ _) (by have h1 := HLT.out; have h2 := HBN.out.size; have h3 := HM2.out.size; omega) (by have := HL.out; omega) HL.out ?_; intro v1 w1 own1 hb1 hg1 hat1; obtain ⟨A4, c4, rfl, -, -⟩ := (Row.of_own own1).open_; have HO3 := Lib.hid own1; have HG1 := Lib.hid hg1; have xb := Lib.hid ((hg1.block _ (lt_of_blk (block_below (below_alloc (Below.refl _ _) _) HB2.out)) (fun e => by have h1 := (HO2.out.lt _ e.symm).1; have := HLT.out; omega)).trans (block_below (below_alloc (Below.refl _ _) _) HB2.out)); have xc := cell_of_blk xb.out 0; have xf := frozen_of_blk xb.out 0; clear own1 hb1 hg1 hat1))
    refine bodyPost_end (v := .tuple #[]) (by simp [results, Tryz.results28, go_sem]) rfl ⟨⟨_, rfl⟩, ⟨A4, c4, ?_, ?_⟩, ?_⟩
    · rw [List.length_append]; exact set_blk (o := 0) xb.out _
    · rw [List.length_append, List.flatMap_append]
      have h2 := own_mut HO3.out (Mut.setCell (T := fun y => y = bo) (Mut.refl _ w1) (p := ⟨bo, 0, none⟩) (fun _ => rfl) (.slice A4 (l.length + 1) c4)) (fun y hy e => by have h1 := (HO3.out.lt y hy).1; have h2 := HLT.out; have e : y = bo := e; omega)
      simpa [encD, recC] using h2
    · refine Mut.setCell (Mut.trans (Mut.trans (Mut.trans (Mut.of_below HBN.out (fun x => base ≤ x ∨ x = bo)) HM2.out (fun x hx e => by have e : x = w.heap.size := e; omega)) (Mut.of_below (below_alloc (Below.refl _ _) _) (fun _ => False)) (fun _ _ h => h.elim)) (Mut.grown (T := fun y => (Value.slice A l.length c).ownBlock = some y) HG1.out (fun _ h => h)) (fun x _ h => .inl (HO2.out.lt x h).1)) (p := ⟨bo, 0, none⟩) (fun _ => .inr rfl) _
def DueI (w : World) (v : StV) (now : Int) (W : World) (l : List GRec) : Prop :=
  OutB (w.heap.size + 3) (w.heap.size + 2) W l ∧ W.heap[w.heap.size]? = some (.cells v.vals 33 (0, 0)) ∧ W.heap[w.heap.size + 1]? = some (.cells #[.int .i64 now] 2 (0, 0)) ∧ Below w.heap.size w W
theorem DueI.below {w W W' : World} {v : StV} {now : Int} {l : List GRec} (h : DueI w v now W l) (hb : Below W.heap.size W W') : DueI w v now W' l :=
  ⟨h.1.below hb, block_below hb h.2.1, block_below hb h.2.2.1, below2 h.2.2.2 hb⟩
theorem DueI.put {w W W' : World} {v : StV} {now : Int} {l l' : List GRec} {e : Ending} (h : DueI w v now W l) (hp : PutTo (w.heap.size + 3) (w.heap.size + 2) W l' e W') : DueI w v now W' l' :=
  ⟨hp.2.1, hp.2.2.blk h.2.1 (fun e => by omega), hp.2.2.blk h.2.2.1 (fun e => by omega), below_of_mut h.2.2.2 h.2.2.2.size hp.2.2 (fun x hx => by omega)⟩
theorem DueI.sz {w W : World} {v : StV} {now : Int} {l : List GRec} (h : DueI w v now W l) : w.heap.size + 3 ≤ W.heap.size := by
  obtain ⟨A, c, hb, -⟩ := h.1
  have := lt_of_blk hb
  omega
theorem take_filter {α β : Type} (p : α → Bool) (f : α → β) {l : List α} {k : Nat} (h : k < l.length) : ((l.take (k + 1)).filter p).map f = ((l.take k).filter p).map f ++ (if p l[k] then [f l[k]] else []) := by
  rw [List.take_succ_eq_append_getElem h, List.filter_append, List.map_append]
  by_cases hp : p l[k] = true
  · simp [List.filter_cons, hp]
  · simp [List.filter_cons, hp]
theorem filter_len {α β : Type} (p : α → Bool) (f : α → β) (l : List α) (k : Nat) : (((l.take k).filter p).map f).length ≤ k := by
  rw [List.length_map]
  exact Nat.le_trans (List.length_filter_le _ _) (by rw [List.length_take]; omega)
theorem due_yes {w W : World} {v : StV} {now : Int} {l : List GRec} (kind key n : Int) (h : Hid (DueI w v now W l)) (hl : (l.length + 1) * 144 ≤ 140737488355328) :
    Calls Tryz.prog 28 #[.bool true, .agg #[.int .i64 0, .int .i64 kind, .int .u64 0, .int .i64 0, .int .u64 key, .int .u64 0, .int .u64 0, .int .i64 n, .int .i64 0, .string ⟨#[]⟩, .string ⟨#[]⟩, .string ⟨#[]⟩, .slice none 0 0], .pointer (some ⟨w.heap.size + 1, 0, none⟩), .pointer (some ⟨w.heap.size + 1 + 1, 0, none⟩)] W fun e W' => (∃ x, e = .returned x) ∧ Hid (DueI w v now W' (l ++ [dueR kind now key n])) :=
  (put_yes (⟨0, kind, 0, 0, key, 0, 0, n, 0, ⟨#[]⟩, ⟨#[]⟩, ⟨#[]⟩, []⟩ : GRec) (w.heap.size + 1) (w.heap.size + 1 + 1) (w.heap.size + 3) now l W h.out.1 h.out.2.2.1 (by omega) h.out.sz (by omega) (by omega) hl).mono fun e W' hp => ⟨hp.1, Lib.hid (h.out.put hp)⟩
theorem due_no {w W : World} {v : StV} {now : Int} {l : List GRec} (kind key n : Int) (h : Hid (DueI w v now W l)) :
    Calls Tryz.prog 28 #[.bool false, .agg #[.int .i64 0, .int .i64 kind, .int .u64 0, .int .i64 0, .int .u64 key, .int .u64 0, .int .u64 0, .int .i64 n, .int .i64 0, .string ⟨#[]⟩, .string ⟨#[]⟩, .string ⟨#[]⟩, .slice none 0 0], .pointer (some ⟨w.heap.size + 1, 0, none⟩), .pointer (some ⟨w.heap.size + 1 + 1, 0, none⟩)] W fun e W' => (∃ x, e = .returned x) ∧ Hid (DueI w v now W' l) :=
  (put_no (⟨0, kind, 0, 0, key, 0, 0, n, 0, ⟨#[]⟩, ⟨#[]⟩, ⟨#[]⟩, []⟩ : GRec) (w.heap.size + 1) (w.heap.size + 1 + 1) W).mono fun e W' hp => ⟨hp.1, Lib.hid (h.out.below hp.2)⟩
theorem due_len1 {a k t j m : Nat} (h1 : a ≤ k) (h3 : k < t) (h2 : (t + j + m + 1) * 144 ≤ 140737488355328) : (a + 1) * 144 ≤ 140737488355328 := Nat.le_trans (Nat.mul_le_mul_right 144 (by clear h2; omega)) h2
theorem due_len2 {a k t j m : Nat} (h1 : a ≤ t + k) (h3 : k < j) (h2 : (t + j + m + 1) * 144 ≤ 140737488355328) : (a + 1) * 144 ≤ 140737488355328 := Nat.le_trans (Nat.mul_le_mul_right 144 (by clear h2; omega)) h2
theorem due_len3 {a k t j m : Nat} (h1 : a ≤ t + j + k) (h3 : k < m) (h2 : (t + j + m + 1) * 144 ≤ 140737488355328) : (a + 1) * 144 ≤ 140737488355328 := Nat.le_trans (Nat.mul_le_mul_right 144 (by clear h2; omega)) h2
end Go.Proofs.YtfjdllpacdobdaaGreat
/-
  book.Due: the walk. Printed by gendue.py.
-/
set_option linter.unusedVariables false
set_option linter.unusedSimpArgs false
namespace Go.Proofs.YtfjdllpacdobdaaGreat
open Go Go.RowKit Go.Proofs.Base
def dueP (now : Int) (g : GSt) : List GRec := dueT now g.timers ++ dueJ now g.jobs ++ dueM now g.msgs
def DueTo (now : Int) (g : GSt) (w : World) (e : Ending) (w' : World) : Prop := ∃ A c, e = .returned (.slice A (dueP now g).length c) ∧ w'.ownsRow w.heap.size 71 13 (.slice A (dueP now g).length c) (dueP now g).length ((dueP now g).flatMap encD) ∧ Below w.heap.size w w'
set_option maxRecDepth 100000 in
set_option maxHeartbeats 8000000 in
theorem bk_Due {S : Nat → Prop} {w : World} {v : StV} {g : GSt} (hs : StR w S v g) (now : Int) (hsum : (g.timers.length + g.jobs.length + g.msgs.length + 1) * 144 ≤ 140737488355328) :
    Calls Tryz.prog 18 #[.agg v.vals, .int .i64 now] w (DueTo now g w) := by
  have HS := Lib.hid hs
  have HSUM := Lib.hid hsum
  have HN7 := hs.timers.1
  have HN6 := hs.jobs.1
  have HN11 := hs.msgs.1
  have hn7 : v.n7 ≤ 9223372036854775807 := by omega
  have hn6 : v.n6 ≤ 9223372036854775807 := by omega
  have hn11 : v.n11 ≤ 9223372036854775807 := by omega
  have HL7 := Lib.hid HN7
  have HL6 := Lib.hid HN6
  have HL11 := Lib.hid HN11
  obtain ⟨N, hN⟩ : ∃ N, N = ((w.alloc (.cells v.vals 33)).alloc (.cells #[.int .i64 now] 2)).alloc (.cells #[.slice none 0 0] 62) := ⟨_, rfl⟩
  have HI : Hid (DueI w v now N (dueT now (g.timers.take 0))) := Lib.hid (by
    rw [hN]
    exact ⟨⟨none, 0, blk_new_of _ (by simp), own_nil _ _ _ _⟩, blk_alloc (blk_alloc (blk_new _) _) _, blk_alloc (blk_new_of _ (by simp)) _, below_alloc (below_alloc (below_alloc (Below.refl _ _) _) _) _⟩)
  have HN := Lib.hid hN
  clear hs hsum HN7 HN6 HN11 hN
  have hv7 : v.vals[7]? = some (.slice v.A7 v.n7 v.c7) := rfl
  go_enter Tryz.func18, Tryz.ntmps18
  go_wp2_with fail
  rw [show ((w.alloc (.cells v.vals 33)).alloc (.cells #[.int .i64 now] 2)).alloc (.cells #[.slice none 0 0] 62) = N from HN.out.symm]
  clear HN hv7
  go_loopw [17] (fun i wr => ∃ k : Nat, k ≤ v.n7 ∧ i = .int .i64 k ∧ Hid (DueI w v now wr (dueT now (g.timers.take k)))) (fun i _ => v.n7 - (intOf i).toNat)
  case atStart => exact ⟨0, Nat.zero_le _, rfl, HI⟩
  case round =>
    obtain ⟨k, hk, rfl, HI⟩ := hrel
    by_cases hkn : k < v.n7
    · as_aux_lemma =>
        have hk1 : k < g.timers.length := by rw [HL7.out]; exact hkn
        obtain ⟨B, O, hA, _, hc⟩ := ListR.elem (K := 3) (enc := encTim) ⟨HS.out.timers.1, HS.out.timers.2.below HI.out.2.2.2⟩ lenTim (by omega)
        have hx := hc k hk1
        have HT := Lib.hid (take_filter (timB now) (fun x : ETim => dueR 9 now x.token x.node) hk1)
        have HLEN : Hid ((dueT now (g.timers.take k)).length ≤ k) := Lib.hid (by exact filter_len _ _ _ _)
        generalize g.timers[k] = x at *
        have e0 := hx 0 _ rfl
        rw [Nat.add_zero] at e0
        have e1 := hx 1 _ rfl
        have e2 := hx 2 _ rfl
        have HI2 : Hid (DueI w v now (wr.alloc (.cells #[.int .u64 x.token, .int .i64 x.node, .int .i64 x.due] 84)) (dueT now (g.timers.take k))) := Lib.hid (HI.out.below (below_alloc (Below.refl _ _) _))
        have kc : (wr.alloc (.cells #[.int .u64 x.token, .int .i64 x.node, .int .i64 x.due] 84)).cell? ⟨w.heap.size + 1, 0, none⟩ = some (.int .i64 now) := cell_of_blk HI2.out.2.2.1 0
        have HSZ := Lib.hid HI2.out.sz
        have HAA := Lib.hid hA
        have HQ := Lib.hid (due_len1 HLEN.out hk1 HSUM.out)
        rw [hA]
        clear hx hc hA hk1 HI
        by_cases hd : x.due ≤ now
        · have HB : Hid (timB now x = true) := Lib.hid (by unfold timB; simp [hd])
          have HT2 : Hid (dueT now (g.timers.take (k + 1)) = (dueT now (g.timers.take k)) ++ [dueR 9 now x.token x.node]) := Lib.hid (by have h := HT.out; rw [if_pos HB.out] at h; unfold dueT; rw [h]; try simp [List.append_assoc])
          go_wp2_with fail
          refine (due_yes 9 x.token x.node HI2 HQ.out).mono ?_
          rintro e w4 ⟨⟨ev, rfl⟩, HI3⟩
          go_wp2
          go_roundw
          case rel => exact ⟨k + 1, by omega, by go_num, Lib.hid (by rw [HT2.out]; exact HI3.out)⟩
          case measure => simp [intOf]; omega
        · have HB : Hid (timB now x = false) := Lib.hid (by unfold timB; simp [hd])
          have HT2 : Hid (dueT now (g.timers.take (k + 1)) = dueT now (g.timers.take k)) := Lib.hid (by have h := HT.out; rw [if_neg (by simp [HB.out]), List.append_nil] at h; unfold dueT; rw [h])
          go_wp2_with fail
          refine (due_no 9 x.token x.node HI2).mono ?_
          rintro e w4 ⟨⟨ev, rfl⟩, HI3⟩
          go_wp2
          go_roundw
          case rel => exact ⟨k + 1, by omega, by go_num, Lib.hid (by rw [HT2.out]; exact HI3.out)⟩
          case measure => simp [intOf]; omega
    · have HE : Hid (g.timers.take k = g.timers) := Lib.hid (List.take_of_length_le (by rw [HL7.out]; omega))
      have HI : Hid (DueI w v now wr (dueT now g.timers ++ dueJ now (g.jobs.take 0))) := Lib.hid (by have h := HI.out; rw [HE.out] at h; simpa [dueJ] using h)
      have s6 : wr.cell? ⟨w.heap.size, 6, none⟩ = some (.slice v.A6 v.n6 v.c6) := cell_of_blk HI.out.2.1 6
      obtain ⟨w2, rfl⟩ : ∃ X : World, X = wr := ⟨_, rfl⟩
      go_wp2_with fail
      clear s6
      go_loopw [36] (fun i wr => ∃ k : Nat, k ≤ v.n6 ∧ i = .int .i64 k ∧ Hid (DueI w v now wr (dueT now g.timers ++ dueJ now (g.jobs.take k)))) (fun i _ => v.n6 - (intOf i).toNat)
      case atStart => exact ⟨0, Nat.zero_le _, rfl, HI⟩
      case round =>
        obtain ⟨k, hk, rfl, HI⟩ := hrel
        by_cases hkn : k < v.n6
        · as_aux_lemma =>
            have hk1 : k < g.jobs.length := by rw [HL6.out]; exact hkn
            obtain ⟨B, O, hA, _, hc⟩ := ListR.elem (K := 6) (enc := encJob) ⟨HS.out.jobs.1, HS.out.jobs.2.below HI.out.2.2.2⟩ lenJob (by omega)
            have hx := hc k hk1
            have HT := Lib.hid (take_filter (jobB now) (fun x : EJob => dueR 10 now x.key 0) hk1)
            have HLEN : Hid ((dueT now g.timers ++ dueJ now (g.jobs.take k)).length ≤ g.timers.length + k) := Lib.hid (by rw [List.length_append]; have h1 : (dueT now g.timers).length ≤ g.timers.length := (by unfold dueT; rw [List.length_map]; exact List.length_filter_le _ _); have h2 : (dueJ now (g.jobs.take k)).length ≤ k := filter_len _ _ _ _; omega)
            generalize g.jobs[k] = x at *
            have e0 := hx 0 _ rfl
            rw [Nat.add_zero] at e0
            have e1 := hx 1 _ rfl
            have e2 := hx 2 _ rfl
            have e3 := hx 3 _ rfl
            have e4 := hx 4 _ rfl
            have e5 := hx 5 _ rfl
            have HI2 : Hid (DueI w v now (wr.alloc (.cells #[.int .u64 x.key, .int .u64 x.token, .string x.typ, .int .i64 x.retries, .string x.worker, .int .i64 x.till] 45)) (dueT now g.timers ++ dueJ now (g.jobs.take k))) := Lib.hid (HI.out.below (below_alloc (Below.refl _ _) _))
            have kc : (wr.alloc (.cells #[.int .u64 x.key, .int .u64 x.token, .string x.typ, .int .i64 x.retries, .string x.worker, .int .i64 x.till] 45)).cell? ⟨w.heap.size + 1, 0, none⟩ = some (.int .i64 now) := cell_of_blk HI2.out.2.2.1 0
            have HSZ := Lib.hid HI2.out.sz
            have HAA := Lib.hid hA
            have HQ := Lib.hid (due_len2 HLEN.out hk1 HSUM.out)
            rw [hA]
            clear hx hc hA hk1 HI
            by_cases hw : x.worker.toList.isEmpty = true
            · have HB : Hid (jobB now x = false) := Lib.hid (by unfold jobB; simp [hw])
              have HT2 : Hid (dueT now g.timers ++ dueJ now (g.jobs.take (k + 1)) = dueT now g.timers ++ dueJ now (g.jobs.take k)) := Lib.hid (by have h := HT.out; rw [if_neg (by simp [HB.out]), List.append_nil] at h; unfold dueJ; rw [h])
              go_wp2_with fail
              refine (due_no 10 x.key 0 HI2).mono ?_
              rintro e w4 ⟨⟨ev, rfl⟩, HI3⟩
              go_wp2
              go_roundw
              case rel => exact ⟨k + 1, by omega, by go_num, Lib.hid (by rw [HT2.out]; exact HI3.out)⟩
              case measure => simp [intOf]; omega
            · have hw : x.worker.toList.isEmpty = false := by simpa using hw
              by_cases hd : x.till ≤ now
              · have HB : Hid (jobB now x = true) := Lib.hid (by unfold jobB; simp [hw, hd])
                have HT2 : Hid (dueT now g.timers ++ dueJ now (g.jobs.take (k + 1)) = (dueT now g.timers ++ dueJ now (g.jobs.take k)) ++ [dueR 10 now x.key 0]) := Lib.hid (by have h := HT.out; rw [if_pos HB.out] at h; unfold dueJ; rw [h, List.append_assoc]; try simp [List.append_assoc])
                go_wp2_with fail
                refine (due_yes 10 x.key 0 HI2 HQ.out).mono ?_
                rintro e w4 ⟨⟨ev, rfl⟩, HI3⟩
                go_wp2
                go_roundw
                case rel => exact ⟨k + 1, by omega, by go_num, Lib.hid (by rw [HT2.out]; exact HI3.out)⟩
                case measure => simp [intOf]; omega
              · have HB : Hid (jobB now x = false) := Lib.hid (by unfold jobB; simp [hw, hd])
                have HT2 : Hid (dueT now g.timers ++ dueJ now (g.jobs.take (k + 1)) = dueT now g.timers ++ dueJ now (g.jobs.take k)) := Lib.hid (by have h := HT.out; rw [if_neg (by simp [HB.out]), List.append_nil] at h; unfold dueJ; rw [h])
                go_wp2_with fail
                refine (due_no 10 x.key 0 HI2).mono ?_
                rintro e w4 ⟨⟨ev, rfl⟩, HI3⟩
                go_wp2
                go_roundw
                case rel => exact ⟨k + 1, by omega, by go_num, Lib.hid (by rw [HT2.out]; exact HI3.out)⟩
                case measure => simp [intOf]; omega
        · have HE : Hid (g.jobs.take k = g.jobs) := Lib.hid (List.take_of_length_le (by rw [HL6.out]; omega))
          have HI : Hid (DueI w v now wr (dueT now g.timers ++ dueJ now g.jobs ++ dueM now (g.msgs.take 0))) := Lib.hid (by have h := HI.out; rw [HE.out] at h; simpa [dueM] using h)
          have s11 : wr.cell? ⟨w.heap.size, 11, none⟩ = some (.slice v.A11 v.n11 v.c11) := cell_of_blk HI.out.2.1 11
          obtain ⟨w3, rfl⟩ : ∃ X : World, X = wr := ⟨_, rfl⟩
          go_wp2_with fail
          clear s11
          go_loopw [58] (fun i wr => ∃ k : Nat, k ≤ v.n11 ∧ i = .int .i64 k ∧ Hid (DueI w v now wr (dueT now g.timers ++ dueJ now g.jobs ++ dueM now (g.msgs.take k)))) (fun i _ => v.n11 - (intOf i).toNat)
          case atStart => exact ⟨0, Nat.zero_le _, rfl, HI⟩
          case round =>
            obtain ⟨k, hk, rfl, HI⟩ := hrel
            by_cases hkn : k < v.n11
            · as_aux_lemma =>
                have hk1 : k < g.msgs.length := by rw [HL11.out]; exact hkn
                obtain ⟨B, O, hA, _, hc⟩ := ListR.elem (K := 7) (enc := encMsg) ⟨HS.out.msgs.1, HS.out.msgs.2.below HI.out.2.2.2⟩ lenMsg (by omega)
                have hx := hc k hk1
                have HT := Lib.hid (take_filter (msgB now) (fun x : EMsg => dueR 11 now x.key 0) hk1)
                have HLEN : Hid ((dueT now g.timers ++ dueJ now g.jobs ++ dueM now (g.msgs.take k)).length ≤ g.timers.length + g.jobs.length + k) := Lib.hid (by rw [List.length_append, List.length_append]; have h1 : (dueT now g.timers).length ≤ g.timers.length := (by unfold dueT; rw [List.length_map]; exact List.length_filter_le _ _); have h2 : (dueJ now g.jobs).length ≤ g.jobs.length := (by unfold dueJ; rw [List.length_map]; exact List.length_filter_le _ _); have h3 : (dueM now (g.msgs.take k)).length ≤ k := filter_len _ _ _ _; omega)
                generalize g.msgs[k] = x at *
                have e0 := hx 0 _ rfl
                rw [Nat.add_zero] at e0
                have e1 := hx 1 _ rfl
                have e2 := hx 2 _ rfl
                have e3 := hx 3 _ rfl
                have e4 := hx 4 _ rfl
                have e5 := hx 5 _ rfl
                have e6 := hx 6 _ rfl
                have HI2 : Hid (DueI w v now (wr.alloc (.cells #[.int .u64 x.key, .string x.name, .string x.dest, .string x.id, .int .i64 x.till, .slice x.vA x.vN x.vC, .slice x.iA x.iN x.iC] 87)) (dueT now g.timers ++ dueJ now g.jobs ++ dueM now (g.msgs.take k))) := Lib.hid (HI.out.below (below_alloc (Below.refl _ _) _))
                have kc : (wr.alloc (.cells #[.int .u64 x.key, .string x.name, .string x.dest, .string x.id, .int .i64 x.till, .slice x.vA x.vN x.vC, .slice x.iA x.iN x.iC] 87)).cell? ⟨w.heap.size + 1, 0, none⟩ = some (.int .i64 now) := cell_of_blk HI2.out.2.2.1 0
                have HSZ := Lib.hid HI2.out.sz
                have HAA := Lib.hid hA
                have HQ := Lib.hid (due_len3 HLEN.out hk1 HSUM.out)
                rw [hA]
                clear hx hc hA hk1 HI
                by_cases hd : x.till ≤ now
                · have HB : Hid (msgB now x = true) := Lib.hid (by unfold msgB; simp [hd])
                  have HT2 : Hid (dueT now g.timers ++ dueJ now g.jobs ++ dueM now (g.msgs.take (k + 1)) = (dueT now g.timers ++ dueJ now g.jobs ++ dueM now (g.msgs.take k)) ++ [dueR 11 now x.key 0]) := Lib.hid (by have h := HT.out; rw [if_pos HB.out] at h; unfold dueM; rw [h, List.append_assoc]; try simp [List.append_assoc])
                  go_wp2_with fail
                  refine (due_yes 11 x.key 0 HI2 HQ.out).mono ?_
                  rintro e w4 ⟨⟨ev, rfl⟩, HI3⟩
                  go_wp2
                  go_roundw
                  case rel => exact ⟨k + 1, by omega, by go_num, Lib.hid (by rw [HT2.out]; exact HI3.out)⟩
                  case measure => simp [intOf]; omega
                · have HB : Hid (msgB now x = false) := Lib.hid (by unfold msgB; simp [hd])
                  have HT2 : Hid (dueT now g.timers ++ dueJ now g.jobs ++ dueM now (g.msgs.take (k + 1)) = dueT now g.timers ++ dueJ now g.jobs ++ dueM now (g.msgs.take k)) := Lib.hid (by have h := HT.out; rw [if_neg (by simp [HB.out]), List.append_nil] at h; unfold dueM; rw [h])
                  go_wp2_with fail
                  refine (due_no 11 x.key 0 HI2).mono ?_
                  rintro e w4 ⟨⟨ev, rfl⟩, HI3⟩
                  go_wp2
                  go_roundw
                  case rel => exact ⟨k + 1, by omega, by go_num, Lib.hid (by rw [HT2.out]; exact HI3.out)⟩
                  case measure => simp [intOf]; omega
            · have HE : Hid (g.msgs.take k = g.msgs) := Lib.hid (List.take_of_length_le (by rw [HL11.out]; omega))
              have HI : Hid (DueI w v now wr (dueP now g)) := Lib.hid (by have h := HI.out; rw [HE.out] at h; exact h)
              obtain ⟨A, c, hb, ho⟩ := HI.out.1
              have co : wr.cell? ⟨w.heap.size + 2, 0, none⟩ = some (.slice A (dueP now g).length c) := cell_of_blk hb 0
              have HO := Lib.hid ho
              clear hb ho
              go_wp2_with fail
              go_ret
              exact ⟨A, c, rfl, own_base HO.out (by omega), HI.out.2.2.2⟩
end Go.Proofs.YtfjdllpacdobdaaGreat
/-
  The references' Job and Ready: the place of a key, the job of a key, the places of the jobs that are ready.
-/
set_option linter.unusedVariables false
set_option linter.unusedSimpArgs false
namespace Go.Proofs.Base
open Go Go.RowKit
end Go.Proofs.Base
namespace Go.Proofs.YtfjdllpacdobdaaGreat
open Go Go.RowKit Go.Proofs.Base
end Go.Proofs.YtfjdllpacdobdaaGreat
/-
  The walk of value.Named, for seats that have no other function of value. Cut out of Val.
-/
set_option linter.unusedVariables false
set_option linter.unusedSimpArgs false
namespace Go.Proofs.YtfjdllpacdobdaaGreat
open Go Go.RowKit Go.Proofs.Base
def idxFrom {α : Type} (p : α → Bool) : List α → Nat → Int
  | [], _ => -1
  | x :: r, i => if p x then (i : Int) else idxFrom p r (i + 1)
theorem idxFrom_any {α : Type} (p : α → Bool) : ∀ (l : List α) (i : Nat), decide (0 ≤ idxFrom p l i) = l.any p
  | [], i => by simp [idxFrom]
  | x :: r, i => by
    by_cases h : p x = true
    · simp [idxFrom, h]
    · simp only [idxFrom, h, Bool.false_eq_true, if_false, List.any_cons, Bool.false_or]
      exact idxFrom_any p r (i + 1)
theorem strs_new (w : World) (e : TypeId) (xs : List ByteArray) : ∀ i u, xs[i]? = some u → (w.alloc (.cells (xs.map Value.string).toArray e)).cell? ⟨w.heap.size, 0 + i, none⟩ = some (.string u) := fun i u hu => by
  rw [Nat.zero_add, cell_of_blk (heap_alloc_new w _)]
  simp [hu]
set_option maxHeartbeats 1000000 in
theorem sl_Index_str (b o n c : Nat) (xs : List ByteArray) (x : ByteArray) (w : World) (hl : xs.length = n) (hn : n ≤ 9223372036854775807) (hc : ∀ i u, xs[i]? = some u → w.cell? ⟨b, o + i, none⟩ = some (.string u)) :
    Calls Tryz.prog 47 #[.slice (some ⟨b, o, none⟩) n c, .string x] w fun e w' => e = .returned (.int .i64 (idxFrom (fun y => x.toList == y.toList) xs 0)) ∧ w = w' := by
  have HI : Hid (idxFrom (fun y : ByteArray => x.toList == y.toList) xs 0 = idxFrom (fun y => x.toList == y.toList) (xs.drop 0) 0) := Lib.hid rfl
  have Hl := Lib.hid hl
  have Hc := Lib.hid hc
  clear hl hc
  go_enter Tryz.func47, Tryz.ntmps47
  go_wp2_with fail
  go_loop [5, 8] (fun _ i => ∃ k : Nat, k ≤ n ∧ i = .int .i64 k ∧ Hid (idxFrom (fun y : ByteArray => x.toList == y.toList) xs 0 = idxFrom (fun y => x.toList == y.toList) (xs.drop k) k)) (fun _ i => n - (intOf i).toNat)
  case atStart => exact ⟨0, Nat.zero_le _, rfl, HI⟩
  case round =>
    obtain ⟨k, hk, rfl, HN⟩ := hrel
    by_cases hlt : k < n
    · have hkl : k < xs.length := by rw [Hl.out]; exact hlt
      have hN := HN.out
      rw [List.drop_eq_getElem_cons hkl] at hN
      have hx := Hc.out k xs[k] (List.getElem?_eq_getElem hkl)
      generalize xs[k] = y at *
      clear hkl
      by_cases he : (x.toList == y.toList) = true
      · simp only [idxFrom, he, if_true] at hN
        have HN2 := Lib.hid hN
        clear hN HN
        go_wp2
        go_ret
        exact ⟨by rw [HN2.out]; rfl, rfl⟩
      · have he' : (x.toList == y.toList) = false := by simpa using he
        clear he
        simp only [idxFrom, he', Bool.false_eq_true, if_false] at hN
        have HN2 := Lib.hid hN
        clear hN HN
        go_wp2
        go_round
        case rel => exact ⟨k + 1, by omega, by go_num, HN2⟩
        case measure => simp [intOf]; omega
    · go_wp2
      go_ret
      have h9 := HN.out
      rw [List.drop_eq_nil_of_le (by rw [Hl.out]; omega)] at h9
      exact ⟨by rw [h9]; rfl, rfl⟩
set_option maxHeartbeats 1000000 in
theorem sl_Contains_str (b o n c : Nat) (xs : List ByteArray) (x : ByteArray) (w : World) (hl : xs.length = n) (hn : n ≤ 9223372036854775807) (hc : ∀ i u, xs[i]? = some u → w.cell? ⟨b, o + i, none⟩ = some (.string u)) :
    Calls Tryz.prog 42 #[.slice (some ⟨b, o, none⟩) n c, .string x] w fun e w' => e = .returned (.bool (xs.any fun y => x.toList == y.toList)) ∧ w = w' := by
  have HC := Lib.hid (sl_Index_str b o n c xs x w hl hn hc)
  rw [← idxFrom_any _ _ 0]
  generalize idxFrom (fun y : ByteArray => x.toList == y.toList) xs 0 = r at *
  clear hl hc hn
  go_enter Tryz.func42, Tryz.ntmps42
  go_wp2_with (go_at_call 47; refine HC.out.mono ?_; rintro e w1 ⟨rfl, rfl⟩)
  go_ret
  exact ⟨rfl, rfl⟩
set_option maxHeartbeats 1000000 in
theorem val_Named (s : ByteArray) (w : World) (hs : s.size ≤ 9223372036854775807) :
    Calls Tryz.prog 23 #[.string s] w fun e w' => e = .returned (.bool (named s)) ∧ Below w.heap.size w w' := by
  by_cases h0 : 0 < s.size
  · have hN := named_cons h0
    by_cases h32 : s.size ≤ 32
    · by_cases hlet : 97 ≤ s[0].toNat ∧ s[0].toNat ≤ 122
      · have hm : named s = (((toL s).drop 0).all nameB && !(wordBs.any fun y => s.toList == y.toList)) := by
          have l1 : letterB s[0] = true := by unfold letterB; simp; omega
          have l2 : nameB s[0] = true := by unfold nameB; simp; omega
          rw [hN, toL_drop_cons h0, List.all_cons, l2]
          simp [h32, l1]
        have HM := Lib.hid hm
        clear hm hN
        have hc := fun (w : World) => sl_Contains_str w.heap.size 0 6 6 wordBs s (w.alloc (.cells (wordBs.map Value.string).toArray 9)) rfl (by omega) (strs_new w _ _)
        have HC := Lib.hid hc
        clear hc
        obtain ⟨hl1, hl2⟩ := hlet
        have hl1' : (97 : Int) ≤ s[0].toNat := by omega
        have hl2' : (s[0].toNat : Int) ≤ 122 := by omega
        clear hl1 hl2
        go_enter Tryz.func23, Tryz.ntmps23
        go_wp2_with fail
        clear hl1' hl2' h32
        go_loop [3, 4, 25] (fun _ _ i => ∃ k : Nat, k ≤ s.size ∧ i = .int .i64 k ∧ Hid (named s = (((toL s).drop k).all nameB && !(wordBs.any fun y => s.toList == y.toList)))) (fun _ _ i => s.size - (intOf i).toNat)
        case atStart => exact ⟨0, Nat.zero_le _, rfl, HM⟩
        case round =>
          obtain ⟨k, hk, rfl, HK⟩ := hrel
          by_cases hlt : k < s.size
          · have hq := HK.out
            rw [toL_drop_cons hlt, List.all_cons] at hq
            have HQ := Lib.hid hq
            clear hq HK
            have hb := s[k].toNat_lt
            by_cases hn : nameB s[k] = true
            · have hq := HQ.out
              rw [hn, Bool.true_and] at hq
              have HQ2 := Lib.hid hq
              clear hq HQ
              have h3 : (97 ≤ s[k].toNat ∧ s[k].toNat ≤ 122) ∨ (48 ≤ s[k].toNat ∧ s[k].toNat ≤ 57) ∨ s[k].toNat = 95 := by unfold nameB at hn; simp at hn; omega
              clear hn
              by_cases h95 : s[k].toNat = 95
              · have hb95 := bne_f (a := (s[k].toNat : Int)) (b := 95) (by omega)
                have h1 : (s[k].toNat : Int) < 97 := by omega
                have h2 : ¬ (s[k].toNat : Int) < 48 := by omega
                have h4 : (57 : Int) < (s[k].toNat : Int) := by omega
                clear h3 h95
                go_wp2_with fail
                go_round
                case rel => exact ⟨k + 1, by omega, by go_num, HQ2⟩
                case measure => simp [intOf]; omega
              · have h4 : (97 ≤ s[k].toNat ∧ s[k].toNat ≤ 122) ∨ (48 ≤ s[k].toNat ∧ s[k].toNat ≤ 57) := by omega
                clear h3 h95
                rcases h4 with ⟨h1, h2⟩ | ⟨h1, h2⟩
                · have h3 : ¬ (s[k].toNat : Int) < 97 := by omega
                  have h4 : ¬ (122 : Int) < (s[k].toNat : Int) := by omega
                  clear h1 h2
                  go_wp2_with fail
                  go_round
                  case rel => exact ⟨k + 1, by omega, by go_num, HQ2⟩
                  case measure => simp [intOf]; omega
                · have h3 : (s[k].toNat : Int) < 97 := by omega
                  have h4 : ¬ (s[k].toNat : Int) < 48 := by omega
                  have h5 : ¬ (57 : Int) < (s[k].toNat : Int) := by omega
                  clear h1 h2
                  go_wp2_with fail
                  go_round
                  case rel => exact ⟨k + 1, by omega, by go_num, HQ2⟩
                  case measure => simp [intOf]; omega
            · have hm : named s = false := by rw [HQ.out]; simp [hn]
              have HM2 := Lib.hid hm
              clear hm HQ HM
              have h3 : ¬ (97 ≤ s[k].toNat ∧ s[k].toNat ≤ 122) ∧ ¬ (48 ≤ s[k].toNat ∧ s[k].toNat ≤ 57) ∧ ¬ s[k].toNat = 95 := by unfold nameB at hn; simp at hn; omega
              clear hn
              have hb95 := bne_t (a := (s[k].toNat : Int)) (b := 95) (by omega)
              have h4 : (s[k].toNat : Int) < 48 ∨ (57 < (s[k].toNat : Int) ∧ (s[k].toNat : Int) < 97) ∨ 122 < (s[k].toNat : Int) := by omega
              clear h3
              rcases h4 with h4 | ⟨h4, h5⟩ | h4
              · have h6 : (s[k].toNat : Int) < 97 := by omega
                go_wp2_with fail
                go_ret
                exact ⟨by rw [HM2.out]; rfl, Below.refl _ _⟩
              · have h6 : ¬ (s[k].toNat : Int) < 48 := by omega
                go_wp2_with fail
                go_ret
                exact ⟨by rw [HM2.out]; rfl, Below.refl _ _⟩
              · have h6 : ¬ (s[k].toNat : Int) < 97 := by omega
                have h7 : ¬ (s[k].toNat : Int) < 48 := by omega
                have h8 : (57 : Int) < (s[k].toNat : Int) := by omega
                go_wp2_with fail
                go_ret
                exact ⟨by rw [HM2.out]; rfl, Below.refl _ _⟩
          · have hm : named s = !(wordBs.any fun y => s.toList == y.toList) := by rw [HK.out, List.drop_eq_nil_of_le (by simp; omega)]; rfl
            have HM2 := Lib.hid hm
            clear hm HK HM
            go_wp2_with (go_at_call 42; refine (HC.out _).mono ?_; rintro e w1 ⟨rfl, rfl⟩)
            go_ret
            exact ⟨by rw [HM2.out]; rfl, (Below.refl _ _).alloc (Nat.le_refl _) _⟩
      · have hm : named s = false := by
          rw [hN]
          have : letterB s[0] = false := by unfold letterB; simp; omega
          simp [this]
        have HM := Lib.hid hm
        have hle : (s[0].toNat : Int) < 97 ∨ ¬ (s[0].toNat : Int) < 97 ∧ 122 < (s[0].toNat : Int) := by omega
        clear hm hN hlet
        rcases hle with hle | ⟨hl1, hl2⟩
        all_goals
          go_enter Tryz.func23, Tryz.ntmps23
          go_wp2_with fail
          go_ret
          exact ⟨by rw [HM.out]; rfl, Below.refl _ _⟩
    · have hm : named s = false := by rw [hN]; simp [h32]
      have HM := Lib.hid hm
      clear hm hN
      go_enter Tryz.func23, Tryz.ntmps23
      go_wp2_with fail
      go_ret
      exact ⟨by rw [HM.out]; rfl, Below.refl _ _⟩
  · have hm := named_nil h0
    have HM := Lib.hid hm
    clear hm
    go_enter Tryz.func23, Tryz.ntmps23
    go_wp2_with fail
    go_ret
    exact ⟨by rw [HM.out]; rfl, Below.refl _ _⟩
end Go.Proofs.YtfjdllpacdobdaaGreat
/-
  book.Activate with what it may not be called with; a work that is nil.
-/
set_option linter.unusedVariables false
set_option linter.unusedSimpArgs false
namespace Go.Proofs.YtfjdllpacdobdaaGreat
open Go Go.RowKit Go.Proofs.Base
def actOk (kind worker : ByteArray) (most wait : Int) : Bool := named kind && named worker && decide (1 ≤ most) && decide (most ≤ 32) && decide (1 ≤ wait) && decide (wait ≤ 1048576)
end Go.Proofs.YtfjdllpacdobdaaGreat
/-
  book.Activate.
-/
set_option linter.unusedVariables false
set_option linter.unusedSimpArgs false
namespace Go.Proofs.YtfjdllpacdobdaaGreat
open Go Go.RowKit Go.Shelf Go.Proofs.Base
attribute [local go_sem] Oper.semAt_some
def ActTo (S : Nat → Prop) (b : Nat) (w : World) (g : GSt) (p : WkP) (worker : ByteArray) (till : Int) (ts : List (Nat × EJob)) (e : Ending) (w' : World) : Prop :=
  ∃ A c, e = .returned (.tuple #[.slice A ts.length c, .int .i64 0]) ∧ w'.ownsRow w.heap.size 45 6 (.slice A ts.length c) ts.length ((ts.map (outJ worker till)).flatMap encJob) ∧
    ∃ S' v' g' p', WkB S' b w' v' g' p' ∧ g'.pure = (if ts = [] then stepP p dnR g.pure else takeP p worker till ts g.pure) ∧ p'.m ≤ p.m + 32 ∧ p'.part = p.part ∧ p'.pos = p.pos ∧ p'.now = p.now ∧ (∀ x, S' x → S x ∨ w.heap.size ≤ x) ∧ (∀ x, p'.T b x → p.T b x ∨ w.heap.size ≤ x) ∧
      (∀ x, (Value.slice A ts.length c).ownBlock = some x → ¬ S' x ∧ ¬ p'.T b x) ∧ Mut (p.T b) w w'
theorem act_fin {S S3 : Nat → Prop} {b n₀ D : Nat} {w U1 : World} {v3 : StV} {g g3 : GSt} {p p3 : WkP} {worker : ByteArray} {till : Int} {ts : List (Nat × EJob)} {A : Option Addr} {c : Nat} (hW3 : WkB S3 b U1 v3 g3 p3) (hp : g3.pure = (if ts = [] then stepP p dnR g.pure else takeP p worker till ts g.pure)) (hm : p3.m ≤ p.m + 32) (ha : p3.part = p.part) (hb : p3.pos = p.pos) (hn : p3.now = p.now)
    (ho : U1.ownsRow n₀ 45 6 (.slice A ts.length c) ts.length ((ts.map (outJ worker till)).flatMap encJob)) (hd : ∀ x, (Value.slice A ts.length c).ownBlock = some x → ¬ S3 x ∧ ¬ p3.T b x) (hS : ∀ x, S3 x → S x ∨ w.heap.size ≤ x) (hT : ∀ x, p3.T b x → p.T b x ∨ w.heap.size ≤ x) (hM : Mut (p.T b) w U1) (hn0 : w.heap.size ≤ n₀) (hK : U1.heap[D]? = some (.deferred (some []))) (hD : w.heap.size ≤ D) :
    ActTo S b w g p worker till ts (.returned (.tuple #[.slice A ts.length c, .int .i64 0])) (U1.putObj D (.deferred none)) :=
  ⟨A, c, rfl, own_base (ownsRow_putObj ho _ hK rfl) hn0, _, v3, g3, p3, hW3.own (grownBy_putObj' U1 D _) (fun r e => by injection e with e; subst e; exact ⟨_, hK, rfl⟩), hp, hm, ha, hb, hn, fun x hx => hS x hx.1, hT, fun x hx => ⟨fun h => (hd x hx).1 h.1, (hd x hx).2⟩,
    Mut.trans hM (Mut.grown (T := fun x => D = x) (grownBy_putObj' U1 D _) (fun r e => by injection e)) (fun x hx e => by omega)⟩
set_option maxRecDepth 100000 in
set_option maxHeartbeats 8000000 in
theorem act_ok {S : Nat → Prop} {b : Nat} {w : World} {v : StV} {g : GSt} {p : WkP} (h : WkB S b w v g p) (hf : g.fits) (hi : ∀ x ∈ g.msgs, x.insts.length * 8 ≤ 140737488355328) (hm : (p.m + 33) * 144 ≤ 140737488355328) (kind worker : ByteArray) (most wait : Int) (hok : actOk kind worker most wait = true) (hk : kind.size ≤ 9223372036854775807) (hw : worker.size ≤ 9223372036854775807) (till : Int) (ht : wrap64 (p.now + wait) = till) :
    Calls Tryz.prog 12 #[.pointer (some ⟨b, 0, none⟩), .string kind, .string worker, .int .i64 most, .int .i64 wait] w (ActTo S b w g p worker till ((rdy kind g.jobs 0).take most.toNat)) := by
  obtain ⟨N, hN⟩ : ∃ N, N = ((w.alloc (.cells #[.pointer (some ⟨b, 0, none⟩)] 36)).alloc (.cells #[.string worker] 9)).alloc (.cells #[.int .i64 most] 2) := ⟨_, rfl⟩
  have HB0 : Hid (Below w.heap.size w N) := Lib.hid (by rw [hN]; exact below_alloc (below_alloc (below_alloc (Below.refl _ _) _) _) _)
  have b0 : N.heap[w.heap.size]? = some (.cells #[.pointer (some ⟨b, 0, none⟩)] 36 (0, 0)) := by rw [hN]; exact blk_alloc (blk_alloc (blk_new _) _) _
  have b1 : N.heap[w.heap.size + 1]? = some (.cells #[.string worker] 9 (0, 0)) := by rw [hN]; exact blk_alloc (blk_new_of _ (by simp)) _
  have b2 : N.heap[w.heap.size + 2]? = some (.cells #[.int .i64 most] 2 (0, 0)) := by rw [hN]; exact blk_new_of _ (by simp)
  have HNS : Hid (N.heap.size = w.heap.size + 3) := Lib.hid (by rw [hN]; simp)
  have HK := Lib.hid (fun W => val_Named kind W hk)
  have HW := Lib.hid (fun W => val_Named worker W hw)
  have B0 := Lib.hid b0
  have B1 := Lib.hid b1
  have B2 := Lib.hid b2
  have HN := Lib.hid hN
  have HWK := Lib.hid h
  have HF := Lib.hid hf
  have HI := Lib.hid hi
  have HM := Lib.hid hm
  obtain ⟨⟨⟨⟨⟨q1, q2⟩, m1⟩, m2⟩, m3⟩, m4⟩ : ((((named kind = true ∧ named worker = true) ∧ 1 ≤ most) ∧ most ≤ 32) ∧ 1 ≤ wait) ∧ wait ≤ 1048576 := by
    simpa only [actOk, Bool.and_eq_true, decide_eq_true_eq] using hok
  have k1 : decide (most < 1) = false := by simp; omega
  have k2 : decide (32 < most) = false := by simp; omega
  have k3 : decide (wait < 1) = false := by simp; omega
  have k4 : decide (1048576 < wait) = false := by simp; omega
  have HMO : Hid (1 ≤ most ∧ most ≤ 32) := Lib.hid ⟨m1, m2⟩
  clear hk hw b1 b2 hN h hf hi hm hok m1 m2
  have c0 := cell_of_blk b0 0
  clear b0
  refine (callsIn_wide (n := 0)).1 (callsIn_of_wp_marks Tryz.func12 rfl trivial ?_ rfl)
  simp only [Tryz.ntmps12, List.size_toArray, List.length_cons, List.length_nil, Nat.reduceAdd, Nat.reduceSub, Array.replicate_succ, Array.replicate_zero, List.push_toArray, List.append_toArray, List.nil_append, List.cons_append]
  refine (wpIn_wide (n := 0)).2 ?_
  go_wp2_with fail
  rw [show ((w.alloc (.cells #[.pointer (some ⟨b, 0, none⟩)] 36)).alloc (.cells #[.string worker] 9)).alloc (.cells #[.int .i64 most] 2) = N from HN.out.symm]
  clear HN
  refine (HK.out _).mono ?_
  rintro e w1 ⟨rfl, hb1⟩
  have c1 : w1.cell? ⟨w.heap.size + 1, 0, none⟩ = some (.string worker) := cell_of_blk (block_below hb1 B1.out) 0
  have H1 := Lib.hid hb1
  clear hb1 c0
  go_wp2_with fail
  refine (HW.out _).mono ?_
  rintro e w2 ⟨rfl, hb2⟩
  have c2 : w2.cell? ⟨w.heap.size + 2, 0, none⟩ = some (.int .i64 most) := cell_of_blk (block_below hb2 (block_below H1.out B2.out)) 0
  have H2 := Lib.hid (below2 (below2 HB0.out H1.out) hb2)
  have H2n := Lib.hid (below2 H1.out hb2)
  have HZ2 : Hid (w.heap.size + 3 ≤ w2.heap.size) := Lib.hid (by have h1 := HNS.out; have h2 := H2n.out.size; omega)
  have d0 : (w2.alloc (.cells #[.slice none 0 0] 26)).cell? ⟨w.heap.size, 0, none⟩ = some (.pointer (some ⟨b, 0, none⟩)) := cell_of_blk (block_below (below_alloc (Below.refl _ _) _) (block_below H2n.out B0.out)) 0
  clear hb2 c1 H1 HB0
  go_wp2_with fail
  refine (wk_Now (HWK.out.below (below_alloc H2.out _))).mono ?_
  rintro e w3 ⟨rfl, rfl⟩
  clear c2
  have e0 : ((w2.alloc (.cells #[.slice none 0 0] 26)).alloc (.cells #[.int .i64 till] 2)).cell? ⟨w.heap.size, 0, none⟩ = some (.pointer (some ⟨b, 0, none⟩)) := cell_of_blk (block_below (below_alloc (below_alloc (Below.refl _ _) _) _) (block_below H2n.out B0.out)) 0
  clear d0
  go_wp2_with fail
  obtain ⟨M, hM⟩ : ∃ M, M = (w2.alloc (.cells #[.slice none 0 0] 26)).alloc (.cells #[.int .i64 till] 2) := ⟨_, rfl⟩
  have HMB : Hid (Below w2.heap.size w2 M) := Lib.hid (by rw [hM]; exact below_alloc (below_alloc (Below.refl _ _) _) _)
  have HMS : Hid (M.heap.size = w2.heap.size + 2) := Lib.hid (by rw [hM]; simp)
  have HBo : Hid (M.heap[w2.heap.size]? = some (.cells #[.slice none 0 0] 26 (0, 0))) := Lib.hid (by rw [hM]; exact blk_alloc (blk_new _) _)
  have HBu : Hid (M.heap[w2.heap.size + 1]? = some (.cells #[.int .i64 till] 2 (0, 0))) := Lib.hid (by rw [hM]; exact blk_new_of _ (by simp))
  rw [← hM]
  clear hM e0
  have HWM := Lib.hid (HWK.out.below (below2 H2.out HMB.out))
  refine (wk_State HWM.out HF.out HI.out).mono ?_
  rintro e w4 ⟨v1, g1, rfl, hs, hp, hb4⟩
  have HS1 := Lib.hid hs
  have HP1 := Lib.hid hp
  have HB4 := Lib.hid hb4
  clear hs hp hb4
  go_wp2_with fail
  refine (ready_any v1 kind _).mono ?_
  rintro e V ⟨rfl, hV⟩
  have HBV : Hid (Below w4.heap.size w4 V) := Lib.hid (by rw [hV]; exact below_alloc (below_alloc (Below.refl _ _) _) _)
  have HSV : Hid (V.heap.size = w4.heap.size + 2) := Lib.hid (by rw [hV]; simp)
  have HV6 : Hid (V.cell? ⟨w4.heap.size, 6, none⟩ = some (.slice v1.A6 v1.n6 v1.c6)) := Lib.hid (by rw [hV]; exact cell_of_blk (blk_alloc (blk_new _) _) 6)
  have HVK : Hid (V.heap[w4.heap.size + 1]? = some (.cells #[.string kind] 9 (0, 0))) := Lib.hid (by rw [hV]; exact blk_new_of _ (by simp))
  clear hV
  go_wp2_with fail
  have HG1 : Hid (g1.jobs = g.jobs) := Lib.hid (by show g1.pure.jobs = g.pure.jobs; rw [HP1.out])
  have HZM := Lib.hid HB4.out.size
  have HWB : Hid (Below w.heap.size w V) := Lib.hid (below2 (below2 (below2 H2.out HMB.out) HB4.out) HBV.out)
  have HM2V : Hid (Below M.heap.size M V) := Lib.hid (below2 HB4.out HBV.out)
  have HNV : Hid (Below N.heap.size N V) := Lib.hid (below2 (below2 (below2 H2n.out HMB.out) HB4.out) HBV.out)
  have HWV := Lib.hid (HWK.out.below HWB.out)
  have HPL : Hid (∀ y, p.T b y → y < w.heap.size) := Lib.hid (fun y hy => HWK.out.lt hy)
  have HSZ : Hid (w.heap.size + 3 ≤ w2.heap.size ∧ w2.heap.size + 2 = M.heap.size ∧ M.heap.size ≤ w4.heap.size ∧ w4.heap.size + 2 = V.heap.size) := Lib.hid ⟨HZ2.out, HMS.out.symm, HZM.out, HSV.out.symm⟩
  have B0V := Lib.hid (block_below HNV.out B0.out)
  have B1V := Lib.hid (block_below HNV.out B1.out)
  have B2V := Lib.hid (block_below HNV.out B2.out)
  have BoV := Lib.hid (block_below HM2V.out HBo.out)
  have BuV := Lib.hid (block_below HM2V.out HBu.out)
  have HROW : Hid (ListR V (fun x => x < V.heap.size ∧ ¬ (p.T b x ∨ x = w2.heap.size)) 6 encJob v1.A6 v1.n6 v1.c6 g.jobs) := Lib.hid (by
    have h1 := HS1.out.jobs
    rw [HG1.out] at h1
    refine ⟨h1.1, (h1.2.weaken (S' := fun x => x < w4.heap.size ∧ (S x ∨ M.heap.size ≤ x)) (fun x hx hs => ⟨hx, hs⟩)).below HBV.out |>.weaken (fun x hx hs => ⟨hx, fun ht => ?_⟩)⟩
    have hz := HSZ.out
    rcases hs.2 with h | h
    · rcases ht with ht | ht
      · exact (HWK.out.dis x h).1 ht
      · have := (HWK.out.dis x h).2; omega
    · rcases ht with ht | ht
      · have := HPL.out x ht; omega
      · omega)
  have HSEQ := Lib.hid (ready_seq (n₂ := V.heap.size + 2) HV6.out HVK.out (by have hz := HSZ.out; exact ⟨by omega, fun ht => by rcases ht with ht | ht; have := HPL.out _ ht; omega; omega⟩) HROW.out (Nat.le_refl _))
  have HAI : Hid (ActI V.heap.size b w2.heap.size S g p worker till (fun y => y = w.heap.size ∨ y = w.heap.size + 1 ∨ y = w.heap.size + 2 ∨ y = w2.heap.size ∨ y = w2.heap.size + 1) [] V) := Lib.hid ⟨S, v, g, p, none, 0, HWV.out, rfl, ⟨rfl, rfl, rfl, rfl⟩, BoV.out, own_nil _ _ _ _, fun y hy => by
    have hz := HSZ.out
    exact ⟨fun h => by have := (HWK.out.dis y h).2; omega, fun h => by have := HPL.out y h; omega, fun h => by cases h⟩, (fun y h => by cases h), fun y h => .inl h, fun y h => .inl h⟩
  clear ht
  clear HS1 HP1 HBV HV6 HVK HMB HMS HBo HBu HWM B0 B1 B2 HZM HM2V HNV HROW HNS HZ2 H2 H2n HB4 HSV
  refine (wpIn_wide (n := 0)).1 ?_
  refine range_law (P := Tryz.prog) (gf := 30) (lb := #[.pointer (some ⟨w4.heap.size, 0, none⟩), .pointer (some ⟨w4.heap.size + 1, 0, none⟩)]) (by first | rfl | simp) (enters_of Tryz.func30 (by kernel_rfl) rfl)
    HSEQ.out (fun h k => h.trans k) (fun W r o h => KeepN.turn W o) (fun _ => rfl)
    (fun pre U => ActI V.heap.size b w2.heap.size S g p worker till (fun y => y = w.heap.size ∨ y = w.heap.size + 1 ∨ y = w.heap.size + 2 ∨ y = w2.heap.size ∨ y = w2.heap.size + 1) pre U ∧ Mut (fun y => p.T b y ∨ y = w2.heap.size) V U ∧ (pre.length : Int) ≤ most)
    (fun c pre' U => c = .exit 0 ∧ ActX V.heap.size b w2.heap.size S g p worker till (fun y => y = w.heap.size ∨ y = w.heap.size + 1 ∨ y = w.heap.size + 2 ∨ y = w2.heap.size ∨ y = w2.heap.size + 1) most pre' U ∧ Mut (fun y => p.T b y ∨ y = w2.heap.size) V U)
    (OwnFrom.and (actI_own _ _ _ _ _ _ _ _ _ _) (OwnFrom.and (ownFrom_mut (Nat.le_refl _)) (ownFrom_pure _ _)))
    (fun c => OwnFrom.and (ownFrom_pure _ _) (OwnFrom.and (actX_own _ _ _ _ _ _ _ _ _ _ _) (ownFrom_mut (Nat.le_refl _))))
    ⟨HAI.out, Mut.refl _ _, by have := HMO.out; simp; omega⟩
    (fun pre x a' W => ∃ Jb, V.heap.size ≤ Jb ∧ a' = { tmps := #[.pointer (some ⟨b, 0, none⟩), .string kind, .string worker, .int .i64 most, .int .i64 wait, .pointer (some ⟨w.heap.size, 0, none⟩), undef, .pointer (some ⟨w.heap.size + 1, 0, none⟩), .pointer (some ⟨w.heap.size + 1 + 1, 0, none⟩), undef, .slice none 0 0, .int .i64 0, .pointer (some ⟨w2.heap.size, 0, none⟩), .pointer (some ⟨w2.heap.size + 1, 0, none⟩), undef, .pointer (some ⟨Jb, 0, none⟩), .pointer (some ⟨b, 0, none⟩), .bool false, .bool false, .string kind, .bool true, .bool false, .bool false, .bool false, .string worker, .bool true, .bool false, .bool false, .bool false, .int .i64 most, .bool false, .bool false, .bool false, .int .i64 most, .bool false, .bool false, .bool false, .int .i64 wait, .bool false, .bool false, .bool false, .int .i64 wait, .bool false, .bool false, .pointer (some ⟨b, 0, none⟩), .int .i64 p.now, .int .i64 wait, .int .i64 till, .pointer (some ⟨b, 0, none⟩), .agg v1.vals, .string kind, .func (.func 30) #[] #[.pointer (some ⟨w4.heap.size, 0, none⟩), .pointer (some ⟨w4.heap.size + 1, 0, none⟩)], .int .i64 (x.1 : Nat), .agg #[.int .u64 x.2.key, .int .u64 x.2.token, .string x.2.typ, .int .i64 x.2.retries, .string x.2.worker, .int .i64 x.2.till], undef, undef, undef, undef, undef, undef, undef, undef, undef, undef, undef, undef, undef, undef, undef, undef, undef, undef, undef, undef, undef, undef, undef, undef, undef, undef], defers := [] } ∧ W.heap[Jb]? = some (.cells #[.int .u64 x.2.key, .int .u64 x.2.token, .string x.2.typ, .int .i64 x.2.retries, .string x.2.worker, .int .i64 x.2.till] 45 (0, 0)) ∧ ActI V.heap.size b w2.heap.size S g p worker till (fun y => (y = w.heap.size ∨ y = w.heap.size + 1 ∨ y = w.heap.size + 2 ∨ y = w2.heap.size ∨ y = w2.heap.size + 1) ∨ y = Jb) pre W)
    (fun pre x a' u W W' row hs hg hr => by obtain ⟨Jb, h1, h2, h3, h4⟩ := hs; exact ⟨Jb, h1, h2, ownFrom_blk _ _ _ _ () W W' row h3 hg hr, actI_own _ _ _ _ _ _ _ _ _ _ _ W W' row h4 hg hr⟩)
    ?assign ?body ?done ?stop
  case assign =>
    rintro l2 pre x U K ⟨hAI, hMU, hle⟩ hK
    gi_wp2
    exact hK _ _ ⟨by simp, fun k o _ ho _ => block_below (below_alloc (Below.refl _ _) _) ho⟩ (KeepN.of_mut (Mut.of_below (below_alloc (Below.refl _ _) _) (fun _ => False)) hMU.size (fun _ _ h => h.elim)) ⟨(actI_own V.heap.size _ _ _ _ _ _ _ _ _).alloc _ hAI, Mut.trans hMU (Mut.of_below (below_alloc (Below.refl _ _) _) (fun _ => False)) (fun _ _ h => h.elim), hle⟩ ⟨U.heap.size, hMU.size, (by first | rfl | simp), blk_new _, hAI.new _⟩
  case body =>
    rintro l2 pre x a' U hU ⟨hAI, hMU, hle⟩ ⟨Jb, hJn, rfl, hJc, S2, v2, g2, p2, A2, cc2, hW2, hp2, hq2, hbo, ho, hF2, hd2, hS2, hT2⟩ hok
    have hz := HSZ.out
    have NT : ∀ y, w.heap.size ≤ y → y ≠ w2.heap.size → ¬ (p.T b y ∨ y = w2.heap.size) := fun y h1 h2 ht => by rcases ht with ht | ht; have := HPL.out y ht; omega; omega
    have c0 : U.cell? ⟨w.heap.size, 0, none⟩ = some (.pointer (some ⟨b, 0, none⟩)) := cell_of_blk (hMU.blk B0V.out (NT _ (by omega) (by omega))) 0
    have c2 : U.cell? ⟨w.heap.size + 1 + 1, 0, none⟩ = some (.int .i64 most) := cell_of_blk (hMU.blk B2V.out (NT _ (by omega) (by omega))) 0
    have b1U := hMU.blk B1V.out (NT _ (by omega) (by omega))
    have buU := hMU.blk BuV.out (NT _ (by omega) (by omega))
    have c1 : U.cell? ⟨w.heap.size + 1, 0, none⟩ = some (.string worker) := cell_of_blk b1U 0
    have cu : U.cell? ⟨w2.heap.size + 1, 0, none⟩ = some (.int .i64 till) := cell_of_blk buU 0
    have co : U.cell? ⟨w2.heap.size, 0, none⟩ = some (.slice A2 pre.length cc2) := cell_of_blk hbo 0
    have j0 : U.cell? ⟨Jb, 0, none⟩ = some (.int .u64 x.2.key) := cell_of_blk hJc 0
    have B1U := Lib.hid b1U
    have BuU := Lib.hid buU
    have HJC := Lib.hid hJc
    have HW2 := Lib.hid hW2
    have HP2 := Lib.hid hp2
    have HQ2 := Lib.hid hq2
    have HBO := Lib.hid hbo
    have HO := Lib.hid ho
    have HF2 := Lib.hid hF2
    have HD2 := Lib.hid hd2
    have HS2 := Lib.hid hS2
    have HT2 := Lib.hid hT2
    have HAIU := Lib.hid hAI
    have HMU := Lib.hid hMU
    have HUN : Hid (V.heap.size ≤ U.heap.size) := Lib.hid (by omega)
    have HJN := Lib.hid hJn
    have HLE := Lib.hid hle
    clear b1U buU hJc hW2 hp2 hq2 hbo ho hF2 hd2 hS2 hT2 hAI hMU hU hJn hok NT hz hle k1 k2 k3 k4 m3 m4
    by_cases hq : (pre.length : Int) = most
    · have hq1 : ((pre.length : Int) == most) = true := beq_t hq
      have HQ := Lib.hid hq
      clear hq
      gi_wp2
      exact ⟨KeepsFrom.refl _ _, rfl, ⟨pre, x, rfl, HQ.out, HAIU.out⟩, HMU.out⟩
    · have hq1 : ((pre.length : Int) == most) = false := beq_f hq
      have HQ := Lib.hid hq
      clear hq
      gi_wp2
      refine ⟨trivial, rfl, CallsIn.mono (F := Fence.wide.inRound l2) (callsIn_wide.2 (em7 HW2.out ?_ ?_ x.2.key worker till)) ?_⟩
      · have h1 := HM.out; have h2 := HQ2.out.1; have h3 := HLE.out; have h4 := HMO.out; omega
      · exact (alike_of (by rw [HP2.out]; exact take_alike _ _ _ _ _)).fits HF.out
      rintro e U1 ⟨⟨ev, rfl⟩, S3, v3, g3, p3, hW3, hp3, hm3, ha3, hb3, hn3, hS3, hT3, hMu⟩
      have NF : ∀ y, (y = w.heap.size ∨ y = w.heap.size + 1 ∨ y = w.heap.size + 2 ∨ y = w2.heap.size ∨ y = w2.heap.size + 1) ∨ y = Jb → ¬ p2.T b y := fun y hy => (HF2.out y hy).2.1
      have d1 : U1.cell? ⟨w.heap.size + 1, 0, none⟩ = some (.string worker) := cell_of_blk (hMu.blk B1U.out (NF _ (by omega))) 0
      have du : U1.cell? ⟨w2.heap.size + 1, 0, none⟩ = some (.int .i64 till) := cell_of_blk (hMu.blk BuU.out (NF _ (by omega))) 0
      have hJ1 := hMu.blk HJC.out (NF Jb (.inr rfl))
      have z4 := cell_of_blk hJ1 4
      have z5 := cell_of_blk hJ1 5
      have f4 := frozen_of_blk hJ1 4
      have f5 := frozen_of_blk hJ1 5
      have hjo : Jb ≠ w2.heap.size := by have h1 := HJN.out; have h2 := HSZ.out; omega
      have hju : Jb ≠ w2.heap.size + 1 := by have h1 := HJN.out; have h2 := HSZ.out; omega
      have hj1 : Jb ≠ w.heap.size + 1 := by have h1 := HJN.out; have h2 := HSZ.out; omega
      have do1 : U1.cell? ⟨w2.heap.size, 0, none⟩ = some (.slice A2 pre.length cc2) := cell_of_blk (hMu.blk HBO.out (NF _ (by omega))) 0
      have HJ1 := Lib.hid hJ1
      have HW3 := Lib.hid hW3
      have HP3 := Lib.hid hp3
      have HM3 := Lib.hid hm3
      have HA3 := Lib.hid ha3
      have HB3 := Lib.hid hb3
      have HN3 := Lib.hid hn3
      have HS3 := Lib.hid hS3
      have HT3 := Lib.hid hT3
      have HMu := Lib.hid hMu
      have HOU := Lib.hid (own_mut HO.out hMu (fun y hy => (HD2.out y hy).2))
      clear NF hJ1 hW3 hp3 hm3 ha3 hb3 hn3 hS3 hT3 hMu c0 c1 c2 cu co j0 hq1
      obtain ⟨U2, hU2⟩ : ∃ U2, U2 = ((U1.setCell ⟨Jb, 4, none⟩ (.string worker)).setCell ⟨Jb, 5, none⟩ (.int .i64 till)).drew := ⟨_, rfl⟩
      have hM2 : Mut (fun y => y = Jb) U1 U2 := by rw [hU2]; exact (Mut.setCell (T := fun y => y = Jb) (Mut.setCell (T := fun y => y = Jb) (Mut.refl _ _) (p := ⟨Jb, 4, none⟩) (fun _ => rfl) _) (p := ⟨Jb, 5, none⟩) (fun _ => rfl) _).drew
      have hJ2 : U2.heap[Jb]? = some (.cells #[.int .u64 x.2.key, .int .u64 x.2.token, .string x.2.typ, .int .i64 x.2.retries, .string worker, .int .i64 till] 45 (0, 0)) := by rw [hU2]; exact set_blk (o := 5) (set_blk (o := 4) HJ1.out _) _
      have y0 : U2.cell? ⟨Jb, 0, none⟩ = some (.int .u64 x.2.key) := cell_of_blk hJ2 0
      have y1 : U2.cell? ⟨Jb, 1, none⟩ = some (.int .u64 x.2.token) := cell_of_blk hJ2 1
      have y2 : U2.cell? ⟨Jb, 2, none⟩ = some (.string x.2.typ) := cell_of_blk hJ2 2
      have y3 : U2.cell? ⟨Jb, 3, none⟩ = some (.int .i64 x.2.retries) := cell_of_blk hJ2 3
      have y4 : U2.cell? ⟨Jb, 4, none⟩ = some (.string worker) := cell_of_blk hJ2 4
      have y5 : U2.cell? ⟨Jb, 5, none⟩ = some (.int .i64 till) := cell_of_blk hJ2 5
      have yo : U2.cell? ⟨w2.heap.size, 0, none⟩ = some (.slice A2 pre.length cc2) := hM2.cell do1 (fun e => hjo e.symm)
      have HO2 := Lib.hid (own_mut HOU.out hM2 (fun y hy e => (HF2.out Jb (.inr rfl)).2.2 (by rw [hy, e])))
      have HU2 := Lib.hid hU2
      have HM2 := Lib.hid hM2
      have HBO2 := Lib.hid (hM2.blk (HMu.out.blk HBO.out (fun h => (HF2.out w2.heap.size (.inl (by omega))).2.1 h)) (fun e => hjo e.symm))
      clear hU2 hM2 hJ2
      gi_wp2
      gi_region
      all_goals (rw [show ((U1.setCell ⟨Jb, 4, none⟩ (.string worker)).setCell ⟨Jb, 5, none⟩ (.int .i64 till)).drew = U2 from HU2.out.symm])
      clear HU2
      gi_wp2_with (gi_at_builtin; refine wpIn_app_at eJob (by decide) rfl (.tmp 69) (.tmp 71) rfl V.heap.size (.slice A2 pre.length cc2) pre.length ((pre.map (outJ worker till)).flatMap encJob) [.int .u64 x.2.key, .int .u64 x.2.token, .string x.2.typ, .int .i64 x.2.retries, .string worker, .int .i64 till] rfl U2.heap.size rfl rfl rfl (by simp [Value.oneCell']) HO2.out (by have h1 := HUN.out; have h2 := HMu.out.size; have h3 := HM2.out.size; omega) (by have h3 := HLE.out; have h4 := HMO.out; omega) (by have h3 := HLE.out; have h4 := HMO.out; omega) ?_; intro v4 w4x own4 hg4 hat4; obtain ⟨A4, c4, rfl, -, -⟩ := (Row.of_own own4).open_; have HO4 := Lib.hid own4; have HG4 := Lib.hid hg4; have HA4 := Lib.hid hat4; have xb := (hg4.block _ (lt_of_blk (block_below (below_alloc (Below.refl _ _) _) HBO2.out)) (fun e => (HF2.out w2.heap.size (.inl (by omega))).2.2 e.symm)).trans (block_below (below_alloc (Below.refl _ _) _) HBO2.out); have xc := cell_of_blk xb 0; have xf := frozen_of_blk xb 0; clear own4 hg4 hat4 xb)
      all_goals
        have hR := act_round (V := V) (T0 := fun y => p.T b y ∨ y = w2.heap.size) HW2.out HP2.out HQ2.out HBO.out HO.out HF2.out HD2.out HS2.out HT2.out (fun y hy => by have := HSZ.out; omega) (.inr (.inr (.inr (.inl rfl)))) HUN.out HJN.out HJC.out HW3.out HP3.out HM3.out HA3.out HB3.out HN3.out HS3.out HT3.out HMu.out HM2.out HO4.out HG4.out HA4.out HMU.out rfl (fun y h => h)
        exact ⟨hR.1, hR.2.1, hR.2.2.1, hR.2.2.2, by have h1 := HLE.out; have h2 := HQ.out; rw [List.length_append]; simp; omega⟩
  case done =>
    rintro D ys U hD rfl ⟨hAI, hMU, hle⟩ hK
    have hz := HSZ.out
    have NT : ∀ y, w.heap.size ≤ y → y ≠ w2.heap.size → ¬ (p.T b y ∨ y = w2.heap.size) := fun y h1 h2 ht => by rcases ht with ht | ht; have := HPL.out y ht; omega; omega
    have c0 : U.cell? ⟨w.heap.size, 0, none⟩ = some (.pointer (some ⟨b, 0, none⟩)) := cell_of_blk (hMU.blk B0V.out (NT _ (by omega) (by omega))) 0
    have HTS : Hid ((rdy kind g.jobs 0).take most.toNat = rdy kind g.jobs 0) := Lib.hid (List.take_of_length_le (by omega))
    generalize rdy kind g.jobs 0 = ts at *
    have HLT := Lib.hid hle
    have HZ := Lib.hid hz
    obtain ⟨S2, v2, g2, p2, A2, cc2, hW2, hp2, hq2, hbo, ho, hF2, hd2, hS2, hT2⟩ := hAI
    have co : U.cell? ⟨w2.heap.size, 0, none⟩ = some (.slice A2 ts.length cc2) := cell_of_blk hbo 0
    have HWU := Lib.hid hW2
    have HPU := Lib.hid hp2
    have HQU := Lib.hid hq2
    have HO := Lib.hid ho
    have HDU := Lib.hid hd2
    have HSU := Lib.hid hS2
    have HTU := Lib.hid hT2
    have HKD := Lib.hid hK
    have HDV := Lib.hid hD
    have HMX : Hid (Mut (p.T b) w U) := Lib.hid (Mut.trans (Mut.of_below HWB.out (p.T b)) hMU (fun y hy ht => by rcases ht with ht | ht; exact ht; have h1 := HSZ.out; omega))
    clear hW2 hp2 hq2 hbo ho hF2 hd2 hS2 hT2 hz NT hK hD hle hMU HSEQ HAI
    by_cases h0 : ts.length = 0
    · obtain rfl : ts = [] := List.eq_nil_of_length_eq_zero h0
      clear h0
      go_wp2_with fail
      refine (em24 HWU.out (by have h1 := HM.out; have h2 := HQU.out.1; simp at h2; omega)).mono ?_
      rintro e U1 ⟨⟨ev, rfl⟩, S3, v3, g3, p3, hW3, hp3, hm3, ha3, hb3, hn3, hS3, hT3, hMu⟩
      have co1 : U1.cell? ⟨w2.heap.size, 0, none⟩ = some (.slice A2 0 cc2) := hMu.cell co (fun h => by
        have h : p.T b w2.heap.size ∨ V.heap.size ≤ w2.heap.size := HTU.out _ h
        have hz := HSZ.out
        rcases h with h | h
        · have := HPL.out _ h; omega
        · omega)
      have HK1 : Hid (U1.heap[D]? = some (.deferred (some []))) := Lib.hid (hMu.blk HKD.out (fun h => by
        have h4 := HKD.out
        rcases h with rfl | h
        · rw [HWU.out.box] at h4; cases h4
        · obtain ⟨xs, hx⟩ := HWU.out.ev
          obtain ⟨_, cs, h3⟩ := own_type hx h
          rw [h3] at h4; cases h4))
      have HR := act_fin (S := S) (g := g) (p := p) (worker := worker) (till := till) (ts := []) hW3 (by rw [if_pos rfl, hp3, show g2.pure = g.pure from HPU.out, emR_eq HQU.out.2.2.1 HQU.out.2.2.2, show g2.pos = g.pos from (by show g2.pure.pos = g.pure.pos; rw [show g2.pure = g.pure from HPU.out])]; rfl) (by have h1 := HQU.out.1; simp at h1; omega) (ha3.trans HQU.out.2.1) (hb3.trans HQU.out.2.2.1) (hn3.trans HQU.out.2.2.2) (own_mut HO.out hMu (fun x hx => (HDU.out x hx).2)) (fun x hx => by have h1 := HDU.out x hx; have h2 := (HO.out.lt x hx).2; exact ⟨fun h => (hS3 x h).elim h1.1 (by omega), fun h => (hT3 x h).elim h1.2 (by omega)⟩) (fun x hx => (hS3 x hx).elim (fun h => (HSU.out x h).imp id (fun h => by have h1 := HSZ.out; omega)) (fun h => .inr (by have h1 := HMX.out.size; omega))) (fun x hx => (hT3 x hx).elim (fun h => (HTU.out x h).imp id (fun h => by have h1 := HSZ.out; omega)) (fun h => .inr (by have h1 := HMX.out.size; omega))) (Mut.trans HMX.out hMu (fun x hx h => (HTU.out x h).resolve_right (by have h1 := HSZ.out; omega))) HWB.out.size HK1.out (Nat.le_trans HWB.out.size HDV.out)
      have HR2 := Lib.hid HR
      clear HR hW3 hp3 hm3 ha3 hb3 hn3 hS3 hT3 hMu co c0
      go_wp2
      refine ⟨by simp, .inl ⟨_, _, rfl, run_takeDeferred (w := U1) HK1.out, ?_⟩⟩
      rw [HTS.out]
      refine ⟨_, results_tmp2 rfl _ _ _, ?_⟩
      exact HR2.out
    · have hl0 : ((ts.length : Int) == 0) = false := beq_f (by omega)
      have H0 := Lib.hid h0
      clear h0
      have HR := act_fin (S := S) (g := g) (p := p) (till := till) HWU.out (by rw [if_neg (by intro h; rw [h] at H0; exact H0.out rfl)]; exact HPU.out) (by have h1 := HQU.out.1; have h2 := HLT.out; have h3 := HMO.out; omega) HQU.out.2.1 HQU.out.2.2.1 HQU.out.2.2.2 HO.out HDU.out (fun x hx => (HSU.out x hx).imp id (fun h => by have h1 := HSZ.out; omega)) (fun x hx => (HTU.out x hx).imp id (fun h => by have h1 := HSZ.out; omega)) HMX.out HWB.out.size HKD.out (Nat.le_trans HWB.out.size HDV.out)
      go_wp2
      refine ⟨by simp, .inl ⟨_, _, rfl, run_takeDeferred (w := U) HKD.out, ?_⟩⟩
      rw [HTS.out]
      refine ⟨_, results_tmp2 rfl _ _ _, ?_⟩
      exact HR
  case stop =>
    rintro D c pre' U hD hS ⟨rfl, ⟨pre, x, rfl, hpl, hAI⟩, hMU⟩ hK
    have hz := HSZ.out
    have NT : ∀ y, w.heap.size ≤ y → y ≠ w2.heap.size → ¬ (p.T b y ∨ y = w2.heap.size) := fun y h1 h2 ht => by rcases ht with ht | ht; have := HPL.out y ht; omega; omega
    have c0 : U.cell? ⟨w.heap.size, 0, none⟩ = some (.pointer (some ⟨b, 0, none⟩)) := cell_of_blk (hMU.blk B0V.out (NT _ (by omega) (by omega))) 0
    have HTS : Hid ((rdy kind g.jobs 0).take most.toNat = pre) := Lib.hid (by
      have h1 := List.prefix_iff_eq_take.1 ((List.prefix_append pre [x]).trans hS)
      have h2 : most.toNat = pre.length := by omega
      rw [h2]; exact h1.symm)
    have HLT : Hid ((pre.length : Int) ≤ most) := Lib.hid (by omega)
    have HPL1 : Hid (1 ≤ pre.length) := Lib.hid (by have h1 := HMO.out; omega)
    clear hpl hS
    generalize pre = ts at *
    have HZ := Lib.hid hz
    obtain ⟨S2, v2, g2, p2, A2, cc2, hW2, hp2, hq2, hbo, ho, hF2, hd2, hS2, hT2⟩ := hAI
    have co : U.cell? ⟨w2.heap.size, 0, none⟩ = some (.slice A2 ts.length cc2) := cell_of_blk hbo 0
    have HWU := Lib.hid hW2
    have HPU := Lib.hid hp2
    have HQU := Lib.hid hq2
    have HO := Lib.hid ho
    have HDU := Lib.hid hd2
    have HSU := Lib.hid hS2
    have HTU := Lib.hid hT2
    have HKD := Lib.hid hK
    have HDV := Lib.hid hD
    have HMX : Hid (Mut (p.T b) w U) := Lib.hid (Mut.trans (Mut.of_below HWB.out (p.T b)) hMU (fun y hy ht => by rcases ht with ht | ht; exact ht; have h1 := HSZ.out; omega))
    clear hW2 hp2 hq2 hbo ho hF2 hd2 hS2 hT2 hz NT hK hD hMU HSEQ HAI
    have hl0 : ((ts.length : Int) == 0) = false := beq_f (by have h1 := HPL1.out; omega)
    have H0 : Hid (¬ ts.length = 0) := Lib.hid (by have h1 := HPL1.out; omega)
    refine (wpIn_wide (n := 0)).2 ?_
    have HR := act_fin (S := S) (g := g) (p := p) (till := till) HWU.out (by rw [if_neg (by intro h; rw [h] at H0; exact H0.out rfl)]; exact HPU.out) (by have h1 := HQU.out.1; have h2 := HLT.out; have h3 := HMO.out; omega) HQU.out.2.1 HQU.out.2.2.1 HQU.out.2.2.2 HO.out HDU.out (fun x hx => (HSU.out x hx).imp id (fun h => by have h1 := HSZ.out; omega)) (fun x hx => (HTU.out x hx).imp id (fun h => by have h1 := HSZ.out; omega)) HMX.out HWB.out.size HKD.out (Nat.le_trans HWB.out.size HDV.out)
    go_wp2
    refine ⟨by simp, .inl ⟨_, _, rfl, run_takeDeferred (w := U) HKD.out, ?_⟩⟩
    rw [HTS.out]
    refine ⟨_, results_tmp2 rfl _ _ _, ?_⟩
    exact HR
end Go.Proofs.YtfjdllpacdobdaaGreat
/-
  States of one token and one job: what the works of chapter 16's examples make of them.
-/
set_option linter.unusedVariables false
set_option linter.unusedSimpArgs false
namespace Go.Proofs.YtfjdllpacdobdaaGreat
open Go Go.RowKit Go.Proofs.Base
def payS : ByteArray := ⟨#[112, 97, 121]⟩
def wS : ByteArray := ⟨#[119]⟩
def nilS : ByteArray := ⟨#[]⟩
def jT (r : Int) (wk : ByteArray) (t : Int) : EJob := ⟨2, 1, payS, r, wk, t⟩
def GT (pos done r : Int) (wk : ByteArray) (t : Int) (st : ByteArray) : GSt := ⟨pos, done, 0, [], [], [⟨1, 0, 0, 0, 0, st⟩], [jT r wk t], [], [], [], [], []⟩
def IsT (r : Int) (wk : ByteArray) (t : Int) (st : ByteArray) (g : GSt) : Prop := ∃ pos done, g = GT pos done r wk t st
theorem IsT.jobs {r : Int} {wk : ByteArray} {t : Int} {st : ByteArray} {g : GSt} (h : IsT r wk t st g.pure) : g.jobs = [jT r wk t] := by
  obtain ⟨p, d, h⟩ := h
  show g.pure.jobs = _
  rw [h]; rfl
theorem IsT.tokens {r : Int} {wk : ByteArray} {t : Int} {st : ByteArray} {g : GSt} (h : IsT r wk t st g.pure) : g.tokens = [⟨1, 0, 0, 0, 0, st⟩] := by
  obtain ⟨p, d, h⟩ := h
  show g.pure.tokens = _
  rw [h]; rfl
theorem IsT.fits {r : Int} {wk : ByteArray} {t : Int} {st : ByteArray} {g : GSt} (h : IsT r wk t st g.pure) : g.fits := by
  obtain ⟨p, d, h⟩ := h
  refine (alike_pure g).symm.fits ?_
  rw [h]
  unfold GSt.fits GT
  simp
theorem IsT.ints {r : Int} {wk : ByteArray} {t : Int} {st : ByteArray} {g : GSt} (h : IsT r wk t st g.pure) : ∀ x ∈ g.msgs, x.insts.length * 8 ≤ 140737488355328 := by
  obtain ⟨p, d, h⟩ := h
  refine (alike_pure g).symm.ints ?_
  rw [h]
  intro x hx
  cases hx
theorem isT_tk (p : WkP) {r : Int} {wk : ByteArray} {t : Int} {st : ByteArray} {g : GSt} (h : IsT r wk t st g) (w2 : ByteArray) (t2 : Int) : IsT r w2 t2 st (stepP p (tkR 2 w2 t2) g) := by
  obtain ⟨a, d, rfl⟩ := h
  exact ⟨_, _, rfl⟩
theorem isT_bk (p : WkP) {r : Int} {wk : ByteArray} {t : Int} {st : ByteArray} {g : GSt} (h : IsT r wk t st g) (n : Int) : IsT n nilS 0 st (stepP p (bkR 2 n) g) := by
  obtain ⟨a, d, rfl⟩ := h
  exact ⟨_, _, rfl⟩
theorem isT_dn (p : WkP) {r : Int} {wk : ByteArray} {t : Int} {st : ByteArray} {g : GSt} (h : IsT r wk t st g) : IsT r wk t st (stepP p dnR g) := by
  obtain ⟨a, d, rfl⟩ := h
  exact ⟨_, _, rfl⟩
theorem ready_jT (r : Int) (t : Int) (h : 0 < r) : readyB payS (jT r nilS t) = true := by
  simp [readyB, jT, nilS, toList_toL, toL, h]
theorem ready_no (r : Int) (t : Int) : readyB payS (jT r wS t) = false := by
  simp [readyB, jT, wS, toList_toL, toL]
theorem rdy_one {r t : Int} (h : 0 < r) {most : Int} (hm : 1 ≤ most) : (rdy payS [jT r nilS t] 0).take most.toNat = [(0, jT r nilS t)] := by
  have e : rdy payS [jT r nilS t] 0 = [(0, jT r nilS t)] := by simp [rdy, ready_jT r t h]
  rw [e, List.take_of_length_le (by simp; omega)]
theorem rdy_no {r t : Int} (n : Nat) : (rdy payS [jT r wS t] 0).take n = [] := by
  simp [rdy, ready_no r t]
theorem taken_w (r t : Int) : takenP 2 [jT r wS t] = (jT r wS t, 0) := by
  have e : findP zeroJob (fun x : EJob => x.key == 2) [jT r wS t] = (jT r wS t, true) := rfl
  rw [takenP_of e]
  simp [jT, wS, toList_toL, toL]
def WkT (F : Nat → Prop) (N0 N b : Nat) (W : World) (r : Int) (wk : ByteArray) (t : Int) (st : ByteArray) (now : Int) (k : Nat) : Prop :=
  ∃ S v g p, WkB S b W v g p ∧ IsT r wk t st g.pure ∧ p.now = now ∧ p.m ≤ k ∧ (∀ x, p.T b x → N ≤ x) ∧ (∀ x, S x → N0 ≤ x) ∧ (∀ x, F x → ¬ S x ∧ ¬ p.T b x ∧ x < W.heap.size) ∧ N0 ≤ N
section
variable {F : Nat → Prop} {N0 N b : Nat} {w : World} {r : Int} {wk : ByteArray} {t : Int} {st : ByteArray} {now : Int} {k : Nat}
theorem WkT.below {w' : World} (h : WkT F N0 N b w r wk t st now k) (hb : Below w.heap.size w w') : WkT F N0 N b w' r wk t st now k := by
  obtain ⟨S, v, g, p, h1, h2, h3, h4, h5, h6, h7, h8⟩ := h
  exact ⟨S, v, g, p, h1.below hb, h2, h3, h4, h5, h6, fun x hx => ⟨(h7 x hx).1, (h7 x hx).2.1, Nat.lt_of_lt_of_le (h7 x hx).2.2 hb.size⟩, h8⟩
theorem WkT.lt (h : WkT F N0 N b w r wk t st now k) : N ≤ b ∧ b < w.heap.size ∧ N0 ≤ w.heap.size := by
  obtain ⟨S, v, g, p, h1, h2, h3, h4, h5, h6, h7, h8⟩ := h
  have := h5 b (.inl rfl)
  have := lt_of_blk h1.box
  omega
theorem WkT.more {F' : Nat → Prop} (h : WkT F N0 N b w r wk t st now k) (hF : ∀ x, F' x → F x) : WkT F' N0 N b w r wk t st now k := by
  obtain ⟨S, v, g, p, h1, h2, h3, h4, h5, h6, h7, h8⟩ := h
  exact ⟨S, v, g, p, h1, h2, h3, h4, h5, h6, fun x hx => h7 x (hF x hx), h8⟩
theorem tt_BeginF {S F : Nat → Prop} {v : StV} {g : GSt} (hs : StR w S v g) (hg : IsT r wk t st g.pure) (hS : ∀ x, S x → N0 ≤ x) (h0 : N0 ≤ w.heap.size) (hF : ∀ x, F x → ¬ S x ∧ x < w.heap.size) (part pos now : Int) :
    Calls Tryz.prog 10 #[.agg v.vals, .int .i64 part, .int .u64 pos, .int .i64 now] w fun e w' => ∃ b, e = .returned (.pointer (some ⟨b, 0, none⟩)) ∧ WkT F N0 w.heap.size b w' r wk t st now 0 ∧ Below w.heap.size w w' := by
  refine (wk_Begin hs hg.fits hg.ints part pos now).mono ?_
  rintro e w' ⟨b, v', g', rfl, hb, hw, hp, hbl⟩
  have hSb : ∀ x, ((S x ∧ x < w.heap.size) ∨ (w.heap.size ≤ x ∧ x < b)) → N0 ≤ x := fun x hx => hx.elim (fun h => hS x h.1) (fun h => by omega)
  have hTb : ∀ x, (⟨part, pos, now, none, 0, 0, 0⟩ : WkP).T b x → w.heap.size ≤ x := fun x hx => by
    rcases hx with rfl | hx
    · exact hb
    · cases hx
  exact ⟨b, rfl, ⟨_, v', g', _, hw, by rw [hp]; exact hg, rfl, Nat.le_refl _, hTb, hSb, fun x hx => ⟨fun h => h.elim (fun h => (hF x hx).1 h.1) (fun h => by have := (hF x hx).2; omega), fun h => by have := hTb x h; have := (hF x hx).2; omega, Nat.lt_of_lt_of_le (hF x hx).2 hbl.size⟩, h0⟩, hbl⟩
theorem tt_Begin {S : Nat → Prop} {v : StV} {g : GSt} (hs : StR w S v g) (hg : IsT r wk t st g.pure) (hS : ∀ x, S x → N0 ≤ x) (h0 : N0 ≤ w.heap.size) (part pos now : Int) :
    Calls Tryz.prog 10 #[.agg v.vals, .int .i64 part, .int .u64 pos, .int .i64 now] w fun e w' => ∃ b, e = .returned (.pointer (some ⟨b, 0, none⟩)) ∧ WkT (fun x => x < N0) N0 w.heap.size b w' r wk t st now 0 ∧ Below w.heap.size w w' :=
  tt_BeginF hs hg hS h0 (fun x hx => ⟨fun h => by have := hS x h; omega, by omega⟩) part pos now
theorem tt_State (h : WkT F N0 N b w r wk t st now k) :
    Calls Tryz.prog 11 #[.pointer (some ⟨b, 0, none⟩)] w fun e w' => ∃ v' g', e = .returned (.agg v'.vals) ∧ StR w' (fun x => N0 ≤ x ∧ x < w'.heap.size ∧ ¬ F x) v' g' ∧ IsT r wk t st g'.pure ∧ Below w.heap.size w w' := by
  have h0 := h.lt
  obtain ⟨S, v, g, p, h1, h2, h3, h4, h5, h6, h7, h8⟩ := h
  refine (wk_State h1 h2.fits h2.ints).mono ?_
  rintro e w' ⟨v', g', rfl, hs, hp, hb⟩
  refine ⟨v', g', rfl, hs.mut (T := fun _ => False) (Mut.refl _ _) (fun _ _ _ h => h) (fun x hx hS => ?_), by rw [hp]; exact h2, hb⟩
  rcases hS with hS | hS
  · exact ⟨h6 x hS, hx, fun hF => (h7 x hF).1 hS⟩
  · exact ⟨Nat.le_trans h0.2.2 hS, hx, fun hF => by have := (h7 x hF).2.2; omega⟩
theorem WkT.next {w' : World} {S : Nat → Prop} {v v' : StV} {g g' : GSt} {p p' : WkP} {S' : Nat → Prop} {r' : Int} {wk' : ByteArray} {t' : Int} {st' : ByteArray} {k' : Nat} (h1 : WkB S b w v g p) (h3 : p.now = now) (h5 : ∀ x, p.T b x → N ≤ x) (h6 : ∀ x, S x → N0 ≤ x) (h7 : ∀ x, F x → ¬ S x ∧ ¬ p.T b x ∧ x < w.heap.size) (h8 : N0 ≤ N)
    (k1 : WkB S' b w' v' g' p') (k2 : IsT r' wk' t' st' g'.pure) (k3 : p'.now = p.now) (k4 : p'.m ≤ k') (k5 : ∀ x, S' x → S x ∨ w.heap.size ≤ x) (k6 : ∀ x, p'.T b x → p.T b x ∨ w.heap.size ≤ x) (hM : Mut (p.T b) w w') :
    WkT F N0 N b w' r' wk' t' st' now k' ∧ Mut (fun x => N ≤ x ∧ ¬ F x) w w' := by
  have hb := lt_of_blk h1.box
  have hN := h5 b (.inl rfl)
  exact ⟨⟨S', v', g', p', k1, k2, k3.trans h3, k4, fun x hx => (k6 x hx).elim (h5 x) (fun h => by omega), fun x hx => (k5 x hx).elim (h6 x) (fun h => by omega), fun x hx => ⟨fun h => (k5 x h).elim (h7 x hx).1 (fun h => by have := (h7 x hx).2.2; omega), fun h => (k6 x h).elim (h7 x hx).2.1 (fun h => by have := (h7 x hx).2.2; omega), Nat.lt_of_lt_of_le (h7 x hx).2.2 hM.size⟩, h8⟩, hM.mono (fun x _ hx => ⟨h5 x hx, fun hF => (h7 x hF).2.1 hx⟩)⟩
theorem tt_Act1 (h : WkT F N0 N b w r nilS t st now k) (hr : 0 < r) (hk : k ≤ 900) (most wait : Int) (hm : 1 ≤ most ∧ most ≤ 32) (hwt : 1 ≤ wait ∧ wait ≤ 1048576) (till : Int) (ht : wrap64 (now + wait) = till) :
    Calls Tryz.prog 12 #[.pointer (some ⟨b, 0, none⟩), .string payS, .string wS, .int .i64 most, .int .i64 wait] w fun e w' => ∃ A c, e = .returned (.tuple #[.slice A 1 c, .int .i64 0]) ∧ w'.ownsRow w.heap.size 45 6 (.slice A 1 c) 1 (encJob (jT r wS till)) ∧
      WkT (fun x => F x ∨ (Value.slice A 1 c).ownBlock = some x) N0 N b w' r wS till st now (k + 32) ∧ Mut (fun x => N ≤ x ∧ ¬ F x) w w' := by
  obtain ⟨S, v, g, p, h1, h2, h3, h4, h5, h6, h7, h8⟩ := h
  have hok : actOk payS wS most wait = true := by
    have n1 : named payS = true := by decide
    have n2 : named wS = true := by decide
    simp [actOk, n1, n2, hm.1, hm.2, hwt.1, hwt.2]
  refine (act_ok h1 h2.fits h2.ints (by omega) payS wS most wait hok (by decide) (by decide) till (by rw [h3]; exact ht)).mono ?_
  rintro e w' ⟨A, c, rfl, ho, S', v', g', p', k1, k2, k3, k4, k5, k6, k7, k8, k9, hM⟩
  rw [h2.jobs, rdy_one hr hm.1] at ho k2 k9
  have kk : IsT r wS till st g'.pure := by
    rw [k2, if_neg (by simp)]
    exact isT_tk p h2 wS till
  have hnx := WkT.next (F := F) (N0 := N0) (N := N) h1 h3 h5 h6 h7 h8 k1 kk k6 (Nat.le_trans k3 (Nat.add_le_add_right h4 32)) k7 k8 hM
  have e1 : ((rdy payS g.jobs 0).take most.toNat).length = 1 := by rw [h2.jobs, rdy_one hr hm.1]; rfl
  rw [h2.jobs, rdy_one hr hm.1]
  refine ⟨A, c, rfl, ?_, ?_, hnx.2⟩
  · simpa [outJ, jT] using ho
  · obtain ⟨S2, v2, g2, p2, q1, q2, q3, q4, q5, q6, q7, q8⟩ := hnx.1
    exact ⟨S', v', g', p', k1, kk, k6.trans h3, Nat.le_trans k3 (Nat.add_le_add_right h4 32), fun x hx => (k8 x hx).elim (h5 x) (fun h => by have := lt_of_blk h1.box; have := h5 b (.inl rfl); omega), fun x hx => (k7 x hx).elim (h6 x) (fun h => by have := lt_of_blk h1.box; have := h5 b (.inl rfl); omega), fun x hx => by
      rcases hx with hx | hx
      · exact ⟨fun h => (k7 x h).elim (h7 x hx).1 (fun h => by have := (h7 x hx).2.2; omega), fun h => (k8 x h).elim (h7 x hx).2.1 (fun h => by have := (h7 x hx).2.2; omega), Nat.lt_of_lt_of_le (h7 x hx).2.2 hM.size⟩
      · exact ⟨(k9 x hx).1, (k9 x hx).2, (ho.lt x hx).2⟩, h8⟩
theorem tt_Act0 (h : WkT F N0 N b w r wk t st now k) (hr : ∀ n, (rdy payS [jT r wk t] 0).take n = []) (hk : k ≤ 900) (most wait : Int) (hm : 1 ≤ most ∧ most ≤ 32) (hwt : 1 ≤ wait ∧ wait ≤ 1048576) (till : Int) (ht : wrap64 (now + wait) = till) :
    Calls Tryz.prog 12 #[.pointer (some ⟨b, 0, none⟩), .string payS, .string wS, .int .i64 most, .int .i64 wait] w fun e w' => ∃ A c, e = .returned (.tuple #[.slice A 0 c, .int .i64 0]) ∧ WkT F N0 N b w' r wk t st now (k + 32) ∧ Mut (fun x => N ≤ x ∧ ¬ F x) w w' := by
  obtain ⟨S, v, g, p, h1, h2, h3, h4, h5, h6, h7, h8⟩ := h
  have hok : actOk payS wS most wait = true := by
    have n1 : named payS = true := by decide
    have n2 : named wS = true := by decide
    simp [actOk, n1, n2, hm.1, hm.2, hwt.1, hwt.2]
  refine (act_ok h1 h2.fits h2.ints (by omega) payS wS most wait hok (by decide) (by decide) till (by rw [h3]; exact ht)).mono ?_
  rintro e w' ⟨A, c, rfl, ho, S', v', g', p', k1, k2, k3, k4, k5, k6, k7, k8, k9, hM⟩
  rw [h2.jobs, hr] at k2
  have kk : IsT r wk t st g'.pure := by
    rw [k2, if_pos rfl]
    exact isT_dn p h2
  have hnx := WkT.next (F := F) (N0 := N0) (N := N) h1 h3 h5 h6 h7 h8 k1 kk k6 (Nat.le_trans k3 (Nat.add_le_add_right h4 32)) k7 k8 hM
  rw [h2.jobs, hr]
  exact ⟨A, c, rfl, hnx.1, hnx.2⟩
theorem tt_W {e : Ending} {w' : World} {S : Nat → Prop} {v : StV} {g : GSt} {p : WkP} {q : GSt × Int} {kk : Nat} {r' : Int} {wk' : ByteArray} {t' : Int} {st' : ByteArray} (h1 : WkB S b w v g p) (h3 : p.now = now) (h4 : p.m ≤ k) (h5 : ∀ x, p.T b x → N ≤ x) (h6 : ∀ x, S x → N0 ≤ x) (h7 : ∀ x, F x → ¬ S x ∧ ¬ p.T b x ∧ x < w.heap.size) (h8 : N0 ≤ N) (h : WTo S b w p q kk e w') (hq : IsT r' wk' t' st' q.1) :
    e = .returned (.int .i64 q.2) ∧ WkT F N0 N b w' r' wk' t' st' now (k + kk) ∧ Mut (fun x => N ≤ x ∧ ¬ F x) w w' := by
  obtain ⟨S', v', g', p', rfl, k1, k2, k3, k4, k5, k6, k7, k8, hM⟩ := h
  exact ⟨rfl, WkT.next (F := F) (N0 := N0) (N := N) h1 h3 h5 h6 h7 h8 k1 (by rw [k2]; exact hq) k6 (Nat.le_trans k3 (Nat.add_le_add_right h4 kk)) k7 k8 hM⟩
theorem tt_Late0 (h : WkT F N0 N b w r wS t st now k) (hk : k ≤ 900) (ht : now < t) :
    Calls Tryz.prog 17 #[.pointer (some ⟨b, 0, none⟩), .int .u64 2] w fun e w' => e = .returned (.int .i64 12) ∧ WkT F N0 N b w' r wS t st now (k + 1) ∧ Mut (fun x => N ≤ x ∧ ¬ F x) w w' := by
  obtain ⟨S, v, g, p, h1, h2, h3, h4, h5, h6, h7, h8⟩ := h
  have hq : lateP p 2 g.pure = (g.pure, 12) := by
    unfold lateP
    rw [show g.pure.jobs = [jT r wS t] from h2.jobs, taken_w, if_neg (by simp), if_pos (by rw [h3]; exact ht)]
  refine (bk_Late h1 h2.fits h2.ints (by omega) 2).mono ?_
  rintro e w' hw
  have := tt_W (F := F) (N0 := N0) (N := N) (k := k) h1 h3 h4 h5 h6 h7 h8 hw (r' := r) (wk' := wS) (t' := t) (st' := st) (by rw [hq]; exact h2)
  rw [hq] at this
  exact this
theorem tt_Late1 (h : WkT F N0 N b w r wS t st now k) (hk : k ≤ 900) (ht : ¬ now < t) :
    Calls Tryz.prog 17 #[.pointer (some ⟨b, 0, none⟩), .int .u64 2] w fun e w' => e = .returned (.int .i64 0) ∧ WkT F N0 N b w' r nilS 0 st now (k + 1) ∧ Mut (fun x => N ≤ x ∧ ¬ F x) w w' := by
  obtain ⟨S, v, g, p, h1, h2, h3, h4, h5, h6, h7, h8⟩ := h
  have hq : lateP p 2 g.pure = (stepP p (bkR 2 r) g.pure, 0) := by
    unfold lateP
    rw [show g.pure.jobs = [jT r wS t] from h2.jobs, taken_w, if_neg (by simp), if_neg (by rw [h3]; exact ht)]
    rfl
  refine (bk_Late h1 h2.fits h2.ints (by omega) 2).mono ?_
  rintro e w' hw
  have := tt_W (F := F) (N0 := N0) (N := N) (k := k) h1 h3 h4 h5 h6 h7 h8 hw (r' := r) (wk' := nilS) (t' := 0) (st' := st) (by rw [hq]; exact isT_bk p h2 r)
  rw [hq] at this
  exact this
end
end Go.Proofs.YtfjdllpacdobdaaGreat
/-
  The document's example of chapter 16: shown returns true.
-/
set_option linter.unusedVariables false
set_option linter.unusedSimpArgs false
namespace Go.Proofs.YtfjdllpacdobdaaGreat
open Go Go.RowKit Go.Proofs.Base
theorem row_of_blk {W : World} {S : Nat → Prop} {b n sz : Nat} {cs : Array Value} {t : TypeId} {f : Nat × Nat} (hb : W.heap[b]? = some (.cells cs t f)) (hn : n ≤ maxLen) (hl : cs.size = n * sz) (hS : S b) : Row W S sz n (.slice (some ⟨b, 0, none⟩) n n) cs.toList :=
  ⟨_, _, rfl, Nat.le_refl _, hn, by simpa using hl, (fun h => by cases h), fun _ => ⟨b, 0, rfl, hS, lt_of_blk hb, fun j u hu => by rw [Nat.zero_add, cell_of_blk hb]; simpa using hu⟩⟩
def vT (b : Nat) : StV := ⟨0, 0, 0, none, 0, 0, none, 0, 0, some ⟨b, 0, none⟩, 1, 1, some ⟨b + 1, 0, none⟩, 1, 1, none, 0, 0, none, 0, 0, none, 0, 0, none, 0, 0, none, 0, 0⟩
def tokO : Obj := .cells #[.int .u64 1, .int .u64 0, .int .u64 0, .int .i64 0, .int .i64 0, .string ⟨#[]⟩] 58 (0, 0)
def jobR (r : Int) : Obj := .cells #[.int .u64 2, .int .u64 1, .string ⟨#[112, 97, 121]⟩, .int .i64 r, .string ⟨#[]⟩, .int .i64 0] 45 (0, 0)
theorem st_lit {W : World} {b : Nat} {r : Int} {S : Nat → Prop} (h1 : W.heap[b]? = some tokO) (h2 : W.heap[b + 1]? = some (jobR r)) (hS : S b ∧ S (b + 1)) : StR W S (vT b) (GT 0 0 r nilS 0 nilS) :=
  ⟨rfl, rfl, rfl, ⟨rfl, Row.nil _ _ _⟩, ⟨rfl, Row.nil _ _ _⟩, ⟨rfl, row_of_blk h1 (show 1 ≤ maxLen by decide) rfl hS.1⟩, ⟨rfl, row_of_blk h2 (show 1 ≤ maxLen by decide) rfl hS.2⟩, ⟨rfl, Row.nil _ _ _⟩, ⟨rfl, Row.nil _ _ _⟩, ⟨rfl, Row.nil _ _ _⟩, ⟨rfl, Row.nil _ _ _⟩, ⟨rfl, Row.nil _ _ _⟩, fun x h => absurd h List.not_mem_nil, fun x h => absurd h List.not_mem_nil, fun x h => absurd h List.not_mem_nil, fun x h => absurd h List.not_mem_nil⟩
theorem isT_lit (r : Int) : IsT r nilS 0 nilS (GT 0 0 r nilS 0 nilS).pure := ⟨0, 0, rfl⟩
theorem own_at {W : World} {base e K L n c : Nat} {xs : List Value} (h : W.ownsRow base e K (.slice (some ⟨L, 0, none⟩) n c) n xs) {j : Nat} {u : Value} (hu : xs[j]? = some u) : W.cell? ⟨L, j, none⟩ = some u := by
  have := h.cells (g := L) rfl j u hu
  rwa [add_plain, Nat.zero_add] at this
set_option maxRecDepth 100000 in
set_option maxHeartbeats 8000000 in
theorem sh16 (w : World) : Calls Tryz.prog 9 #[] w fun e w' => e = .returned (.bool true) ∧ Below w.heap.size w w' := by
  have HB0 : Hid (Below w.heap.size w (((w.alloc tokO).alloc (jobR 3)).alloc (.cells (vT w.heap.size).vals 33 (0, 0)))) := Lib.hid (below_alloc (below_alloc (below_alloc (Below.refl _ _) _) _) _)
  have HS0 : Hid (StR (((w.alloc tokO).alloc (jobR 3)).alloc (.cells (vT w.heap.size).vals 33 (0, 0))) (fun x => w.heap.size ≤ x) (vT w.heap.size) (GT 0 0 3 nilS 0 nilS)) := Lib.hid (st_lit (blk_alloc (blk_alloc (blk_new _) _) _) (blk_alloc (blk_new_of _ (by simp)) _) ⟨Nat.le_refl _, Nat.le_succ _⟩)
  go_enter Tryz.func9, Tryz.ntmps9
  go_wp2_with fail
  refine (tt_Begin HS0.out (isT_lit 3) (fun _ h => h) HB0.out.size 0 1 100).mono ?_
  rintro e w1 ⟨b1, rfl, hw, hb⟩
  have HW := Lib.hid hw
  have HB1 := Lib.hid (below2 HB0.out hb)
  have HLO : Hid (w.heap.size ≤ (((w.alloc tokO).alloc (jobR 3)).alloc (.cells (vT w.heap.size).vals 33 (0, 0))).heap.size) := Lib.hid HB0.out.size
  clear hw hb
  generalize hNb : (((w.alloc tokO).alloc (jobR 3)).alloc (.cells (vT w.heap.size).vals 33 (0, 0))).heap.size = nb at *
  clear hNb
  go_wp2_with fail
  refine (tt_Act1 HW.out (by decide) (by decide) 5 10 (by decide) (by decide) 110 (by decide +kernel)).mono ?_
  rintro e w2 ⟨A, c, rfl, ho, hw, hM⟩
  obtain ⟨L, cap, cur, hv, hLb, -⟩ := own_some ho (by decide)
  injection hv with hv1 _ hv3
  subst hv1 hv3
  have HO := Lib.hid ho
  have HW2 : Hid (WkT (fun x => x = L) w.heap.size nb b1 w2 3 wS 110 nilS 100 32) := Lib.hid (WkT.more hw (fun x hx => .inr (by rw [hx]; rfl)))
  have HB2 := Lib.hid (below_of_mut HB1.out HB1.out.size hM (fun x hx => Nat.le_trans HLO.out hx.1))
  have HLL : Hid (L < w2.heap.size) := Lib.hid (ho.lt L rfl).2
  clear ho hw hM HW HB1
  go_wp2_with fail
  refine (tt_Act0 HW2.out (fun n => rdy_no n) (by decide) 5 10 (by decide) (by decide) 110 (by decide +kernel)).mono ?_
  rintro e w3 ⟨A3, c3, rfl, hw, hM⟩
  have HW3 := Lib.hid hw
  have HO3 := Lib.hid (own_mut HO.out hM (fun x hx h => h.2 (by injection hx with hx; exact hx.symm)))
  have HB3 := Lib.hid (below_of_mut HB2.out HB2.out.size hM (fun x hx => Nat.le_trans HLO.out hx.1))
  have HL3 : Hid (L < w3.heap.size) := Lib.hid (Nat.lt_of_lt_of_le HLL.out hM.size)
  clear hw hM HW2 HB2 HO HLL
  go_wp2_with fail
  refine (tt_State HW3.out).mono ?_
  rintro e w4 ⟨v4, g4, rfl, hs, hg, hb⟩
  have HW4 := Lib.hid (HW3.out.below hb)
  have HO4 := Lib.hid (own_carry HO3.out hb)
  have HB4 := Lib.hid (below2 HB3.out hb)
  have HL4 : Hid (L < w4.heap.size) := Lib.hid (Nat.lt_of_lt_of_le HL3.out hb.size)
  have HS4 := Lib.hid hs
  have HG4 := Lib.hid hg
  clear hs hg hb HW3 HO3 HB3 HL3
  go_wp2_with fail
  refine (tt_Begin HS4.out HG4.out (fun x hx => hx.1) HB4.out.size 0 2 109).mono ?_
  rintro e w5 ⟨b5, rfl, hw, hb⟩
  have HV5 := Lib.hid hw
  have HW5 := Lib.hid (HW4.out.below hb)
  have HO5 := Lib.hid (own_carry HO4.out hb)
  have HB5 := Lib.hid (below2 HB4.out hb)
  have HBB5 := Lib.hid hb
  clear hw hb HS4 HG4
  go_wp2_with fail
  refine (tt_Late0 HV5.out (by decide) (by decide)).mono ?_
  rintro e w6 ⟨rfl, -, hM⟩
  have HBB6 : Hid (Below w4.heap.size w4 w6) := Lib.hid (below_of_mut HBB5.out HBB5.out.size hM (fun x hx => hx.1))
  have HW6 := Lib.hid (HW4.out.below HBB6.out)
  have HO6 := Lib.hid (own_carry HO4.out HBB6.out)
  have HB6 := Lib.hid (below2 HB4.out HBB6.out)
  clear hM HW5 HO5 HB5 HBB5 HV5 HW4 HO4 HB4 HBB6 HL4
  go_wp2_with fail
  refine (tt_State HW6.out).mono ?_
  rintro e w7 ⟨v7, g7, rfl, hs, hg, hb⟩
  have HO7 := Lib.hid (own_carry HO6.out hb)
  have HB7 := Lib.hid (below2 HB6.out hb)
  have HS7 := Lib.hid hs
  have HG7 := Lib.hid hg
  clear hs hg hb HW6 HO6 HB6
  go_wp2_with fail
  refine (tt_Begin HS7.out HG7.out (fun x hx => hx.1) HB7.out.size 0 2 110).mono ?_
  rintro e w8 ⟨b8, rfl, hw, hb⟩
  have HV8 := Lib.hid hw
  have HBB8 := Lib.hid hb
  clear hw hb HS7 HG7
  go_wp2_with fail
  refine (tt_Late1 HV8.out (by decide) (by decide)).mono ?_
  rintro e w9 ⟨rfl, -, hM⟩
  have HBB9 : Hid (Below w7.heap.size w7 w9) := Lib.hid (below_of_mut HBB8.out HBB8.out.size hM (fun x hx => hx.1))
  have HO9 := Lib.hid (own_carry HO7.out HBB9.out)
  have HB9 := Lib.hid (below2 HB7.out HBB9.out)
  have l4 : w9.cell? ⟨L, 4, none⟩ = some (.string wS) := own_at HO9.out rfl
  have l5 : w9.cell? ⟨L, 5, none⟩ = some (.int .i64 110) := own_at HO9.out rfl
  have hws : wS.toList = [119] := by simp [wS, toList_toL, toL]
  clear hM HV8 HBB8 HBB9 HO7 HB7
  go_wp2
  go_ret
  exact ⟨rfl, HB9.out⟩
end Go.Proofs.YtfjdllpacdobdaaGreat
/-
  BookMost: plain laws; the law's walk.
-/
set_option linter.unusedVariables false
set_option linter.unusedSimpArgs false
namespace Go.Proofs.Base
open Go Go.RowKit
section
variable {α : Type}
end
end Go.Proofs.Base
namespace Go.Proofs.YtfjdllpacdobdaaGreat
open Go Go.RowKit Go.Proofs.Base
end Go.Proofs.YtfjdllpacdobdaaGreat
/-
  BookDone: what is due stays due, in the same order. Printed by gendone.py.
-/
set_option linter.unusedVariables false
set_option linter.unusedSimpArgs false
namespace Go.Proofs.YtfjdllpacdobdaaGreat
open Go Go.RowKit Go.Proofs.Base
def tri (r : GRec) : Int × Int × Int := (r.kind, r.key, r.n)
theorem filter_sub {α β : Type} (p q : α → Bool) (f : α → β) (h : ∀ x, p x = true → q x = true) : ∀ l : List α, ((l.filter p).map f).Sublist ((l.filter q).map f)
  | [] => List.Sublist.refl _
  | x :: l => by
    by_cases hp : p x = true
    · rw [List.filter_cons_of_pos hp, List.filter_cons_of_pos (h x hp)]
      exact (filter_sub p q f h l).cons_cons _
    · rw [List.filter_cons_of_neg hp]
      by_cases hq : q x = true
      · rw [List.filter_cons_of_pos hq]
        exact (filter_sub p q f h l).cons _
      · rw [List.filter_cons_of_neg hq]
        exact filter_sub p q f h l
theorem due_sub {a b : Int} (h : a ≤ b) (g : GSt) : ((dueP a g).map tri).Sublist ((dueP b g).map tri) := by
  unfold dueP dueT dueJ dueM
  simp only [List.map_append, List.map_map]
  refine List.Sublist.append (List.Sublist.append ?_ ?_) ?_
  · exact filter_sub _ _ _ (fun x hx => by simp only [timB, decide_eq_true_eq] at hx ⊢; omega) g.timers
  · exact filter_sub _ _ _ (fun x hx => by simp only [jobB, Bool.and_eq_true, decide_eq_true_eq] at hx ⊢; exact ⟨hx.1, by omega⟩) g.jobs
  · exact filter_sub _ _ _ (fun x hx => by simp only [msgB, decide_eq_true_eq] at hx ⊢; omega) g.msgs
theorem due_len (a : Int) (g : GSt) : (dueP a g).length ≤ g.timers.length + g.jobs.length + g.msgs.length := by
  unfold dueP dueT dueJ dueM
  simp only [List.length_append, List.length_map]
  have h1 := List.length_filter_le (timB a) g.timers
  have h2 := List.length_filter_le (jobB a) g.jobs
  have h3 := List.length_filter_le (msgB a) g.msgs
  omega
section
variable {α : Type} {A B : List α}
theorem sub_hit {k i : Nat} (hk : k < A.length) (hi : i < B.length) (e : B[i] = A[k]) (h : (A.drop k).Sublist (B.drop i)) : (A.drop (k + 1)).Sublist (B.drop (i + 1)) := by
  rw [List.drop_eq_getElem_cons hk, List.drop_eq_getElem_cons hi, e] at h
  exact List.cons_sublist_cons.1 h
theorem sub_miss {k i : Nat} (hk : k < A.length) (hi : i < B.length) (e : B[i] ≠ A[k]) (h : (A.drop k).Sublist (B.drop i)) : (A.drop k).Sublist (B.drop (i + 1)) := by
  rw [List.drop_eq_getElem_cons hk, List.drop_eq_getElem_cons hi] at h
  rw [List.drop_eq_getElem_cons hk]
  generalize A[k] = a at *
  generalize B[i] = b at *
  cases h with
  | cons _ h => exact h
  | cons_cons _ _ => exact absurd rfl e
theorem sub_end {k i : Nat} (hi : B.length ≤ i) (h : (A.drop k).Sublist (B.drop i)) : A.length ≤ k := by
  rw [List.drop_eq_nil_of_le hi] at h
  have := List.sublist_nil.1 h
  exact List.drop_eq_nil_iff.1 this
end
set_option maxRecDepth 100000 in
set_option maxHeartbeats 8000000 in
theorem law_Done {S : Nat → Prop} (v : StV) (g : GSt) (now more : Int) (w : World) (hst : StR w S v g) (hsm : g.timers.length + g.jobs.length + g.msgs.length ≤ 1048576) :
    Calls Tryz.prog 8 #[.agg v.vals, .int .i64 now, .int .i64 more] w fun e w' => e = .returned (.bool true) ∧ Below w.heap.size w w' := by
  have HX0 : Hid ((w.alloc (.cells v.vals 33)).heap[w.heap.size]? = some (.cells v.vals 33 (0, 0))) := Lib.hid (blk_new _)
  by_cases g0 : more < 0
  · go_enter Tryz.func8, Tryz.ntmps8
    go_wp2_with fail
    refine (sh16 _).mono ?_
    rintro e w1 ⟨rfl, hb1⟩
    have HB1 := Lib.hid (below2 (below_alloc (Below.refl _ _) _) hb1)
    clear hb1
    go_wp2
    go_ret
    exact ⟨rfl, HB1.out⟩
  have k0 : decide (more < 0) = false := by simp; omega
  by_cases g1 : 1000000 < more
  · go_enter Tryz.func8, Tryz.ntmps8
    go_wp2_with fail
    refine (sh16 _).mono ?_
    rintro e w1 ⟨rfl, hb1⟩
    have HB1 := Lib.hid (below2 (below_alloc (Below.refl _ _) _) hb1)
    clear hb1
    go_wp2
    go_ret
    exact ⟨rfl, HB1.out⟩
  have k1 : decide (1000000 < more) = false := by simp; omega
  by_cases g2 : now < -1000000
  · go_enter Tryz.func8, Tryz.ntmps8
    go_wp2_with fail
    refine (sh16 _).mono ?_
    rintro e w1 ⟨rfl, hb1⟩
    have HB1 := Lib.hid (below2 (below_alloc (Below.refl _ _) _) hb1)
    clear hb1
    go_wp2
    go_ret
    exact ⟨rfl, HB1.out⟩
  have k2 : decide (now < -1000000) = false := by simp; omega
  by_cases g3 : 1125899906842624 < now
  · go_enter Tryz.func8, Tryz.ntmps8
    go_wp2_with fail
    refine (sh16 _).mono ?_
    rintro e w1 ⟨rfl, hb1⟩
    have HB1 := Lib.hid (below2 (below_alloc (Below.refl _ _) _) hb1)
    clear hb1
    go_wp2
    go_ret
    exact ⟨rfl, HB1.out⟩
  have k3 : decide (1125899906842624 < now) = false := by simp; omega
  have HS0 := Lib.hid hst
  have HSUM : Hid ((g.timers.length + g.jobs.length + g.msgs.length + 1) * 144 ≤ 140737488355328) := Lib.hid (Nat.le_trans (Nat.mul_le_mul_right 144 (Nat.succ_le_succ hsm)) (by decide))
  have hwr : wrap64 (now + more) = now + more := by unfold wrap64; omega
  have HLNA := Lib.hid (due_len now g)
  have HLNB := Lib.hid (due_len (now + more) g)
  have HSL := Lib.hid (due_sub (a := now) (b := now + more) (by omega) g)
  have HSM := Lib.hid hsm
  have HN7 := Lib.hid hst.timers.1
  have HN6 := Lib.hid hst.jobs.1
  have HN11 := Lib.hid hst.msgs.1
  clear hst hsm g0 g1 g2 g3
  go_enter Tryz.func8, Tryz.ntmps8
  go_wp2_with fail
  refine (sh16 _).mono ?_
  rintro e w1 ⟨rfl, hb1⟩
  have HB1 := Lib.hid (below2 (below_alloc (Below.refl _ _) _) hb1)
  have HX1 := Lib.hid (block_below hb1 HX0.out)
  clear hb1 HX0
  go_wp2_with (refine wpList_load_box _ _ rfl rfl rfl bSt HX1.out rfl ?_)
  refine (bk_Due (HS0.out.below HB1.out (fun _ _ h => h)) now HSUM.out).mono ?_
  rintro e w2 ⟨Aa, ca, rfl, hoa, hb2⟩
  have HOA := Lib.hid hoa
  have HB2 := Lib.hid (below2 HB1.out hb2)
  have HX2 := Lib.hid (block_below hb2 HX1.out)
  clear hoa hb2 HX1 k0 k1 k2 k3
  go_wp2_with (refine wpList_load_box _ _ rfl rfl rfl bSt HX2.out rfl ?_)
  refine (bk_Due (HS0.out.below HB2.out (fun _ _ h => h)) (now + more) HSUM.out).mono ?_
  rintro e w3 ⟨Ab, cb, rfl, hob, hb3⟩
  have HOB := Lib.hid hob
  have HOV := Lib.hid (own_carry HOA.out hb3)
  have HB3 := Lib.hid (below2 HB2.out hb3)
  have HX3 := Lib.hid (block_below hb3 HX2.out)
  clear hob hb3 HX2 HOA HS0 HSUM hwr
  generalize dueP now g = la at *
  generalize dueP (now + more) g = lb at *
  obtain ⟨nA, hnA⟩ : ∃ n, la.length = n := ⟨_, rfl⟩
  obtain ⟨nB, hnB⟩ : ∃ n, lb.length = n := ⟨_, rfl⟩
  rw [hnA] at HOV HLNA
  rw [hnB] at HOB HLNB
  rw [hnA, hnB]
  have HNA := Lib.hid hnA
  have HNB := Lib.hid hnB
  have hnA63 : nA ≤ 1048576 := by have h1 := HLNA.out; have h2 := HSM.out; omega
  have hnB63 : nB ≤ 1048576 := by have h1 := HLNB.out; have h2 := HSM.out; omega
  clear hnA hnB
  go_wp2_with fail
  go_loopw [10, 11] (fun kk ii wr => ∃ k i : Nat, k ≤ nA ∧ i ≤ nB ∧ kk = .int .i64 k ∧ ii = .int .i64 i ∧ Hid (Below w3.heap.size w3 wr) ∧ Hid (((la.map tri).drop k).Sublist ((lb.map tri).drop i))) (fun _ ii _ => nB - (intOf ii).toNat)
  case atStart => exact ⟨0, 0, Nat.zero_le _, Nat.zero_le _, rfl, rfl, Lib.hid (Below.refl _ _), Lib.hid HSL.out⟩
  case round =>
    obtain ⟨k, i, hk, hi, rfl, rfl, HBR, HSB⟩ := hrel
    by_cases hin : i < nB
    · by_cases hkn : k < nA
      · as_aux_lemma =>
          have hka : k < la.length := by rw [HNA.out]; exact hkn
          have hib : i < lb.length := by rw [HNB.out]; exact hin
          obtain ⟨L, OL, hA, _, hac⟩ := ListR.elem (K := 13) (enc := encD) ⟨HNA.out, Row.of_own HOV.out⟩ lenD (by omega)
          obtain ⟨B, OB, hB, _, hbc⟩ := ListR.elem (K := 13) (enc := encD) ⟨HNB.out, Row.of_own HOB.out⟩ lenD (by omega)
          have a1 := cell_below HBR.out (hac k hka 1 _ rfl)
          have a4 := cell_below HBR.out (hac k hka 4 _ rfl)
          have a7 := cell_below HBR.out (hac k hka 7 _ rfl)
          have b1 := cell_below HBR.out (hbc i hib 1 _ rfl)
          have b4 := cell_below HBR.out (hbc i hib 4 _ rfl)
          have b7 := cell_below HBR.out (hbc i hib 7 _ rfl)
          have HHIT : Hid ((lb[i].kind = la[k].kind ∧ lb[i].key = la[k].key ∧ lb[i].n = la[k].n) → ((la.map tri).drop (k + 1)).Sublist ((lb.map tri).drop (i + 1))) := Lib.hid fun e => sub_hit (by rw [List.length_map]; exact hka) (by rw [List.length_map]; exact hib) (by simp only [List.getElem_map, tri, e.1, e.2.1, e.2.2]) HSB.out
          have HMISS : Hid (¬ (lb[i].kind = la[k].kind ∧ lb[i].key = la[k].key ∧ lb[i].n = la[k].n) → ((la.map tri).drop k).Sublist ((lb.map tri).drop (i + 1))) := Lib.hid fun e => sub_miss (by rw [List.length_map]; exact hka) (by rw [List.length_map]; exact hib) (fun h => e (by simp only [List.getElem_map, tri] at h; injection h with h1 h; injection h with h2 h3; exact ⟨h1, h2, h3⟩)) HSB.out
          subst hA hB
          clear hac hbc HSB
          generalize la[k] = x at *
          generalize lb[i] = y at *
          clear hka hib
          by_cases h1 : y.kind = x.kind
          · by_cases h2 : y.key = x.key
            · by_cases h3 : y.n = x.n
              · have HN := Lib.hid (HHIT.out ⟨h1, h2, h3⟩)
                clear HHIT HMISS
                go_wp2_with fail
                go_quiet (fail)
                have HBR2 := Lib.hid (below_drewN HBR.out nq)
                clear a1 a4 a7 b1 b4 b7
                go_wp2
                go_roundw
                case rel => exact ⟨k + 1, i + 1, by omega, by omega, by go_num, by go_num, HBR2, HN⟩
                case measure => simp [intOf]; omega
              · have HN := Lib.hid (HMISS.out (fun h => h3 h.2.2))
                clear HHIT HMISS
                have hd : (y.n == x.n) = false := by simpa using h3
                go_wp2_with fail
                go_quiet (fail)
                have HBR2 := Lib.hid (below_drewN HBR.out nq)
                clear a1 a4 a7 b1 b4 b7
                go_wp2
                go_roundw
                case rel => exact ⟨k, i + 1, by omega, by omega, by go_num, by go_num, HBR2, HN⟩
                case measure => simp [intOf]; omega
            · have HN := Lib.hid (HMISS.out (fun h => h2 h.2.1))
              clear HHIT HMISS
              have hd : (y.key == x.key) = false := by simpa using h2
              go_wp2_with fail
              go_quiet (fail)
              have HBR2 := Lib.hid (below_drewN HBR.out nq)
              clear a1 a4 a7 b1 b4 b7
              go_wp2
              go_roundw
              case rel => exact ⟨k, i + 1, by omega, by omega, by go_num, by go_num, HBR2, HN⟩
              case measure => simp [intOf]; omega
          · have HN := Lib.hid (HMISS.out (fun h => h1 h.1))
            clear HHIT HMISS
            have hd : (y.kind == x.kind) = false := by simpa using h1
            go_wp2_with fail
            go_quiet (fail)
            have HBR2 := Lib.hid (below_drewN HBR.out nq)
            clear a1 a4 a7 b1 b4 b7
            go_wp2
            go_roundw
            case rel => exact ⟨k, i + 1, by omega, by omega, by go_num, by go_num, HBR2, HN⟩
            case measure => simp [intOf]; omega
      · obtain rfl : k = nA := by omega
        have s7 : wr.cell? ⟨w.heap.size, 7, none⟩ = some (.slice v.A7 v.n7 v.c7) := cell_of_blk (block_below HBR.out HX3.out) 7
        have s6 : wr.cell? ⟨w.heap.size, 6, none⟩ = some (.slice v.A6 v.n6 v.c6) := cell_of_blk (block_below HBR.out HX3.out) 6
        have s11 : wr.cell? ⟨w.heap.size, 11, none⟩ = some (.slice v.A11 v.n11 v.c11) := cell_of_blk (block_below HBR.out HX3.out) 11
        have hq : nB ≤ v.n7 + v.n6 + v.n11 ∧ v.n7 + v.n6 + v.n11 ≤ 1048576 := by have h1 := HLNB.out; have h2 := HSM.out; rw [HN7.out, HN6.out, HN11.out] at h1 h2; exact ⟨h1, h2⟩
        have hq1 : wrap64 ((v.n7 : Int) + v.n6) = ((v.n7 + v.n6 : Nat) : Int) := by unfold wrap64; omega
        have hq2 : wrap64 ((v.n7 : Int) + v.n6 + v.n11) = ((v.n7 + v.n6 + v.n11 : Nat) : Int) := by unfold wrap64; omega
        have hq3 : decide ((nB : Int) ≤ (v.n7 : Int) + v.n6 + v.n11) = true := by simp; omega
        go_wp2_with fail
        go_ret
        exact ⟨by simp, below2 HB3.out HBR.out⟩
    · obtain rfl : k = nA := by have h := sub_end (by rw [List.length_map, HNB.out]; omega) HSB.out; rw [List.length_map, HNA.out] at h; omega
      have s7 : wr.cell? ⟨w.heap.size, 7, none⟩ = some (.slice v.A7 v.n7 v.c7) := cell_of_blk (block_below HBR.out HX3.out) 7
      have s6 : wr.cell? ⟨w.heap.size, 6, none⟩ = some (.slice v.A6 v.n6 v.c6) := cell_of_blk (block_below HBR.out HX3.out) 6
      have s11 : wr.cell? ⟨w.heap.size, 11, none⟩ = some (.slice v.A11 v.n11 v.c11) := cell_of_blk (block_below HBR.out HX3.out) 11
      have hq : nB ≤ v.n7 + v.n6 + v.n11 ∧ v.n7 + v.n6 + v.n11 ≤ 1048576 := by have h1 := HLNB.out; have h2 := HSM.out; rw [HN7.out, HN6.out, HN11.out] at h1 h2; exact ⟨h1, h2⟩
      have hq1 : wrap64 ((v.n7 : Int) + v.n6) = ((v.n7 + v.n6 : Nat) : Int) := by unfold wrap64; omega
      have hq2 : wrap64 ((v.n7 : Int) + v.n6 + v.n11) = ((v.n7 + v.n6 + v.n11 : Nat) : Int) := by unfold wrap64; omega
      have hq3 : decide ((nB : Int) ≤ (v.n7 : Int) + v.n6 + v.n11) = true := by simp; omega
      go_wp2_with fail
      go_ret
      exact ⟨by simp, below2 HB3.out HBR.out⟩
end Go.Proofs.YtfjdllpacdobdaaGreat
/-
  The arguments of the laws, opened: values, variables, records as data. Printed by genopen.py.
-/
set_option linter.unusedVariables false
set_option linter.unusedSimpArgs false
namespace Go.Proofs.YtfjdllpacdobdaaGreat
open Go Go.RowKit Go.Proofs.Base Go.WideShapes Go.ChangeShapes
theorem cells_int : Tryz.prog.cellsOf 3 = 1 := by kernel_rfl
theorem cells_int64 : Tryz.prog.cellsOf 2 = 1 := by kernel_rfl
theorem cells_uint64 : Tryz.prog.cellsOf 22 = 1 := by kernel_rfl
theorem cells_string : Tryz.prog.cellsOf 9 = 1 := by kernel_rfl
theorem cells_vars : Tryz.prog.cellsOf 69 = 1 := by kernel_rfl
theorem cells_value : Tryz.prog.cellsOf 114 = 3 := by kernel_rfl
theorem cells_var : Tryz.prog.cellsOf 116 = 4 := by kernel_rfl
section
variable {H : Type} {enc : TypeId × Value → H} {w : World} {base : Nat} {spare : Nat → Bool} {held : Bool}
def Light (t : TypeId) (d : DataW H) : Prop := ∀ n ∈ d.weights Tryz.prog t, n ≤ 140737488351232
theorem light_part {t : TypeId} {fs : Array Field} {ds : List (DataW H)} (hu : Tryz.prog.underlying t = some (.struct fs)) (h : Light t (.agg ds)) {j : Nat} {f : Field} {d : DataW H} (hf : fs[j]? = some f) (hd : ds[j]? = some d) : Light f.type d := by
  intro n hn
  refine h n ?_
  simp only [DataW.weights, hu]
  exact DataW.weights_mem_each (j := j) (by simp [hf]) hd n hn
theorem mem_weightsAll {e : TypeId} : ∀ {l : List (DataW H)} {d : DataW H}, d ∈ l → ∀ n ∈ d.weights Tryz.prog e, n ∈ DataW.weightsAll Tryz.prog e l
  | x :: r, d, h, n, hn => by
    simp only [DataW.weightsAll, List.mem_append]
    rcases List.mem_cons.1 h with rfl | h
    · exact .inl hn
    · exact .inr (mem_weightsAll h n hn)
theorem light_elem {t e : TypeId} {es sp : List (DataW H)} (hu : Tryz.prog.underlying t = some (.slice e)) (h : Light t (.slice es sp)) {d : DataW H} (hd : d ∈ es) : Light e d := by
  intro n hn
  refine h n ?_
  simp only [DataW.weights, hu, List.mem_cons, List.mem_append]
  exact .inr (.inl (mem_weightsAll hd n hn))
theorem fld {fs : Array Field} {cs : List Value} {xs : List (DataW H × List MemPlace)} {m : Nat} (hf : ∀ (i : Nat) (f : Field), fs[i]? = some f → DataW.trod enc Tryz.prog w base spare held m f.type ((cs.drop f.offset).take (Tryz.prog.cellsOf f.type)) = xs[i]?)
    {i : Nat} {f : Field} (hi : fs[i]? = some f) {t : TypeId} (ht : f.type = t) {k : Nat} (hk : Tryz.prog.cellsOf t = k) {c : List Value} (hc : (cs.drop f.offset).take k = c) {x : DataW H × List MemPlace} (hx : xs[i]? = some x) : DataW.trod enc Tryz.prog w base spare held m t c = some x := by
  have h := hf i f hi
  rw [ht, hk, hc, hx] at h
  exact h
theorem read_i64 {t : TypeId} {n : Nat} {c : Value} {x : DataW H × List MemPlace} (hu : Tryz.prog.underlying t = some (.int .i64)) (h : DataW.trod enc Tryz.prog w base spare held n t [c] = some x) : ∃ k, c = .int .i64 k ∧ i64 k := by
  obtain ⟨k, e, _, wk⟩ := DataW.trod_int hu h
  exact ⟨k, by simpa using e, by have := bounds_i64 wk; exact this⟩
theorem read_u64 {t : TypeId} {n : Nat} {c : Value} {x : DataW H × List MemPlace} (hu : Tryz.prog.underlying t = some (.int .u64)) (h : DataW.trod enc Tryz.prog w base spare held n t [c] = some x) : ∃ k, c = .int .u64 k ∧ u64 k := by
  obtain ⟨k, e, _, wk⟩ := DataW.trod_int hu h
  exact ⟨k, by simpa using e, by have := bounds_u64 wk; exact this⟩
theorem read_str {t : TypeId} {n : Nat} {c : Value} {x : DataW H × List MemPlace} (hu : Tryz.prog.underlying t = some .string) (h : DataW.trod enc Tryz.prog w base spare held n t [c] = some x) (hl : Light t x.1) : ∃ s, c = .string s ∧ okS s := by
  obtain ⟨s, e, rfl, _⟩ := DataW.trod_string hu h
  refine ⟨s, by simpa using e, ?_⟩
  have := hl s.data.toList.length (by simp [DataW.weights])
  exact Nat.le_trans (by show s.data.size ≤ _; simp) this
set_option maxRecDepth 100000 in
theorem read_value {n : Nat} {cs : List Value} {x : DataW H × List MemPlace} (h : DataW.trod enc Tryz.prog w base spare held n 114 cs = some x) (hl : Light 114 x.1) : ∃ v : GVal, cs = v.cells ∧ v.wf := by
  obtain ⟨xs, m, _, rfl, hcl, hlen, hf⟩ := DataW.trod_struct Tryz.underlying114 h
  match cs, hcl.trans cells_value, xs, hlen with
  | [c0, c1, c2], _, [x0, x1, x2], _ =>
    have g0 := fld hf (i := 0) rfl rfl cells_int (c := [c0]) rfl (x := x0) rfl
    have g1 := fld hf (i := 1) rfl rfl cells_int64 (c := [c1]) rfl (x := x1) rfl
    have g2 := fld hf (i := 2) rfl rfl cells_string (c := [c2]) rfl (x := x2) rfl
    obtain ⟨k, rfl, wk⟩ := read_i64 Tryz.underlying3 (x := x0) g0
    obtain ⟨l, rfl, wl⟩ := read_i64 Tryz.underlying2 (x := x1) g1
    obtain ⟨s, rfl, ws⟩ := read_str Tryz.underlying9 (x := x2) g2 (light_part Tryz.underlying114 hl (j := 2) rfl rfl)
    exact ⟨⟨k, l, s⟩, rfl, wk, wl, ws⟩
set_option maxRecDepth 100000 in
theorem read_var {n : Nat} {cs : List Value} {x : DataW H × List MemPlace} (h : DataW.trod enc Tryz.prog w base spare held n 116 cs = some x) (hl : Light 116 x.1) : ∃ v : GVar, cs = v.cells ∧ v.wf := by
  obtain ⟨xs, m, _, rfl, hcl, hlen, hf⟩ := DataW.trod_struct Tryz.underlying116 h
  match cs, hcl.trans cells_var, xs, hlen with
  | [c0, c1, c2, c3], _, [x0, x1], _ =>
    have g0 := fld hf (i := 0) rfl rfl cells_string (c := [c0]) rfl (x := x0) rfl
    have g1 := fld hf (i := 1) rfl rfl cells_value (c := [c1, c2, c3]) rfl (x := x1) rfl
    obtain ⟨s, rfl, ws⟩ := read_str Tryz.underlying9 (x := x0) g0 (light_part Tryz.underlying116 hl (j := 0) rfl rfl)
    obtain ⟨v, hv, wv⟩ := read_value (x := x1) (cs := [c1, c2, c3]) g1 (light_part Tryz.underlying116 hl (j := 1) rfl rfl)
    obtain ⟨rfl, rfl, rfl⟩ : c1 = .int .i64 v.k ∧ c2 = .int .i64 v.n ∧ c3 = .string v.s := by simpa [GVal.cells] using hv
    exact ⟨⟨s, v⟩, rfl, ws, wv⟩
end
end Go.Proofs.YtfjdllpacdobdaaGreat
/-
  Lists among a law's arguments, opened, whatever their elements: variables, records. By hand.
-/
set_option linter.unusedVariables false
set_option linter.unusedSimpArgs false
namespace Go.Proofs.YtfjdllpacdobdaaGreat
open Go Go.RowKit Go.Proofs.Base Go.WideShapes Go.ChangeShapes
section
variable {H : Type} {enc : TypeId × Value → H} {w : World} {base : Nat} {spare : Nat → Bool} {held : Bool}
theorem read_rows {α : Type} {t e : TypeId} {K B : Nat} {ec : α → List Value} (Good : α → Prop) (hne : Nonempty α) (hu : Tryz.prog.underlying t = some (.slice e)) (hK : Tryz.prog.cellsOf e = K) (hB : Tryz.prog.bytesOf e = B) (hlen : ∀ x, (ec x).length = K) (hK0 : 0 < K)
    (rd : ∀ {n : Nat} {cs : List Value} {x : DataW H × List MemPlace}, DataW.trod enc Tryz.prog w base spare held n e cs = some x → Light e x.1 → ∃ v : α, cs = ec v ∧ Good v)
    {n : Nat} {c : Value} {x : DataW H × List MemPlace} (h : DataW.trod enc Tryz.prog w base spare held n t [c] = some x) (hl : Light t x.1) :
    ∃ l : List α, Row w (fun _ => True) K l.length c (l.flatMap ec) ∧ (∀ y ∈ l, Good y) ∧ l.length * B ≤ 140737488351232 := by
  rcases Go.Deep.open_slice hu h with ⟨hcs, _⟩ | ⟨a, len, cap, m, n', D, Pl, hcs, _, hlc, hcm, hm, rfl, hi⟩
  · obtain rfl : c = .slice none 0 0 := by simpa using hcs
    exact ⟨[], Row.nil _ _ _, (fun y hy => by cases hy), by simp⟩
  · obtain rfl : c = .slice (some a) len cap := by simpa using hcs
    have hlm : len ≤ m := by rw [hm]; split <;> omega
    have hsz : len * B ≤ 140737488351232 := by
      have := hl ((((List.range len).map D).length + ((List.range (m - len)).map fun j => D (len + j)).length) * Tryz.prog.bytesOf e) (by
        simp only [DataW.weights, hu]
        exact List.mem_cons_self)
      rw [hB] at this
      simp only [List.length_map, List.length_range] at this
      exact Nat.le_trans (Nat.mul_le_mul_right _ (Nat.le_add_right _ _)) this
    have hex : ∀ i, ∃ v : α, i < len → Good v ∧ ∀ j u, (ec v)[j]? = some u → w.cell? (a.add (i * K + j)) = some u := by
      intro i
      by_cases hil : i < len
      · obtain ⟨cs', hc, ht⟩ := hi i (by omega)
        rw [hK] at hc
        obtain ⟨v, rfl, wv⟩ := rd ht (light_elem hu hl (List.mem_map.2 ⟨i, List.mem_range.2 hil, rfl⟩))
        obtain ⟨_, hcl, hat⟩ := World.cells?_some hc
        refine ⟨v, fun _ => ⟨wv, fun j u hj => ?_⟩⟩
        have hjK : j < K := by have := (List.getElem?_eq_some_iff.1 hj).1; rwa [hlen] at this
        have := hat j hjK
        rw [← Go.Deep.add_add, this, hj]
      · exact ⟨Classical.choice hne, fun h => absurd h hil⟩
    obtain ⟨f, hf⟩ := Classical.axiomOfChoice hex
    refine ⟨(List.range len).map f, ⟨some a, cap, by simp, by simpa using hlc, hcm, ?_, fun h => (nomatch h), fun hn => ?_⟩, fun y hy => ?_, by simpa using hsz⟩
    · rw [flat_len hlen]
    · have hn' : 0 < len := by simpa using hn
      have h0 := (hf 0 hn').2 0 ((ec (f 0))[0]'(by rw [hlen]; exact hK0)) (List.getElem?_eq_getElem _)
      obtain ⟨b, o, s⟩ := a
      have hs : s = none := by simpa [Addr.add] using World.cell?_spot h0
      subst hs
      refine ⟨b, o, rfl, trivial, World.block_lt_of_cell? w _ (by simpa [Base.add_plain] using h0), fun j u hu => ?_⟩
      have hj : j < ((List.range len).map f).length * K := by rw [← flat_len hlen]; exact (List.getElem?_eq_some_iff.1 hu).1
      have hj2 : j < len * K := by simpa using hj
      have hi3 : j / K < len := Nat.div_lt_of_lt_mul (by rw [Nat.mul_comm]; exact hj2)
      have hidx : j / K < ((List.range len).map f).length := by simpa using hi3
      have hmod : j % K < K := Nat.mod_lt _ hK0
      have hjj : j = j / K * K + j % K := by rw [Nat.mul_comm]; exact (Nat.div_add_mod j K).symm
      have hfe : ((List.range len).map f)[j / K] = f (j / K) := by simp
      have hv : (ec (f (j / K)))[j % K]? = some u := by
        rw [← hfe, ← flat_at (enc := ec) hlen hidx (j % K) hmod, ← hjj]
        exact hu
      have h3 := (hf (j / K) hi3).2 (j % K) u hv
      rw [Base.add_plain, ← hjj] at h3
      exact h3
    · obtain ⟨i, hi', rfl⟩ := List.mem_map.1 hy
      exact (hf i (List.mem_range.1 hi')).1
structure ERec where
  r : GRec
  vA : Option Addr
  vN : Nat
  vC : Nat
def encRec (x : ERec) : List Value := [.int .i64 x.r.cls, .int .i64 x.r.kind, .int .u64 x.r.frm, .int .i64 x.r.time, .int .u64 x.r.key, .int .u64 x.r.key2, .int .u64 x.r.key3, .int .i64 x.r.n, .int .i64 x.r.m, .string x.r.a, .string x.r.b, .string x.r.c, .slice x.vA x.vN x.vC]
def GoodRec (w : World) (x : ERec) : Prop := x.r.wf ∧ VarsR w (fun _ => True) x.vA x.vN x.vC x.r.vars
def Recs (w : World) (v : Value) (l : List ERec) : Prop := Row w (fun _ => True) 13 l.length v (l.flatMap encRec) ∧ (∀ x ∈ l, GoodRec w x) ∧ l.length * 144 ≤ 140737488351232
theorem Recs.below {w w' : World} {v : Value} {l : List ERec} (h : Recs w v l) (hb : Below w.heap.size w w') : Recs w' v l :=
  ⟨h.1.below hb, fun x hx => ⟨(h.2.1 x hx).1, (h.2.1 x hx).2.1, (h.2.1 x hx).2.2.1, (h.2.1 x hx).2.2.2.below hb⟩, h.2.2⟩
theorem Recs.open_ {w : World} {v : Value} {l : List ERec} (h : Recs w v l) : ∃ A c, v = .slice A l.length c ∧ l.length ≤ c ∧ c ≤ 9223372036854775807 := h.1.open_
section
variable {H : Type} {enc : TypeId × Value → H} {w : World} {base : Nat} {spare : Nat → Bool} {held : Bool}
theorem read_varsR {n : Nat} {c : Value} {x : DataW H × List MemPlace} (h : DataW.trod enc Tryz.prog w base spare held n 69 [c] = some x) (hl : Light 69 x.1) :
    ∃ l : List GVar, Row w (fun _ => True) 4 l.length c (l.flatMap GVar.cells) ∧ (∀ y ∈ l, y.wf) ∧ l.length * 48 ≤ 140737488351232 :=
  read_rows (ec := GVar.cells) GVar.wf ⟨⟨ByteArray.empty, zeroV⟩⟩ Tryz.underlying69 cells_var (by kernel_rfl) (fun _ => rfl) (by decide) (fun h hl => read_var h hl) h hl
end
end
end Go.Proofs.YtfjdllpacdobdaaGreat
/-
  A State among a law's arguments, opened. Printed by gfold22.py.
-/
set_option linter.unusedVariables false
set_option linter.unusedSimpArgs false
namespace Go.Proofs.YtfjdllpacdobdaaGreat
open Go Go.RowKit Go.Proofs.Base Go.WideShapes Go.ChangeShapes
theorem cellsO_bool : Tryz.prog.cellsOf 4 = 1 := by kernel_rfl
theorem cellsO_u64s : Tryz.prog.cellsOf 85 = 1 := by kernel_rfl
theorem cellsO_state : Tryz.prog.cellsOf 33 = 12 := by kernel_rfl
theorem cellsO_Proc : Tryz.prog.cellsOf 92 = 2 := by kernel_rfl
theorem cellsO_sProc : Tryz.prog.cellsOf 23 = 1 := by kernel_rfl
theorem cellsO_Inst : Tryz.prog.cellsOf 104 = 3 := by kernel_rfl
theorem cellsO_sInst : Tryz.prog.cellsOf 24 = 1 := by kernel_rfl
theorem cellsO_Tok : Tryz.prog.cellsOf 58 = 6 := by kernel_rfl
theorem cellsO_sTok : Tryz.prog.cellsOf 25 = 1 := by kernel_rfl
theorem cellsO_Job : Tryz.prog.cellsOf 45 = 6 := by kernel_rfl
theorem cellsO_sJob : Tryz.prog.cellsOf 26 = 1 := by kernel_rfl
theorem cellsO_Tim : Tryz.prog.cellsOf 84 = 3 := by kernel_rfl
theorem cellsO_sTim : Tryz.prog.cellsOf 27 = 1 := by kernel_rfl
theorem cellsO_Sub : Tryz.prog.cellsOf 98 = 6 := by kernel_rfl
theorem cellsO_sSub : Tryz.prog.cellsOf 28 = 1 := by kernel_rfl
theorem cellsO_Kept : Tryz.prog.cellsOf 101 = 3 := by kernel_rfl
theorem cellsO_sKept : Tryz.prog.cellsOf 29 = 1 := by kernel_rfl
theorem cellsO_Lst : Tryz.prog.cellsOf 107 = 7 := by kernel_rfl
theorem cellsO_sLst : Tryz.prog.cellsOf 30 = 1 := by kernel_rfl
theorem cellsO_Msg : Tryz.prog.cellsOf 87 = 7 := by kernel_rfl
theorem cellsO_sMsg : Tryz.prog.cellsOf 31 = 1 := by kernel_rfl
section
variable {H : Type} {enc : TypeId × Value → H} {w : World} {base : Nat} {spare : Nat → Bool} {held : Bool}
theorem read_boolv {t : TypeId} {n : Nat} {c : Value} {x : DataW H × List MemPlace} (hu : Tryz.prog.underlying t = some .bool) (h : DataW.trod enc Tryz.prog w base spare held n t [c] = some x) : ∃ b, c = .bool b := by
  obtain ⟨b, e, _⟩ := DataW.trod_bool hu h
  exact ⟨b, by simpa using e⟩
theorem read_u64s {n : Nat} {c : Value} {x : DataW H × List MemPlace} (h : DataW.trod enc Tryz.prog w base spare held n 85 [c] = some x) (hl : Light 85 x.1) :
    ∃ l : List Int, Row w (fun _ => True) 1 l.length c (l.flatMap encU64) ∧ (∀ y ∈ l, u64 y) ∧ l.length * 8 ≤ 140737488351232 :=
  read_rows (ec := encU64) u64 ⟨0⟩ Tryz.underlying85 cells_uint64 (by kernel_rfl) lenU64 (by decide) (fun {n cs x} h hl => by
    obtain ⟨k, e, _, wk⟩ := DataW.trod_int Tryz.underlying22 h
    exact ⟨k, by simpa [encU64] using e, by have := bounds_u64 wk; exact this⟩) h hl
def GoodProc (w : World) (x : EProc) : Prop := (okS x.id) ∧ (okS x.bts)
set_option maxRecDepth 100000 in
theorem read_Proc {n : Nat} {cs : List Value} {x : DataW H × List MemPlace} (h : DataW.trod enc Tryz.prog w base spare held n 92 cs = some x) (hl : Light 92 x.1) : ∃ v : EProc, cs = encProc v ∧ GoodProc w v := by
  obtain ⟨xs, m, _, rfl, hcl, hlen, hf⟩ := DataW.trod_struct Tryz.underlying92 h
  match cs, hcl.trans cellsO_Proc, xs, hlen with
  | [c0, c1], _, [x0, x1], _ =>
    have g0 := fld hf (i := 0) rfl rfl cells_string (c := [c0]) rfl (x := x0) rfl
    obtain ⟨v0, rfl, w0⟩ := read_str Tryz.underlying9 (x := x0) g0 (light_part Tryz.underlying92 hl (j := 0) rfl rfl)
    have g1 := fld hf (i := 1) rfl rfl cells_string (c := [c1]) rfl (x := x1) rfl
    obtain ⟨v1, rfl, w1⟩ := read_str Tryz.underlying9 (x := x1) g1 (light_part Tryz.underlying92 hl (j := 1) rfl rfl)
    exact ⟨⟨v0, v1⟩, rfl, w0, w1⟩
theorem reads_Proc {n : Nat} {c : Value} {x : DataW H × List MemPlace} (h : DataW.trod enc Tryz.prog w base spare held n 23 [c] = some x) (hl : Light 23 x.1) :
    ∃ l : List EProc, Row w (fun _ => True) 2 l.length c (l.flatMap encProc) ∧ (∀ y ∈ l, GoodProc w y) ∧ l.length * 32 ≤ 140737488351232 :=
  read_rows (ec := encProc) (GoodProc w) ⟨⟨⟨#[]⟩, ⟨#[]⟩⟩⟩ Tryz.underlying23 cellsO_Proc (by kernel_rfl) lenProc (by decide) (fun h hl => read_Proc h hl) h hl
def GoodInst (w : World) (x : EInst) : Prop := (u64 x.key) ∧ (okS x.id) ∧ (VarsR w (fun _ => True) x.vA x.vN x.vC x.vars ∧ (∀ y ∈ x.vars, y.wf))
set_option maxRecDepth 100000 in
theorem read_Inst {n : Nat} {cs : List Value} {x : DataW H × List MemPlace} (h : DataW.trod enc Tryz.prog w base spare held n 104 cs = some x) (hl : Light 104 x.1) : ∃ v : EInst, cs = encInst v ∧ GoodInst w v := by
  obtain ⟨xs, m, _, rfl, hcl, hlen, hf⟩ := DataW.trod_struct Tryz.underlying104 h
  match cs, hcl.trans cellsO_Inst, xs, hlen with
  | [c0, c1, c2], _, [x0, x1, x2], _ =>
    have g0 := fld hf (i := 0) rfl rfl cells_uint64 (c := [c0]) rfl (x := x0) rfl
    obtain ⟨v0, rfl, w0⟩ := read_u64 Tryz.underlying22 (x := x0) g0
    have g1 := fld hf (i := 1) rfl rfl cells_string (c := [c1]) rfl (x := x1) rfl
    obtain ⟨v1, rfl, w1⟩ := read_str Tryz.underlying9 (x := x1) g1 (light_part Tryz.underlying104 hl (j := 1) rfl rfl)
    have g2 := fld hf (i := 2) rfl rfl cells_vars (c := [c2]) rfl (x := x2) rfl
    obtain ⟨l2, r2, y2, z2⟩ := read_varsR (x := x2) g2 (light_part Tryz.underlying104 hl (j := 2) rfl rfl)
    obtain ⟨A2, C2, e2, _, _⟩ := r2.open_
    subst e2
    exact ⟨⟨v0, v1, A2, l2.length, C2, l2⟩, rfl, w0, w1, ⟨⟨rfl, (by show l2.length * 48 ≤ _; omega), r2⟩, y2⟩⟩
theorem reads_Inst {n : Nat} {c : Value} {x : DataW H × List MemPlace} (h : DataW.trod enc Tryz.prog w base spare held n 24 [c] = some x) (hl : Light 24 x.1) :
    ∃ l : List EInst, Row w (fun _ => True) 3 l.length c (l.flatMap encInst) ∧ (∀ y ∈ l, GoodInst w y) ∧ l.length * 48 ≤ 140737488351232 :=
  read_rows (ec := encInst) (GoodInst w) ⟨⟨0, ⟨#[]⟩, none, 0, 0, []⟩⟩ Tryz.underlying24 cellsO_Inst (by kernel_rfl) lenInst (by decide) (fun h hl => read_Inst h hl) h hl
def GoodTok (w : World) (x : ETok) : Prop := (u64 x.key) ∧ (u64 x.inst) ∧ (u64 x.scope) ∧ (i64 x.node) ∧ (i64 x.flow) ∧ (okS x.stuck)
set_option maxRecDepth 100000 in
theorem read_Tok {n : Nat} {cs : List Value} {x : DataW H × List MemPlace} (h : DataW.trod enc Tryz.prog w base spare held n 58 cs = some x) (hl : Light 58 x.1) : ∃ v : ETok, cs = encTok v ∧ GoodTok w v := by
  obtain ⟨xs, m, _, rfl, hcl, hlen, hf⟩ := DataW.trod_struct Tryz.underlying58 h
  match cs, hcl.trans cellsO_Tok, xs, hlen with
  | [c0, c1, c2, c3, c4, c5], _, [x0, x1, x2, x3, x4, x5], _ =>
    have g0 := fld hf (i := 0) rfl rfl cells_uint64 (c := [c0]) rfl (x := x0) rfl
    obtain ⟨v0, rfl, w0⟩ := read_u64 Tryz.underlying22 (x := x0) g0
    have g1 := fld hf (i := 1) rfl rfl cells_uint64 (c := [c1]) rfl (x := x1) rfl
    obtain ⟨v1, rfl, w1⟩ := read_u64 Tryz.underlying22 (x := x1) g1
    have g2 := fld hf (i := 2) rfl rfl cells_uint64 (c := [c2]) rfl (x := x2) rfl
    obtain ⟨v2, rfl, w2⟩ := read_u64 Tryz.underlying22 (x := x2) g2
    have g3 := fld hf (i := 3) rfl rfl cells_int (c := [c3]) rfl (x := x3) rfl
    obtain ⟨v3, rfl, w3⟩ := read_i64 Tryz.underlying3 (x := x3) g3
    have g4 := fld hf (i := 4) rfl rfl cells_int (c := [c4]) rfl (x := x4) rfl
    obtain ⟨v4, rfl, w4⟩ := read_i64 Tryz.underlying3 (x := x4) g4
    have g5 := fld hf (i := 5) rfl rfl cells_string (c := [c5]) rfl (x := x5) rfl
    obtain ⟨v5, rfl, w5⟩ := read_str Tryz.underlying9 (x := x5) g5 (light_part Tryz.underlying58 hl (j := 5) rfl rfl)
    exact ⟨⟨v0, v1, v2, v3, v4, v5⟩, rfl, w0, w1, w2, w3, w4, w5⟩
theorem reads_Tok {n : Nat} {c : Value} {x : DataW H × List MemPlace} (h : DataW.trod enc Tryz.prog w base spare held n 25 [c] = some x) (hl : Light 25 x.1) :
    ∃ l : List ETok, Row w (fun _ => True) 6 l.length c (l.flatMap encTok) ∧ (∀ y ∈ l, GoodTok w y) ∧ l.length * 56 ≤ 140737488351232 :=
  read_rows (ec := encTok) (GoodTok w) ⟨⟨0, 0, 0, 0, 0, ⟨#[]⟩⟩⟩ Tryz.underlying25 cellsO_Tok (by kernel_rfl) lenTok (by decide) (fun h hl => read_Tok h hl) h hl
def GoodJob (w : World) (x : EJob) : Prop := (u64 x.key) ∧ (u64 x.token) ∧ (okS x.typ) ∧ (i64 x.retries) ∧ (okS x.worker) ∧ (i64 x.till)
set_option maxRecDepth 100000 in
theorem read_Job {n : Nat} {cs : List Value} {x : DataW H × List MemPlace} (h : DataW.trod enc Tryz.prog w base spare held n 45 cs = some x) (hl : Light 45 x.1) : ∃ v : EJob, cs = encJob v ∧ GoodJob w v := by
  obtain ⟨xs, m, _, rfl, hcl, hlen, hf⟩ := DataW.trod_struct Tryz.underlying45 h
  match cs, hcl.trans cellsO_Job, xs, hlen with
  | [c0, c1, c2, c3, c4, c5], _, [x0, x1, x2, x3, x4, x5], _ =>
    have g0 := fld hf (i := 0) rfl rfl cells_uint64 (c := [c0]) rfl (x := x0) rfl
    obtain ⟨v0, rfl, w0⟩ := read_u64 Tryz.underlying22 (x := x0) g0
    have g1 := fld hf (i := 1) rfl rfl cells_uint64 (c := [c1]) rfl (x := x1) rfl
    obtain ⟨v1, rfl, w1⟩ := read_u64 Tryz.underlying22 (x := x1) g1
    have g2 := fld hf (i := 2) rfl rfl cells_string (c := [c2]) rfl (x := x2) rfl
    obtain ⟨v2, rfl, w2⟩ := read_str Tryz.underlying9 (x := x2) g2 (light_part Tryz.underlying45 hl (j := 2) rfl rfl)
    have g3 := fld hf (i := 3) rfl rfl cells_int (c := [c3]) rfl (x := x3) rfl
    obtain ⟨v3, rfl, w3⟩ := read_i64 Tryz.underlying3 (x := x3) g3
    have g4 := fld hf (i := 4) rfl rfl cells_string (c := [c4]) rfl (x := x4) rfl
    obtain ⟨v4, rfl, w4⟩ := read_str Tryz.underlying9 (x := x4) g4 (light_part Tryz.underlying45 hl (j := 4) rfl rfl)
    have g5 := fld hf (i := 5) rfl rfl cells_int64 (c := [c5]) rfl (x := x5) rfl
    obtain ⟨v5, rfl, w5⟩ := read_i64 Tryz.underlying2 (x := x5) g5
    exact ⟨⟨v0, v1, v2, v3, v4, v5⟩, rfl, w0, w1, w2, w3, w4, w5⟩
theorem reads_Job {n : Nat} {c : Value} {x : DataW H × List MemPlace} (h : DataW.trod enc Tryz.prog w base spare held n 26 [c] = some x) (hl : Light 26 x.1) :
    ∃ l : List EJob, Row w (fun _ => True) 6 l.length c (l.flatMap encJob) ∧ (∀ y ∈ l, GoodJob w y) ∧ l.length * 64 ≤ 140737488351232 :=
  read_rows (ec := encJob) (GoodJob w) ⟨⟨0, 0, ⟨#[]⟩, 0, ⟨#[]⟩, 0⟩⟩ Tryz.underlying26 cellsO_Job (by kernel_rfl) lenJob (by decide) (fun h hl => read_Job h hl) h hl
def GoodTim (w : World) (x : ETim) : Prop := (u64 x.token) ∧ (i64 x.node) ∧ (i64 x.due)
set_option maxRecDepth 100000 in
theorem read_Tim {n : Nat} {cs : List Value} {x : DataW H × List MemPlace} (h : DataW.trod enc Tryz.prog w base spare held n 84 cs = some x) (hl : Light 84 x.1) : ∃ v : ETim, cs = encTim v ∧ GoodTim w v := by
  obtain ⟨xs, m, _, rfl, hcl, hlen, hf⟩ := DataW.trod_struct Tryz.underlying84 h
  match cs, hcl.trans cellsO_Tim, xs, hlen with
  | [c0, c1, c2], _, [x0, x1, x2], _ =>
    have g0 := fld hf (i := 0) rfl rfl cells_uint64 (c := [c0]) rfl (x := x0) rfl
    obtain ⟨v0, rfl, w0⟩ := read_u64 Tryz.underlying22 (x := x0) g0
    have g1 := fld hf (i := 1) rfl rfl cells_int (c := [c1]) rfl (x := x1) rfl
    obtain ⟨v1, rfl, w1⟩ := read_i64 Tryz.underlying3 (x := x1) g1
    have g2 := fld hf (i := 2) rfl rfl cells_int64 (c := [c2]) rfl (x := x2) rfl
    obtain ⟨v2, rfl, w2⟩ := read_i64 Tryz.underlying2 (x := x2) g2
    exact ⟨⟨v0, v1, v2⟩, rfl, w0, w1, w2⟩
theorem reads_Tim {n : Nat} {c : Value} {x : DataW H × List MemPlace} (h : DataW.trod enc Tryz.prog w base spare held n 27 [c] = some x) (hl : Light 27 x.1) :
    ∃ l : List ETim, Row w (fun _ => True) 3 l.length c (l.flatMap encTim) ∧ (∀ y ∈ l, GoodTim w y) ∧ l.length * 24 ≤ 140737488351232 :=
  read_rows (ec := encTim) (GoodTim w) ⟨⟨0, 0, 0⟩⟩ Tryz.underlying27 cellsO_Tim (by kernel_rfl) lenTim (by decide) (fun h hl => read_Tim h hl) h hl
def GoodSub (w : World) (x : ESub) : Prop := (u64 x.token) ∧ (u64 x.inst) ∧ (i64 x.node) ∧ (okS x.name) ∧ (okS x.key)
set_option maxRecDepth 100000 in
theorem read_Sub {n : Nat} {cs : List Value} {x : DataW H × List MemPlace} (h : DataW.trod enc Tryz.prog w base spare held n 98 cs = some x) (hl : Light 98 x.1) : ∃ v : ESub, cs = encSub v ∧ GoodSub w v := by
  obtain ⟨xs, m, _, rfl, hcl, hlen, hf⟩ := DataW.trod_struct Tryz.underlying98 h
  match cs, hcl.trans cellsO_Sub, xs, hlen with
  | [c0, c1, c2, c3, c4, c5], _, [x0, x1, x2, x3, x4, x5], _ =>
    have g0 := fld hf (i := 0) rfl rfl cells_uint64 (c := [c0]) rfl (x := x0) rfl
    obtain ⟨v0, rfl, w0⟩ := read_u64 Tryz.underlying22 (x := x0) g0
    have g1 := fld hf (i := 1) rfl rfl cells_uint64 (c := [c1]) rfl (x := x1) rfl
    obtain ⟨v1, rfl, w1⟩ := read_u64 Tryz.underlying22 (x := x1) g1
    have g2 := fld hf (i := 2) rfl rfl cells_int (c := [c2]) rfl (x := x2) rfl
    obtain ⟨v2, rfl, w2⟩ := read_i64 Tryz.underlying3 (x := x2) g2
    have g3 := fld hf (i := 3) rfl rfl cells_string (c := [c3]) rfl (x := x3) rfl
    obtain ⟨v3, rfl, w3⟩ := read_str Tryz.underlying9 (x := x3) g3 (light_part Tryz.underlying98 hl (j := 3) rfl rfl)
    have g4 := fld hf (i := 4) rfl rfl cells_string (c := [c4]) rfl (x := x4) rfl
    obtain ⟨v4, rfl, w4⟩ := read_str Tryz.underlying9 (x := x4) g4 (light_part Tryz.underlying98 hl (j := 4) rfl rfl)
    have g5 := fld hf (i := 5) rfl rfl cellsO_bool (c := [c5]) rfl (x := x5) rfl
    obtain ⟨v5, rfl⟩ := read_boolv Tryz.underlying4 (x := x5) g5
    exact ⟨⟨v0, v1, v2, v3, v4, v5⟩, rfl, w0, w1, w2, w3, w4⟩
theorem reads_Sub {n : Nat} {c : Value} {x : DataW H × List MemPlace} (h : DataW.trod enc Tryz.prog w base spare held n 28 [c] = some x) (hl : Light 28 x.1) :
    ∃ l : List ESub, Row w (fun _ => True) 6 l.length c (l.flatMap encSub) ∧ (∀ y ∈ l, GoodSub w y) ∧ l.length * 64 ≤ 140737488351232 :=
  read_rows (ec := encSub) (GoodSub w) ⟨⟨0, 0, 0, ⟨#[]⟩, ⟨#[]⟩, false⟩⟩ Tryz.underlying28 cellsO_Sub (by kernel_rfl) lenSub (by decide) (fun h hl => read_Sub h hl) h hl
def GoodKept (w : World) (x : EKept) : Prop := (u64 x.token) ∧ (u64 x.message) ∧ (i64 x.node)
set_option maxRecDepth 100000 in
theorem read_Kept {n : Nat} {cs : List Value} {x : DataW H × List MemPlace} (h : DataW.trod enc Tryz.prog w base spare held n 101 cs = some x) (hl : Light 101 x.1) : ∃ v : EKept, cs = encKept v ∧ GoodKept w v := by
  obtain ⟨xs, m, _, rfl, hcl, hlen, hf⟩ := DataW.trod_struct Tryz.underlying101 h
  match cs, hcl.trans cellsO_Kept, xs, hlen with
  | [c0, c1, c2], _, [x0, x1, x2], _ =>
    have g0 := fld hf (i := 0) rfl rfl cells_uint64 (c := [c0]) rfl (x := x0) rfl
    obtain ⟨v0, rfl, w0⟩ := read_u64 Tryz.underlying22 (x := x0) g0
    have g1 := fld hf (i := 1) rfl rfl cells_uint64 (c := [c1]) rfl (x := x1) rfl
    obtain ⟨v1, rfl, w1⟩ := read_u64 Tryz.underlying22 (x := x1) g1
    have g2 := fld hf (i := 2) rfl rfl cells_int (c := [c2]) rfl (x := x2) rfl
    obtain ⟨v2, rfl, w2⟩ := read_i64 Tryz.underlying3 (x := x2) g2
    exact ⟨⟨v0, v1, v2⟩, rfl, w0, w1, w2⟩
theorem reads_Kept {n : Nat} {c : Value} {x : DataW H × List MemPlace} (h : DataW.trod enc Tryz.prog w base spare held n 29 [c] = some x) (hl : Light 29 x.1) :
    ∃ l : List EKept, Row w (fun _ => True) 3 l.length c (l.flatMap encKept) ∧ (∀ y ∈ l, GoodKept w y) ∧ l.length * 24 ≤ 140737488351232 :=
  read_rows (ec := encKept) (GoodKept w) ⟨⟨0, 0, 0⟩⟩ Tryz.underlying29 cellsO_Kept (by kernel_rfl) lenKept (by decide) (fun h hl => read_Kept h hl) h hl
def GoodLst (w : World) (x : ELst) : Prop := (u64 x.token) ∧ (u64 x.inst) ∧ (i64 x.node) ∧ (okS x.name) ∧ (okS x.key) ∧ (u64 x.message) ∧ (VarsR w (fun _ => True) x.vA x.vN x.vC x.vars ∧ (∀ y ∈ x.vars, y.wf))
set_option maxRecDepth 100000 in
theorem read_Lst {n : Nat} {cs : List Value} {x : DataW H × List MemPlace} (h : DataW.trod enc Tryz.prog w base spare held n 107 cs = some x) (hl : Light 107 x.1) : ∃ v : ELst, cs = encLst v ∧ GoodLst w v := by
  obtain ⟨xs, m, _, rfl, hcl, hlen, hf⟩ := DataW.trod_struct Tryz.underlying107 h
  match cs, hcl.trans cellsO_Lst, xs, hlen with
  | [c0, c1, c2, c3, c4, c5, c6], _, [x0, x1, x2, x3, x4, x5, x6], _ =>
    have g0 := fld hf (i := 0) rfl rfl cells_uint64 (c := [c0]) rfl (x := x0) rfl
    obtain ⟨v0, rfl, w0⟩ := read_u64 Tryz.underlying22 (x := x0) g0
    have g1 := fld hf (i := 1) rfl rfl cells_uint64 (c := [c1]) rfl (x := x1) rfl
    obtain ⟨v1, rfl, w1⟩ := read_u64 Tryz.underlying22 (x := x1) g1
    have g2 := fld hf (i := 2) rfl rfl cells_int (c := [c2]) rfl (x := x2) rfl
    obtain ⟨v2, rfl, w2⟩ := read_i64 Tryz.underlying3 (x := x2) g2
    have g3 := fld hf (i := 3) rfl rfl cells_string (c := [c3]) rfl (x := x3) rfl
    obtain ⟨v3, rfl, w3⟩ := read_str Tryz.underlying9 (x := x3) g3 (light_part Tryz.underlying107 hl (j := 3) rfl rfl)
    have g4 := fld hf (i := 4) rfl rfl cells_string (c := [c4]) rfl (x := x4) rfl
    obtain ⟨v4, rfl, w4⟩ := read_str Tryz.underlying9 (x := x4) g4 (light_part Tryz.underlying107 hl (j := 4) rfl rfl)
    have g5 := fld hf (i := 5) rfl rfl cells_uint64 (c := [c5]) rfl (x := x5) rfl
    obtain ⟨v5, rfl, w5⟩ := read_u64 Tryz.underlying22 (x := x5) g5
    have g6 := fld hf (i := 6) rfl rfl cells_vars (c := [c6]) rfl (x := x6) rfl
    obtain ⟨l6, r6, y6, z6⟩ := read_varsR (x := x6) g6 (light_part Tryz.underlying107 hl (j := 6) rfl rfl)
    obtain ⟨A6, C6, e6, _, _⟩ := r6.open_
    subst e6
    exact ⟨⟨v0, v1, v2, v3, v4, v5, A6, l6.length, C6, l6⟩, rfl, w0, w1, w2, w3, w4, w5, ⟨⟨rfl, (by show l6.length * 48 ≤ _; omega), r6⟩, y6⟩⟩
theorem reads_Lst {n : Nat} {c : Value} {x : DataW H × List MemPlace} (h : DataW.trod enc Tryz.prog w base spare held n 30 [c] = some x) (hl : Light 30 x.1) :
    ∃ l : List ELst, Row w (fun _ => True) 7 l.length c (l.flatMap encLst) ∧ (∀ y ∈ l, GoodLst w y) ∧ l.length * 88 ≤ 140737488351232 :=
  read_rows (ec := encLst) (GoodLst w) ⟨⟨0, 0, 0, ⟨#[]⟩, ⟨#[]⟩, 0, none, 0, 0, []⟩⟩ Tryz.underlying30 cellsO_Lst (by kernel_rfl) lenLst (by decide) (fun h hl => read_Lst h hl) h hl
def GoodMsg (w : World) (x : EMsg) : Prop := (u64 x.key) ∧ (okS x.name) ∧ (okS x.dest) ∧ (okS x.id) ∧ (i64 x.till) ∧ (VarsR w (fun _ => True) x.vA x.vN x.vC x.vars ∧ (∀ y ∈ x.vars, y.wf)) ∧ (IntsR w (fun _ => True) x.iA x.iN x.iC x.insts ∧ x.iN * 8 ≤ 140737488351232)
set_option maxRecDepth 100000 in
theorem read_Msg {n : Nat} {cs : List Value} {x : DataW H × List MemPlace} (h : DataW.trod enc Tryz.prog w base spare held n 87 cs = some x) (hl : Light 87 x.1) : ∃ v : EMsg, cs = encMsg v ∧ GoodMsg w v := by
  obtain ⟨xs, m, _, rfl, hcl, hlen, hf⟩ := DataW.trod_struct Tryz.underlying87 h
  match cs, hcl.trans cellsO_Msg, xs, hlen with
  | [c0, c1, c2, c3, c4, c5, c6], _, [x0, x1, x2, x3, x4, x5, x6], _ =>
    have g0 := fld hf (i := 0) rfl rfl cells_uint64 (c := [c0]) rfl (x := x0) rfl
    obtain ⟨v0, rfl, w0⟩ := read_u64 Tryz.underlying22 (x := x0) g0
    have g1 := fld hf (i := 1) rfl rfl cells_string (c := [c1]) rfl (x := x1) rfl
    obtain ⟨v1, rfl, w1⟩ := read_str Tryz.underlying9 (x := x1) g1 (light_part Tryz.underlying87 hl (j := 1) rfl rfl)
    have g2 := fld hf (i := 2) rfl rfl cells_string (c := [c2]) rfl (x := x2) rfl
    obtain ⟨v2, rfl, w2⟩ := read_str Tryz.underlying9 (x := x2) g2 (light_part Tryz.underlying87 hl (j := 2) rfl rfl)
    have g3 := fld hf (i := 3) rfl rfl cells_string (c := [c3]) rfl (x := x3) rfl
    obtain ⟨v3, rfl, w3⟩ := read_str Tryz.underlying9 (x := x3) g3 (light_part Tryz.underlying87 hl (j := 3) rfl rfl)
    have g4 := fld hf (i := 4) rfl rfl cells_int64 (c := [c4]) rfl (x := x4) rfl
    obtain ⟨v4, rfl, w4⟩ := read_i64 Tryz.underlying2 (x := x4) g4
    have g5 := fld hf (i := 5) rfl rfl cells_vars (c := [c5]) rfl (x := x5) rfl
    obtain ⟨l5, r5, y5, z5⟩ := read_varsR (x := x5) g5 (light_part Tryz.underlying87 hl (j := 5) rfl rfl)
    obtain ⟨A5, C5, e5, _, _⟩ := r5.open_
    subst e5
    have g6 := fld hf (i := 6) rfl rfl cellsO_u64s (c := [c6]) rfl (x := x6) rfl
    obtain ⟨l6, r6, y6, z6⟩ := read_u64s (x := x6) g6 (light_part Tryz.underlying87 hl (j := 6) rfl rfl)
    obtain ⟨A6, C6, e6, _, _⟩ := r6.open_
    subst e6
    exact ⟨⟨v0, v1, v2, v3, v4, A5, l5.length, C5, l5, A6, l6.length, C6, l6⟩, rfl, w0, w1, w2, w3, w4, ⟨⟨rfl, (by show l5.length * 48 ≤ _; omega), r5⟩, y5⟩, ⟨⟨rfl, r6⟩, z6⟩⟩
theorem reads_Msg {n : Nat} {c : Value} {x : DataW H × List MemPlace} (h : DataW.trod enc Tryz.prog w base spare held n 31 [c] = some x) (hl : Light 31 x.1) :
    ∃ l : List EMsg, Row w (fun _ => True) 7 l.length c (l.flatMap encMsg) ∧ (∀ y ∈ l, GoodMsg w y) ∧ l.length * 112 ≤ 140737488351232 :=
  read_rows (ec := encMsg) (GoodMsg w) ⟨⟨0, ⟨#[]⟩, ⟨#[]⟩, ⟨#[]⟩, 0, none, 0, 0, [], none, 0, 0, []⟩⟩ Tryz.underlying31 cellsO_Msg (by kernel_rfl) lenMsg (by decide) (fun h hl => read_Msg h hl) h hl
structure GoodSt (w : World) (v : StV) (g : GSt) : Prop where
  st : StR w (fun _ => True) v g
  nums : u64 g.pos ∧ u64 g.done ∧ u64 g.made
  procs : (∀ x ∈ g.procs, GoodProc w x) ∧ g.procs.length * 32 ≤ 140737488351232
  insts : (∀ x ∈ g.insts, GoodInst w x) ∧ g.insts.length * 48 ≤ 140737488351232
  tokens : (∀ x ∈ g.tokens, GoodTok w x) ∧ g.tokens.length * 56 ≤ 140737488351232
  jobs : (∀ x ∈ g.jobs, GoodJob w x) ∧ g.jobs.length * 64 ≤ 140737488351232
  timers : (∀ x ∈ g.timers, GoodTim w x) ∧ g.timers.length * 24 ≤ 140737488351232
  subs : (∀ x ∈ g.subs, GoodSub w x) ∧ g.subs.length * 64 ≤ 140737488351232
  kept : (∀ x ∈ g.kept, GoodKept w x) ∧ g.kept.length * 24 ≤ 140737488351232
  listed : (∀ x ∈ g.listed, GoodLst w x) ∧ g.listed.length * 88 ≤ 140737488351232
  msgs : (∀ x ∈ g.msgs, GoodMsg w x) ∧ g.msgs.length * 112 ≤ 140737488351232
theorem GoodSt.fits {w : World} {v : StV} {g : GSt} (h : GoodSt w v g) : g.fits := by
  have h1 := h.procs.2; have h2 := h.insts.2; have h3 := h.tokens.2; have h4 := h.jobs.2; have h5 := h.timers.2; have h6 := h.subs.2; have h7 := h.kept.2; have h8 := h.listed.2; have h9 := h.msgs.2
  unfold GSt.fits; omega
theorem GoodSt.wf {w : World} {v : StV} {g : GSt} (h : GoodSt w v g) : g.wf :=
  ⟨fun x hx => (h.tokens.1 x hx).1, fun x hx => (h.jobs.1 x hx).2.1, fun x hx => (h.timers.1 x hx).1, fun x hx => (h.subs.1 x hx).1⟩
theorem GoodSt.ints {w : World} {v : StV} {g : GSt} (h : GoodSt w v g) : ∀ x ∈ g.msgs, x.insts.length * 8 ≤ 140737488351232 := fun x hx => by
  have h1 := (h.msgs.1 x hx).2.2.2.2.2.2
  rw [h1.1.1]; exact h1.2
set_option maxRecDepth 100000 in
set_option maxHeartbeats 1000000 in
theorem read_state {n : Nat} {cs : List Value} {x : DataW H × List MemPlace} (h : DataW.trod enc Tryz.prog w base spare held n 33 cs = some x) (hl : Light 33 x.1) : ∃ v g, cs = v.vals.toList ∧ GoodSt w v g := by
  obtain ⟨xs, m, _, rfl, hcl, hlen, hf⟩ := DataW.trod_struct Tryz.underlying33 h
  match cs, hcl.trans cellsO_state, xs, hlen with
  | [c0, c1, c2, c3, c4, c5, c6, c7, c8, c9, c10, c11], _, [x0, x1, x2, x3, x4, x5, x6, x7, x8, x9, x10, x11], _ =>
    have g0 := fld hf (i := 0) rfl rfl cells_uint64 (c := [c0]) rfl (x := x0) rfl
    obtain ⟨v0, rfl, w0⟩ := read_u64 Tryz.underlying22 (x := x0) g0
    have g1 := fld hf (i := 1) rfl rfl cells_uint64 (c := [c1]) rfl (x := x1) rfl
    obtain ⟨v1, rfl, w1⟩ := read_u64 Tryz.underlying22 (x := x1) g1
    have g2 := fld hf (i := 2) rfl rfl cells_uint64 (c := [c2]) rfl (x := x2) rfl
    obtain ⟨v2, rfl, w2⟩ := read_u64 Tryz.underlying22 (x := x2) g2
    have g3 := fld hf (i := 3) rfl rfl cellsO_sProc (c := [c3]) rfl (x := x3) rfl
    obtain ⟨l3, r3, y3, z3⟩ := reads_Proc (x := x3) g3 (light_part Tryz.underlying33 hl (j := 3) rfl rfl)
    obtain ⟨A3, C3, e3, _, _⟩ := r3.open_
    subst e3
    have g4 := fld hf (i := 4) rfl rfl cellsO_sInst (c := [c4]) rfl (x := x4) rfl
    obtain ⟨l4, r4, y4, z4⟩ := reads_Inst (x := x4) g4 (light_part Tryz.underlying33 hl (j := 4) rfl rfl)
    obtain ⟨A4, C4, e4, _, _⟩ := r4.open_
    subst e4
    have g5 := fld hf (i := 5) rfl rfl cellsO_sTok (c := [c5]) rfl (x := x5) rfl
    obtain ⟨l5, r5, y5, z5⟩ := reads_Tok (x := x5) g5 (light_part Tryz.underlying33 hl (j := 5) rfl rfl)
    obtain ⟨A5, C5, e5, _, _⟩ := r5.open_
    subst e5
    have g6 := fld hf (i := 6) rfl rfl cellsO_sJob (c := [c6]) rfl (x := x6) rfl
    obtain ⟨l6, r6, y6, z6⟩ := reads_Job (x := x6) g6 (light_part Tryz.underlying33 hl (j := 6) rfl rfl)
    obtain ⟨A6, C6, e6, _, _⟩ := r6.open_
    subst e6
    have g7 := fld hf (i := 7) rfl rfl cellsO_sTim (c := [c7]) rfl (x := x7) rfl
    obtain ⟨l7, r7, y7, z7⟩ := reads_Tim (x := x7) g7 (light_part Tryz.underlying33 hl (j := 7) rfl rfl)
    obtain ⟨A7, C7, e7, _, _⟩ := r7.open_
    subst e7
    have g8 := fld hf (i := 8) rfl rfl cellsO_sSub (c := [c8]) rfl (x := x8) rfl
    obtain ⟨l8, r8, y8, z8⟩ := reads_Sub (x := x8) g8 (light_part Tryz.underlying33 hl (j := 8) rfl rfl)
    obtain ⟨A8, C8, e8, _, _⟩ := r8.open_
    subst e8
    have g9 := fld hf (i := 9) rfl rfl cellsO_sKept (c := [c9]) rfl (x := x9) rfl
    obtain ⟨l9, r9, y9, z9⟩ := reads_Kept (x := x9) g9 (light_part Tryz.underlying33 hl (j := 9) rfl rfl)
    obtain ⟨A9, C9, e9, _, _⟩ := r9.open_
    subst e9
    have g10 := fld hf (i := 10) rfl rfl cellsO_sLst (c := [c10]) rfl (x := x10) rfl
    obtain ⟨l10, r10, y10, z10⟩ := reads_Lst (x := x10) g10 (light_part Tryz.underlying33 hl (j := 10) rfl rfl)
    obtain ⟨A10, C10, e10, _, _⟩ := r10.open_
    subst e10
    have g11 := fld hf (i := 11) rfl rfl cellsO_sMsg (c := [c11]) rfl (x := x11) rfl
    obtain ⟨l11, r11, y11, z11⟩ := reads_Msg (x := x11) g11 (light_part Tryz.underlying33 hl (j := 11) rfl rfl)
    obtain ⟨A11, C11, e11, _, _⟩ := r11.open_
    subst e11
    exact ⟨⟨v0, v1, v2, A3, l3.length, C3, A4, l4.length, C4, A5, l5.length, C5, A6, l6.length, C6, A7, l7.length, C7, A8, l8.length, C8, A9, l9.length, C9, A10, l10.length, C10, A11, l11.length, C11⟩, ⟨v0, v1, v2, l3, l4, l5, l6, l7, l8, l9, l10, l11⟩, rfl, ⟨⟨rfl, rfl, rfl, ⟨rfl, r3⟩, ⟨rfl, r4⟩, ⟨rfl, r5⟩, ⟨rfl, r6⟩, ⟨rfl, r7⟩, ⟨rfl, r8⟩, ⟨rfl, r9⟩, ⟨rfl, r10⟩, ⟨rfl, r11⟩, fun x hx => (y4 x hx).2.2.1, fun x hx => (y10 x hx).2.2.2.2.2.2.1, fun x hx => (y11 x hx).2.2.2.2.2.1.1, fun x hx => (y11 x hx).2.2.2.2.2.2.1⟩, ⟨w0, w1, w2⟩, ⟨y3, z3⟩, ⟨y4, z4⟩, ⟨y5, z5⟩, ⟨y6, z6⟩, ⟨y7, z7⟩, ⟨y8, z8⟩, ⟨y9, z9⟩, ⟨y10, z10⟩, ⟨y11, z11⟩⟩⟩
end
end Go.Proofs.YtfjdllpacdobdaaGreat
